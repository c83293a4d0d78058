/- The walks of Reply. Conditions: the number is of 64 bits; for Itoa the library's table of powers of ten is as its text lays it. -/
import Derived.Test.YtcoohkgamogmgaaDoorReply
import Derived.Deep.RegionHeld3
import Derived.Lib.ItoaLen
namespace Go.Proofs.YtcoohkgamogmgaaDoor
open Go.RowKit

def plainF : FD := (⟨#[67, 111, 110, 116, 101, 110, 116, 45, 84, 121, 112, 101]⟩, ⟨#[116, 101, 120, 116, 47, 112, 108, 97, 105, 110]⟩)
def said (s : Int) : ByteArray := B (Lib.itoa s) ++ ⟨#[32]⟩ ++ word s ++ ⟨#[10]⟩
/-- What a Reply answers. -/
def RetReply (w : World) (s : Int) (e : Ending) (w' : World) : Prop :=
  ∃ A B c, e = .returned (.tuple #[.agg #[.int .i64 s, .string (word s), .int .i64 1, .slice A 1 1], .slice B (said s).size c]) ∧ Rd w' A 1 2 (fcells [plainF]) ∧ Rd w' B (said s).size 1 (bcells (L (said s))) ∧ Below w.heap.size w w'
/-- What a cell holds. -/
def at_ (w : World) (p : Addr) : Value := (w.cell? p).getD undef
theorem at_of {w : World} {p : Addr} {v : Value} (h : w.cell? p = some v) : w.cell? p = some (at_ w p) := by
  unfold at_; rw [h]; rfl
theorem newFree {w w1 : World} {cs : Array Value} {t : TypeId} (hb : Below (w.alloc (.cells cs t)).heap.size (w.alloc (.cells cs t)) w1) (i : Nat) : w1.frozen? ⟨w.heap.size, i, none⟩ = false := by
  rw [hb.frozen (p := ⟨w.heap.size, i, none⟩) (by simp)]
  unfold World.frozen?; rw [heap_alloc_new]; simp
/-- Four cells that may be written. -/
def Four (w : World) (b : Nat) : Prop := (w.cell? ⟨b, 0, none⟩ = some (at_ w ⟨b, 0, none⟩) ∧ w.frozen? ⟨b, 0, none⟩ = false) ∧ (w.cell? ⟨b, 1, none⟩ = some (at_ w ⟨b, 1, none⟩) ∧ w.frozen? ⟨b, 1, none⟩ = false) ∧ (w.cell? ⟨b, 2, none⟩ = some (at_ w ⟨b, 2, none⟩) ∧ w.frozen? ⟨b, 2, none⟩ = false) ∧ (w.cell? ⟨b, 3, none⟩ = some (at_ w ⟨b, 3, none⟩) ∧ w.frozen? ⟨b, 3, none⟩ = false)
def Four4 (w : World) (b : Nat) (x0 x1 x2 x3 : Value) : Prop := w.cell? ⟨b, 0, none⟩ = some x0 ∧ w.cell? ⟨b, 1, none⟩ = some x1 ∧ w.cell? ⟨b, 2, none⟩ = some x2 ∧ w.cell? ⟨b, 3, none⟩ = some x3
theorem Four.below {w w1 : World} {b : Nat} (h : Four w b) (hb : Below w.heap.size w w1) : Four w1 b := by
  obtain ⟨⟨a0, f0⟩, ⟨a1, f1⟩, ⟨a2, f2⟩, ⟨a3, f3⟩⟩ := h
  have lt := World.block_lt_of_cell? w _ a0
  exact ⟨⟨at_of ((hb.cell (p := ⟨b, 0, none⟩) lt).trans a0), (hb.frozen (p := ⟨b, 0, none⟩) lt).trans f0⟩, ⟨at_of ((hb.cell (p := ⟨b, 1, none⟩) lt).trans a1), (hb.frozen (p := ⟨b, 1, none⟩) lt).trans f1⟩, ⟨at_of ((hb.cell (p := ⟨b, 2, none⟩) lt).trans a2), (hb.frozen (p := ⟨b, 2, none⟩) lt).trans f2⟩, ⟨at_of ((hb.cell (p := ⟨b, 3, none⟩) lt).trans a3), (hb.frozen (p := ⟨b, 3, none⟩) lt).trans f3⟩⟩
theorem Four4.below {w w1 : World} {b : Nat} {x0 x1 x2 x3 : Value} (h : Four4 w b x0 x1 x2 x3) (hb : Below w.heap.size w w1) : Four4 w1 b x0 x1 x2 x3 := by
  obtain ⟨a0, a1, a2, a3⟩ := h
  have lt := World.block_lt_of_cell? w _ a0
  exact ⟨(hb.cell (p := ⟨b, 0, none⟩) lt).trans a0, (hb.cell (p := ⟨b, 1, none⟩) lt).trans a1, (hb.cell (p := ⟨b, 2, none⟩) lt).trans a2, (hb.cell (p := ⟨b, 3, none⟩) lt).trans a3⟩
theorem Four4.four {w : World} {b : Nat} {x0 x1 x2 x3 : Value} (h : Four4 w b x0 x1 x2 x3) (h0 : ∀ i, w.frozen? ⟨b, i, none⟩ = false) : Four w b :=
  ⟨⟨at_of h.1, h0 0⟩, ⟨at_of h.2.1, h0 1⟩, ⟨at_of h.2.2.1, h0 2⟩, ⟨at_of h.2.2.2, h0 3⟩⟩
theorem newFour {w : World} (x0 x1 x2 x3 : Value) (t : TypeId) : Four4 (w.alloc (.cells #[x0, x1, x2, x3] t)) w.heap.size x0 x1 x2 x3 := by
  refine ⟨?_, ?_, ?_, ?_⟩ <;> simp
theorem newFour_free {w : World} (cs : Array Value) (t : TypeId) (i : Nat) : (w.alloc (.cells cs t)).frozen? ⟨w.heap.size, i, none⟩ = false := by
  unfold World.frozen?; rw [heap_alloc_new]; simp

/-- 'Held': the answer's cells may be written, the struct's cells hold it. -/
def HeldR (w : World) (b b4 : Nat) (x0 x1 x2 x3 : Value) (A : Option Addr) (w' : World) : Prop :=
  Four4 w' b4 x0 x1 x2 x3 ∧ Four w' b ∧ (TabOk w' ∧ Rd w' A 1 2 (fcells [plainF]) ∧ Below w.heap.size w w')
theorem HeldR.below {w : World} {b b4 : Nat} {x0 x1 x2 x3 : Value} {A : Option Addr} {u v : World} (h : HeldR w b b4 x0 x1 x2 x3 A u) (hb : Below u.heap.size u v) : HeldR w b b4 x0 x1 x2 x3 A v :=
  ⟨Four4.below h.1 hb, Four.below h.2.1 hb, h.2.2.1.below hb, h.2.2.2.1.below hb, below_then h.2.2.2.2.size h.2.2.2.2 hb⟩
theorem HeldR.drew {w : World} {b b4 : Nat} {x0 x1 x2 x3 : Value} {A : Option Addr} {u : World} (h : HeldR w b b4 x0 x1 x2 x3 A u) : HeldR w b b4 x0 x1 x2 x3 A u.drew := h.below (Below.refl _ _).drew

theorem Four.set4 {u : World} {b : Nat} (h : Four u b) (x0 x1 x2 x3 : Value) : Four4 ((((u.setCell ⟨b, 0, none⟩ x0).setCell ⟨b, 1, none⟩ x1).setCell ⟨b, 2, none⟩ x2).setCell ⟨b, 3, none⟩ x3) b x0 x1 x2 x3 := by
  obtain ⟨⟨a0, f0⟩, ⟨a1, f1⟩, ⟨a2, f2⟩, ⟨a3, f3⟩⟩ := h
  have o : ∀ (w : World) (i j : Nat) (v : Value), i ≠ j → (w.setCell ⟨b, i, none⟩ v).cell? ⟨b, j, none⟩ = w.cell? ⟨b, j, none⟩ := fun w i j v h => World.cell?_setCell_other _ _ _ _ (fun e => h (by injection e))
  refine ⟨?_, ?_, ?_, ?_⟩
  · rw [o _ _ _ _ (by decide), o _ _ _ _ (by decide), o _ _ _ _ (by decide)]
    exact World.cell?_setCell_same _ _ _ a0
  · rw [o _ _ _ _ (by decide), o _ _ _ _ (by decide)]
    exact World.cell?_setCell_same _ _ _ (u := at_ u ⟨b, 1, none⟩) (by rw [o _ _ _ _ (by decide)]; exact a1)
  · rw [o _ _ _ _ (by decide)]
    exact World.cell?_setCell_same _ _ _ (u := at_ u ⟨b, 2, none⟩) (by rw [o _ _ _ _ (by decide), o _ _ _ _ (by decide)]; exact a2)
  · exact World.cell?_setCell_same _ _ _ (u := at_ u ⟨b, 3, none⟩) (by rw [o _ _ _ _ (by decide), o _ _ _ _ (by decide), o _ _ _ _ (by decide)]; exact a3)
theorem Four.set4_four {u : World} {b : Nat} (h : Four u b) (x0 x1 x2 x3 : Value) : Four ((((u.setCell ⟨b, 0, none⟩ x0).setCell ⟨b, 1, none⟩ x1).setCell ⟨b, 2, none⟩ x2).setCell ⟨b, 3, none⟩ x3) b := by
  obtain ⟨h0, h1, h2, h3⟩ := h.set4 x0 x1 x2 x3
  obtain ⟨⟨a0, f0⟩, ⟨a1, f1⟩, ⟨a2, f2⟩, ⟨a3, f3⟩⟩ := h
  refine ⟨⟨at_of h0, ?_⟩, ⟨at_of h1, ?_⟩, ⟨at_of h2, ?_⟩, ⟨at_of h3, ?_⟩⟩ <;> simp [*]
theorem Four4.far {u : World} {b b' : Nat} {y0 y1 y2 y3 : Value} (h : Four4 u b' y0 y1 y2 y3) (hne : b' ≠ b) (i : Nat) (x : Value) : Four4 (u.setCell ⟨b, i, none⟩ x) b' y0 y1 y2 y3 := by
  obtain ⟨a0, a1, a2, a3⟩ := h
  refine ⟨?_, ?_, ?_, ?_⟩ <;> rw [World.cell?_setCell_far _ _ _ _ (fun e => hne e.symm)] <;> assumption
theorem Rd.far {u : World} {B : Option Addr} {n size : Nat} {xs : List Value} (h : Rd u B n size xs) (b : Nat) (hne : 0 < n → ∀ p, B = some p → p.block ≠ b) (i : Nat) (x : Value) : Rd (u.setCell ⟨b, i, none⟩ x) B n size xs :=
  ⟨h.1, fun hn => by
    obtain ⟨c, o, rfl, hlt, hc⟩ := h.2 hn
    refine ⟨c, o, rfl, by simpa using hlt, fun j v hv => ?_⟩
    rw [World.cell?_setCell_far _ _ _ _ (fun e => hne hn _ rfl e.symm)]
    exact hc j v hv⟩
theorem Rd.set4 {u : World} {B : Option Addr} {n size : Nat} {xs : List Value} (h : Rd u B n size xs) (b : Nat) (hne : 0 < n → ∀ p, B = some p → p.block ≠ b) (x0 x1 x2 x3 : Value) : Rd ((((u.setCell ⟨b, 0, none⟩ x0).setCell ⟨b, 1, none⟩ x1).setCell ⟨b, 2, none⟩ x2).setCell ⟨b, 3, none⟩ x3) B n size xs :=
  (((h.far b hne _ _).far b hne _ _).far b hne _ _).far b hne _ _
theorem Four.lt {u : World} {b : Nat} (h : Four u b) : b < u.heap.size := World.block_lt_of_cell? u _ h.1.1
theorem HeldR.set4 {w : World} {b b4 : Nat} {x0 x1 x2 x3 : Value} {A : Option Addr} {u : World} (h : HeldR w b b4 x0 x1 x2 x3 A u) (hb : w.heap.size ≤ b) (hne : b4 ≠ b) (hA : ∀ p, A = some p → p.block ≠ b) (ht : TabOk w) (y0 y1 y2 y3 : Value) :
    HeldR w b b4 x0 x1 x2 x3 A ((((u.setCell ⟨b, 0, none⟩ y0).setCell ⟨b, 1, none⟩ y1).setCell ⟨b, 2, none⟩ y2).setCell ⟨b, 3, none⟩ y3) := by
  have hB : Below w.heap.size w ((((u.setCell ⟨b, 0, none⟩ y0).setCell ⟨b, 1, none⟩ y1).setCell ⟨b, 2, none⟩ y2).setCell ⟨b, 3, none⟩ y3) :=
    (((h.2.2.2.2.setCell (p := ⟨b, 0, none⟩) hb _).setCell (p := ⟨b, 1, none⟩) hb _).setCell (p := ⟨b, 2, none⟩) hb _).setCell (p := ⟨b, 3, none⟩) hb _
  have h4 : Four4 u b4 x0 x1 x2 x3 := h.1
  exact ⟨(((h4.far hne _ _).far hne _ _).far hne _ _).far hne _ _, h.2.1.set4_four _ _ _ _, ht.below hB, h.2.2.2.1.set4 b (fun _ => hA) _ _ _ _, hB⟩
theorem wordOf_size (s : Int) : ∀ l : List (Int × ByteArray), (∀ x ∈ l, x.2.size ≤ 31) → (wordOf s l).size ≤ 31
  | [], _ => by show (5 : Nat) ≤ 31; omega
  | x :: l, h => by
    rw [wordOf]
    split
    · exact h x (by simp)
    · exact wordOf_size s l (fun y hy => h y (by simp [hy]))
theorem word_size (s : Int) : (word s).size ≤ 31 := wordOf_size s words (by unfold words; decide)
theorem itoa_size (s : Int) (h0 : -9223372036854775808 ≤ s) (h1 : s ≤ 9223372036854775807) : (B (Lib.itoa s)).size ≤ 21 := by
  rw [B_size]; exact Lib.itoa_length_le s h0 h1
/-- '[]byte(s)' in whatever world. -/
theorem conv_fn (s : ByteArray) : ∃ (c m : World → Nat) (W : World → World), (∀ u, (convert 9 29 (.string s)).run Tryd.prog u = .ok (.slice (some ⟨u.heap.size, 0, none⟩) s.size (c u)) (W u)) ∧ ∀ u, s.size ≤ c u ∧ BBuf (W u) u.heap.size (L s) (m u) ∧ Below u.heap.size u (W u) := by
  refine ⟨fun u => (conv_sb u s).choose, fun u => (conv_sb u s).choose_spec.choose, fun u => (conv_sb u s).choose_spec.choose_spec.choose, fun u => (conv_sb u s).choose_spec.choose_spec.choose_spec.1, fun u => (conv_sb u s).choose_spec.choose_spec.choose_spec.2⟩

set_option maxRecDepth 100000 in
set_option maxHeartbeats 400000 in
theorem reply_any (s : Int) (h0 : -9223372036854775808 ≤ s) (h1 : s ≤ 9223372036854775807) (w : World) (ht : TabOk w) : Calls Tryd.prog 17 #[.int .i64 s] w (RetReply w s) := by
  go_enter Tryd.func17, Tryd.ntmps17
  go_wp2_with fail
  refine (reason_any s _).mono ?_
  rintro e w1 ⟨rfl, hb1⟩
  have hs1 := size_lt hb1
  have f1 := (newFour (w := w) (.int .i64 0) (.string ⟨#[]⟩) (.int .i64 0) (.slice none 0 0) 28).four (newFour_free _ _)
  have f2 := f1.below hb1
  have ht1 := ((ht.alloc _).below hb1)
  have hbw := below_new (Below.refl w.heap.size w) (Nat.le_refl _) hb1
  have HT0 := Lib.hid ht
  clear ht hb1 f1
  go_wp2
  obtain ⟨A, hA⟩ : ∃ A : Option Addr, A = some ⟨w1.heap.size, 0, none⟩ := ⟨_, rfl⟩
  obtain ⟨b4, hb4⟩ : ∃ b4, b4 = w1.heap.size + 1 := ⟨_, rfl⟩
  rw [← hA, ← hb4]
  obtain ⟨w2, hw2⟩ : ∃ w2, w2 = (w1.alloc (.cells #[.string ⟨#[67, 111, 110, 116, 101, 110, 116, 45, 84, 121, 112, 101]⟩, .string ⟨#[116, 101, 120, 116, 47, 112, 108, 97, 105, 110]⟩] 67)).alloc (.cells #[.int .i64 s, .string (word s), .int .i64 1, .slice A 1 1] 28) := ⟨_, rfl⟩
  have H : HeldR w w.heap.size b4 (.int .i64 s) (.string (word s)) (.int .i64 1) (.slice A 1 1) A w2 := by
    rw [hw2]
    refine ⟨?_, (f2.below ((Below.refl _ _).alloc (Nat.le_refl _) _)).below ((Below.refl _ _).alloc (Nat.le_refl _) _), (ht1.alloc _).alloc _, ?_, (hbw.alloc (by omega) _).alloc (by rw [World.size_alloc]; omega) _⟩
    · have := newFour (w := w1.alloc (.cells #[.string ⟨#[67, 111, 110, 116, 101, 110, 116, 45, 84, 121, 112, 101]⟩, .string ⟨#[116, 101, 120, 116, 47, 112, 108, 97, 105, 110]⟩] 67)) (.int .i64 s) (.string (word s)) (.int .i64 1) (.slice A 1 1) 28
      rw [World.size_alloc, ← hb4] at this
      exact this
    · rw [hA]
      exact (newF w1 plainF).alloc _
  rw [← hw2]
  have hne : b4 ≠ w.heap.size := by omega
  have hAne : ∀ p, A = some p → p.block ≠ w.heap.size := fun p hp => by rw [hA] at hp; cases hp; show w1.heap.size ≠ w.heap.size; omega
  clear hw2 hA hb4 f2 ht1 hbw hs1
  have hI := fun u (h : TabOk u) => itoa_any s h0 h1 u h
  have zI := itoa_size s h0 h1
  have zW := word_size s
  obtain ⟨I, hIe⟩ : ∃ I, I = B (Lib.itoa s) := ⟨_, rfl⟩
  have hsaid : said s = I ++ ⟨#[32]⟩ ++ word s ++ ⟨#[10]⟩ := by rw [hIe]; rfl
  obtain ⟨R, hRe⟩ : ∃ R, R = word s := ⟨_, rfl⟩
  rw [← hIe] at hI zI
  have HRE := Lib.hid hRe
  rw [← hRe] at H zW hsaid ⊢
  have HSA := Lib.hid hsaid
  clear hIe hRe hsaid
  obtain ⟨cc, cm, cW, hcv, hcb⟩ := conv_fn (I ++ ⟨#[32]⟩ ++ R ++ ⟨#[10]⟩)
  obtain ⟨N, hN⟩ : ∃ N, N = (I ++ ⟨#[32]⟩ ++ R ++ ⟨#[10]⟩).size := ⟨_, rfl⟩
  rw [← hN] at hcv
  have HN := Lib.hid hN
  clear hN
  have HI := Lib.hid hI
  have HCB := Lib.hid hcb
  clear hI hcb h0 h1
  refine wp_region_noPanic ?_
  refine wp_region_held_drew (S := HeldR w w.heap.size b4 (.int .i64 s) (.string R) (.int .i64 1) (.slice A 1 1) A) (by kernel_rfl) H.drew (fun hHeld => ?_)
  refine wpAnyH_take (i := 0) (v := .agg #[.int .i64 s, .string R, .int .i64 1, .slice A 1 1]) rfl (by kernel_rfl) (by kernel_rfl) (by kernel_rfl) (fun _ _ _ h => h) (Or.inl ⟨by rfl, ?_⟩) hHeld (?_ : wpAnyH _ _ _ _ _ _ _ ⟨#[.int .i64 s, undef, .pointer (some ⟨w.heap.size, 0, none⟩), .slice none 0 0, .pointer (some ⟨b4, 0, none⟩), .int .i64 s, .int .i64 s, .string R, .agg #[.string ⟨#[67, 111, 110, 116, 101, 110, 116, 45, 84, 121, 112, 101]⟩, .string ⟨#[116, 101, 120, 116, 47, 112, 108, 97, 105, 110]⟩], .slice A 1 1, .agg #[.int .i64 s, .string R, .int .i64 1, .slice A 1 1], .agg #[.int .i64 s, .string R, .int .i64 1, .slice A 1 1], undef, undef, undef, undef, undef, undef, undef, undef], []⟩ _)
  · intro u hu
    obtain ⟨⟨c0, c1, c2, c3⟩, _⟩ := hu
    clear H HI HCB hHeld
    go_simp
  refine wpAnyH_take (i := 1) (v := .int .i64 s) rfl (by kernel_rfl) (by kernel_rfl) (by kernel_rfl) (fun _ _ _ h => h) (Or.inl ⟨by rfl, ?_⟩) hHeld (?_ : wpAnyH _ _ _ _ _ _ _ ⟨#[.int .i64 s, undef, .pointer (some ⟨w.heap.size, 0, none⟩), .slice none 0 0, .pointer (some ⟨b4, 0, none⟩), .int .i64 s, .int .i64 s, .string R, .agg #[.string ⟨#[67, 111, 110, 116, 101, 110, 116, 45, 84, 121, 112, 101]⟩, .string ⟨#[116, 101, 120, 116, 47, 112, 108, 97, 105, 110]⟩], .slice A 1 1, .agg #[.int .i64 s, .string R, .int .i64 1, .slice A 1 1], .agg #[.int .i64 s, .string R, .int .i64 1, .slice A 1 1], .int .i64 s, undef, undef, undef, undef, undef, undef, undef], []⟩ _)
  · intro u hu
    clear H HI HCB hHeld
    go_simp
  refine wpAnyH_take (i := 4) (v := .pointer (some ⟨b4, 1, none⟩)) rfl (by kernel_rfl) (by kernel_rfl) (by kernel_rfl) (fun _ _ _ h => h) (Or.inl ⟨by rfl, ?_⟩) hHeld (?_ : wpAnyH _ _ _ _ _ _ _ ⟨#[.int .i64 s, undef, .pointer (some ⟨w.heap.size, 0, none⟩), .slice none 0 0, .pointer (some ⟨b4, 0, none⟩), .int .i64 s, .int .i64 s, .string R, .agg #[.string ⟨#[67, 111, 110, 116, 101, 110, 116, 45, 84, 121, 112, 101]⟩, .string ⟨#[116, 101, 120, 116, 47, 112, 108, 97, 105, 110]⟩], .slice A 1 1, .agg #[.int .i64 s, .string R, .int .i64 1, .slice A 1 1], .agg #[.int .i64 s, .string R, .int .i64 1, .slice A 1 1], .int .i64 s, undef, undef, .pointer (some ⟨b4, 1, none⟩), undef, undef, undef, undef], []⟩ _)
  · intro u hu
    clear H HI HCB hHeld
    go_simp
  refine wpAnyH_take (i := 5) (v := .string R) rfl (by kernel_rfl) (by kernel_rfl) (by kernel_rfl) (fun _ _ _ h => h) (Or.inl ⟨by rfl, ?_⟩) hHeld (?_ : wpAnyH _ _ _ _ _ _ _ ⟨#[.int .i64 s, undef, .pointer (some ⟨w.heap.size, 0, none⟩), .slice none 0 0, .pointer (some ⟨b4, 0, none⟩), .int .i64 s, .int .i64 s, .string R, .agg #[.string ⟨#[67, 111, 110, 116, 101, 110, 116, 45, 84, 121, 112, 101]⟩, .string ⟨#[116, 101, 120, 116, 47, 112, 108, 97, 105, 110]⟩], .slice A 1 1, .agg #[.int .i64 s, .string R, .int .i64 1, .slice A 1 1], .agg #[.int .i64 s, .string R, .int .i64 1, .slice A 1 1], .int .i64 s, undef, undef, .pointer (some ⟨b4, 1, none⟩), .string R, undef, undef, undef], []⟩ _)
  · intro u hu
    obtain ⟨⟨c0, c1, c2, c3⟩, _⟩ := hu
    clear H HI HCB hHeld
    go_simp
  refine wpAnyH_ready (rs := [2]) (by kernel_rfl) (by simp) ?_
  refine AllReadyH.cons rfl (fun K hK => ?_) AllReadyH.nil
  go_simp
  refine (HI.out _ hHeld.2.2.1).mono ?_
  rintro e1 w3 ⟨rfl, hb3⟩
  refine hK.out _ _ (HeldR.below hHeld hb3) (fun hHeld3 => ?_)
  clear hK hHeld
  have hHeld := hHeld3
  clear hHeld3 hb3
  refine wpAnyH_take (i := 3) (v := .string (I ++ ⟨#[32]⟩)) rfl (by kernel_rfl) (by kernel_rfl) (by kernel_rfl) (fun _ _ _ h => h) (Or.inl ⟨by rfl, ?_⟩) hHeld (?_ : wpAnyH _ _ _ _ _ _ _ ⟨#[.int .i64 s, undef, .pointer (some ⟨w.heap.size, 0, none⟩), .slice none 0 0, .pointer (some ⟨b4, 0, none⟩), .int .i64 s, .int .i64 s, .string R, .agg #[.string ⟨#[67, 111, 110, 116, 101, 110, 116, 45, 84, 121, 112, 101]⟩, .string ⟨#[116, 101, 120, 116, 47, 112, 108, 97, 105, 110]⟩], .slice A 1 1, .agg #[.int .i64 s, .string R, .int .i64 1, .slice A 1 1], .agg #[.int .i64 s, .string R, .int .i64 1, .slice A 1 1], .int .i64 s, .string I, .string (I ++ ⟨#[32]⟩), .pointer (some ⟨b4, 1, none⟩), .string R, undef, undef, undef], []⟩ _)
  · intro u hu
    clear H HI HCB hHeld
    go_simp
    omega
  refine wpAnyH_take (i := 6) (v := .string (I ++ ⟨#[32]⟩ ++ R)) rfl (by kernel_rfl) (by kernel_rfl) (by kernel_rfl) (fun _ _ _ h => h) (Or.inl ⟨by rfl, ?_⟩) hHeld (?_ : wpAnyH _ _ _ _ _ _ _ ⟨#[.int .i64 s, undef, .pointer (some ⟨w.heap.size, 0, none⟩), .slice none 0 0, .pointer (some ⟨b4, 0, none⟩), .int .i64 s, .int .i64 s, .string R, .agg #[.string ⟨#[67, 111, 110, 116, 101, 110, 116, 45, 84, 121, 112, 101]⟩, .string ⟨#[116, 101, 120, 116, 47, 112, 108, 97, 105, 110]⟩], .slice A 1 1, .agg #[.int .i64 s, .string R, .int .i64 1, .slice A 1 1], .agg #[.int .i64 s, .string R, .int .i64 1, .slice A 1 1], .int .i64 s, .string I, .string (I ++ ⟨#[32]⟩), .pointer (some ⟨b4, 1, none⟩), .string R, .string (I ++ ⟨#[32]⟩ ++ R), undef, undef], []⟩ _)
  · intro u hu
    clear H HI HCB hHeld
    go_simp
    omega
  refine wpAnyH_take (i := 7) (v := .string (I ++ ⟨#[32]⟩ ++ R ++ ⟨#[10]⟩)) rfl (by kernel_rfl) (by kernel_rfl) (by kernel_rfl) (fun _ _ _ h => h) (Or.inl ⟨by rfl, ?_⟩) hHeld (?_ : wpAnyH _ _ _ _ _ _ _ ⟨#[.int .i64 s, undef, .pointer (some ⟨w.heap.size, 0, none⟩), .slice none 0 0, .pointer (some ⟨b4, 0, none⟩), .int .i64 s, .int .i64 s, .string R, .agg #[.string ⟨#[67, 111, 110, 116, 101, 110, 116, 45, 84, 121, 112, 101]⟩, .string ⟨#[116, 101, 120, 116, 47, 112, 108, 97, 105, 110]⟩], .slice A 1 1, .agg #[.int .i64 s, .string R, .int .i64 1, .slice A 1 1], .agg #[.int .i64 s, .string R, .int .i64 1, .slice A 1 1], .int .i64 s, .string I, .string (I ++ ⟨#[32]⟩), .pointer (some ⟨b4, 1, none⟩), .string R, .string (I ++ ⟨#[32]⟩ ++ R), .string (I ++ ⟨#[32]⟩ ++ R ++ ⟨#[10]⟩), undef], []⟩ _)
  · intro u hu
    clear H HI HCB hHeld
    go_simp
    omega
  refine wpAnyH_ready (rs := [8, 9]) (by kernel_rfl) (by simp) ?_
  refine AllReadyH.cons rfl (fun K hK => ?_) (AllReadyH.cons rfl (fun K hK => ?_) AllReadyH.nil)
  · have hHeld1 := HeldR.below hHeld (HCB.out w3).2.2
    have hSt := hHeld1.set4 (Nat.le_refl _) hne hAne HT0.out (.int .i64 s) (.string R) (.int .i64 1) (.slice A 1 1)
    have hF := Four.set4 hHeld1.2.1 (.int .i64 s) (.string R) (.int .i64 1) (.slice A 1 1)
    have hw3 : w.heap.size < w3.heap.size := hHeld.2.1.lt
    have hR := Rd.set4 (HCB.out w3).2.1.rd w.heap.size (fun _ p hp => by cases hp; show w3.heap.size ≠ w.heap.size; omega) (.int .i64 s) (.string R) (.int .i64 1) (.slice A 1 1)
    have HSt := Lib.hid hSt
    have HF := Lib.hid hF
    have HR := Lib.hid hR
    clear hSt hF hR
    go_simp
    refine hK.out _ _ hHeld1 (fun _ => ?_)
    clear hK hHeld
    refine wpAnyH_ready (rs := [9]) (by kernel_rfl) (by simp) ?_
    refine AllReadyH.cons rfl (fun K hK => ?_) AllReadyH.nil
    obtain ⟨⟨c0, c1, c2, c3⟩, ⟨⟨a0, f0⟩, ⟨a1, f1⟩, ⟨a2, f2⟩, ⟨a3, f3⟩⟩, _⟩ := hHeld1
    go_simp
    have hHeld := HSt.out
    refine hK.out _ _ hHeld (fun _ => ?_)
    clear hK c0 c1 c2 c3 a0 f0 a1 f1 a2 f2 a3 f3
    refine wpAnyH_take (i := 10) (v := .slice (some ⟨w3.heap.size, 0, none⟩) N (cc w3)) rfl (by kernel_rfl) (by kernel_rfl) (by kernel_rfl) (fun _ _ _ h => h) (Or.inl ⟨by rfl, ?_⟩) hHeld (?_ : wpAnyH _ _ _ _ _ _ _ ⟨#[.int .i64 s, undef, .pointer (some ⟨w.heap.size, 0, none⟩), .slice (some ⟨w3.heap.size, 0, none⟩) N (cc w3), .pointer (some ⟨b4, 0, none⟩), .int .i64 s, .int .i64 s, .string R, .agg #[.string ⟨#[67, 111, 110, 116, 101, 110, 116, 45, 84, 121, 112, 101]⟩, .string ⟨#[116, 101, 120, 116, 47, 112, 108, 97, 105, 110]⟩], .slice A 1 1, .agg #[.int .i64 s, .string R, .int .i64 1, .slice A 1 1], .agg #[.int .i64 s, .string R, .int .i64 1, .slice A 1 1], .int .i64 s, .string I, .string (I ++ ⟨#[32]⟩), .pointer (some ⟨b4, 1, none⟩), .string R, .string (I ++ ⟨#[32]⟩ ++ R), .string (I ++ ⟨#[32]⟩ ++ R ++ ⟨#[10]⟩), .slice (some ⟨w3.heap.size, 0, none⟩) N (cc w3)], []⟩ _)
    · intro u hu
      clear H HI HCB hHeld
      go_simp
    refine wpAnyH_done (by kernel_rfl) (NoPanic.normal ?_) _
    have hrow := hHeld.2.2.2.1
    have hbel := hHeld.2.2.2.2
    have hfour := HF.out
    have hrd := HR.out
    clear hHeld H HSt HF HR
    generalize (((((cW w3).setCell ⟨w.heap.size, 0, none⟩ (.int .i64 s)).setCell ⟨w.heap.size, 1, none⟩ (.string R)).setCell ⟨w.heap.size, 2, none⟩ (.int .i64 1)).setCell ⟨w.heap.size, 3, none⟩ (.slice A 1 1)) = U at *
    obtain ⟨d0, d1, d2, d3⟩ := hfour
    have HRD := Lib.hid hrd
    have HRW := Lib.hid hrow
    clear hrd hrow
    go_wp2
    refine bodyPost_ret (v := .tuple #[.agg #[.int .i64 s, .string R, .int .i64 1, .slice A 1 1], .slice (some ⟨w3.heap.size, 0, none⟩) N (cc w3)]) (by simp [results, Tryd.results17, go_sem, d0, d1, d2, d3]) rfl ?_
    refine ⟨A, some ⟨w3.heap.size, 0, none⟩, cc w3, ?_, HRW.out, ?_, hbel⟩
    · rw [HRE.out, HSA.out, HN.out]
    · have := HRD.out
      rw [HSA.out, ← HN.out]
      rw [← L_size, ← HN.out] at this
      exact this
  · have hSt := hHeld.set4 (Nat.le_refl _) hne hAne HT0.out (.int .i64 s) (.string R) (.int .i64 1) (.slice A 1 1)
    have hF := Four.set4 hHeld.2.1 (.int .i64 s) (.string R) (.int .i64 1) (.slice A 1 1)
    have hz : ((((w3.setCell ⟨w.heap.size, 0, none⟩ (.int .i64 s)).setCell ⟨w.heap.size, 1, none⟩ (.string R)).setCell ⟨w.heap.size, 2, none⟩ (.int .i64 1)).setCell ⟨w.heap.size, 3, none⟩ (.slice A 1 1)).heap.size = w3.heap.size := by simp
    generalize hU : ((((w3.setCell ⟨w.heap.size, 0, none⟩ (.int .i64 s)).setCell ⟨w.heap.size, 1, none⟩ (.string R)).setCell ⟨w.heap.size, 2, none⟩ (.int .i64 1)).setCell ⟨w.heap.size, 3, none⟩ (.slice A 1 1)) = U at hSt hF hz
    have HSt := Lib.hid hSt
    have HF := Lib.hid hF
    have HZ := Lib.hid hz
    have HU := Lib.hid hU
    clear hSt hF hz hU
    obtain ⟨⟨c0, c1, c2, c3⟩, ⟨⟨a0, f0⟩, ⟨a1, f1⟩, ⟨a2, f2⟩, ⟨a3, f3⟩⟩, _⟩ := hHeld
    go_simp
    rw [HU.out]
    have hHeld := HSt.out
    refine hK.out _ _ hHeld (fun _ => ?_)
    clear hK c0 c1 c2 c3 a0 f0 a1 f1 a2 f2 a3 f3 HU
    refine wpAnyH_ready (rs := [8]) (by kernel_rfl) (by simp) ?_
    refine AllReadyH.cons rfl (fun K hK => ?_) AllReadyH.nil
    go_simp
    rw [HZ.out]
    have hHeld1 := HeldR.below hHeld (HCB.out U).2.2
    refine hK.out _ _ hHeld1 (fun _ => ?_)
    clear hK hHeld
    have hHeld := hHeld1
    clear hHeld1
    refine wpAnyH_take (i := 10) (v := .slice (some ⟨w3.heap.size, 0, none⟩) N (cc U)) rfl (by kernel_rfl) (by kernel_rfl) (by kernel_rfl) (fun _ _ _ h => h) (Or.inl ⟨by rfl, ?_⟩) hHeld (?_ : wpAnyH _ _ _ _ _ _ _ ⟨#[.int .i64 s, undef, .pointer (some ⟨w.heap.size, 0, none⟩), .slice (some ⟨w3.heap.size, 0, none⟩) N (cc U), .pointer (some ⟨b4, 0, none⟩), .int .i64 s, .int .i64 s, .string R, .agg #[.string ⟨#[67, 111, 110, 116, 101, 110, 116, 45, 84, 121, 112, 101]⟩, .string ⟨#[116, 101, 120, 116, 47, 112, 108, 97, 105, 110]⟩], .slice A 1 1, .agg #[.int .i64 s, .string R, .int .i64 1, .slice A 1 1], .agg #[.int .i64 s, .string R, .int .i64 1, .slice A 1 1], .int .i64 s, .string I, .string (I ++ ⟨#[32]⟩), .pointer (some ⟨b4, 1, none⟩), .string R, .string (I ++ ⟨#[32]⟩ ++ R), .string (I ++ ⟨#[32]⟩ ++ R ++ ⟨#[10]⟩), .slice (some ⟨w3.heap.size, 0, none⟩) N (cc U)], []⟩ _)
    · intro u hu
      clear H HI HCB hHeld
      go_simp
    refine wpAnyH_done (by kernel_rfl) (NoPanic.normal ?_) _
    have hrow := hHeld.2.2.2.1
    have hbel := hHeld.2.2.2.2
    have hfour := HF.out.below (HCB.out U).2.2
    have hrd := (HCB.out U).2.1.rd
    rw [HZ.out] at hrd
    clear hHeld H HSt HF HZ
    obtain ⟨d0, d1, d2, d3⟩ := hfour
    have HRD := Lib.hid hrd
    have HRW := Lib.hid hrow
    clear hrd hrow
    go_wp2
    refine bodyPost_ret (v := .tuple #[.agg #[.int .i64 s, .string R, .int .i64 1, .slice A 1 1], .slice (some ⟨w3.heap.size, 0, none⟩) N (cc U)]) (by simp [results, Tryd.results17, go_sem, d0, d1, d2, d3]) rfl ?_
    refine ⟨A, some ⟨w3.heap.size, 0, none⟩, cc U, ?_, HRW.out, ?_, hbel⟩
    · rw [HRE.out, HSA.out, HN.out]
    · have := HRD.out
      rw [HSA.out, ← HN.out]
      rw [← L_size, ← HN.out] at this
      exact this

set_option maxRecDepth 100000 in
set_option maxHeartbeats 400000 in
theorem refReply_any (s : Int) (h0 : -9223372036854775808 ≤ s) (h1 : s ≤ 9223372036854775807) (w : World) (ht : TabOk w) : Calls Tryd.prog 18 #[.int .i64 s] w (RetReply w s) := by
  go_enter Tryd.func18, Tryd.ntmps18
  go_wp2_with fail
  refine (refReason_any s _).mono ?_
  rintro e w1 ⟨rfl, hb1⟩
  have hs1 := size_lt hb1
  have f1 := (newFour (w := w) (.int .i64 0) (.string ⟨#[]⟩) (.int .i64 0) (.slice none 0 0) 28).four (newFour_free _ _)
  have f2 := f1.below hb1
  have ht1 := ((ht.alloc _).below hb1)
  have hbw := below_new (Below.refl w.heap.size w) (Nat.le_refl _) hb1
  have HT0 := Lib.hid ht
  clear ht hb1 f1
  go_wp2
  obtain ⟨A, hA⟩ : ∃ A : Option Addr, A = some ⟨w1.heap.size, 0, none⟩ := ⟨_, rfl⟩
  obtain ⟨b4, hb4⟩ : ∃ b4, b4 = w1.heap.size + 1 := ⟨_, rfl⟩
  rw [← hA, ← hb4]
  obtain ⟨w2, hw2⟩ : ∃ w2, w2 = (w1.alloc (.cells #[.string ⟨#[67, 111, 110, 116, 101, 110, 116, 45, 84, 121, 112, 101]⟩, .string ⟨#[116, 101, 120, 116, 47, 112, 108, 97, 105, 110]⟩] 67)).alloc (.cells #[.int .i64 s, .string (word s), .int .i64 1, .slice A 1 1] 28) := ⟨_, rfl⟩
  have H : HeldR w w.heap.size b4 (.int .i64 s) (.string (word s)) (.int .i64 1) (.slice A 1 1) A w2 := by
    rw [hw2]
    refine ⟨?_, (f2.below ((Below.refl _ _).alloc (Nat.le_refl _) _)).below ((Below.refl _ _).alloc (Nat.le_refl _) _), (ht1.alloc _).alloc _, ?_, (hbw.alloc (by omega) _).alloc (by rw [World.size_alloc]; omega) _⟩
    · have := newFour (w := w1.alloc (.cells #[.string ⟨#[67, 111, 110, 116, 101, 110, 116, 45, 84, 121, 112, 101]⟩, .string ⟨#[116, 101, 120, 116, 47, 112, 108, 97, 105, 110]⟩] 67)) (.int .i64 s) (.string (word s)) (.int .i64 1) (.slice A 1 1) 28
      rw [World.size_alloc, ← hb4] at this
      exact this
    · rw [hA]
      exact (newF w1 plainF).alloc _
  rw [← hw2]
  have hne : b4 ≠ w.heap.size := by omega
  have hAne : ∀ p, A = some p → p.block ≠ w.heap.size := fun p hp => by rw [hA] at hp; cases hp; show w1.heap.size ≠ w.heap.size; omega
  clear hw2 hA hb4 f2 ht1 hbw hs1
  have hI := fun u (_ : TabOk u) => show_any s u h0 h1
  have zI := itoa_size s h0 h1
  have zW := word_size s
  obtain ⟨I, hIe⟩ : ∃ I, I = B (Lib.itoa s) := ⟨_, rfl⟩
  have hsaid : said s = I ++ ⟨#[32]⟩ ++ word s ++ ⟨#[10]⟩ := by rw [hIe]; rfl
  obtain ⟨R, hRe⟩ : ∃ R, R = word s := ⟨_, rfl⟩
  rw [← hIe] at hI zI
  have HRE := Lib.hid hRe
  rw [← hRe] at H zW hsaid ⊢
  have HSA := Lib.hid hsaid
  clear hIe hRe hsaid
  obtain ⟨cc, cm, cW, hcv, hcb⟩ := conv_fn (I ++ ⟨#[32]⟩ ++ R ++ ⟨#[10]⟩)
  obtain ⟨N, hN⟩ : ∃ N, N = (I ++ ⟨#[32]⟩ ++ R ++ ⟨#[10]⟩).size := ⟨_, rfl⟩
  rw [← hN] at hcv
  have HN := Lib.hid hN
  clear hN
  have HI := Lib.hid hI
  have HCB := Lib.hid hcb
  clear hI hcb h0 h1
  refine wp_region_noPanic ?_
  refine wp_region_held_drew (S := HeldR w w.heap.size b4 (.int .i64 s) (.string R) (.int .i64 1) (.slice A 1 1) A) (by kernel_rfl) H.drew (fun hHeld => ?_)
  refine wpAnyH_take (i := 0) (v := .agg #[.int .i64 s, .string R, .int .i64 1, .slice A 1 1]) rfl (by kernel_rfl) (by kernel_rfl) (by kernel_rfl) (fun _ _ _ h => h) (Or.inl ⟨by rfl, ?_⟩) hHeld (?_ : wpAnyH _ _ _ _ _ _ _ ⟨#[.int .i64 s, undef, .pointer (some ⟨w.heap.size, 0, none⟩), .slice none 0 0, .pointer (some ⟨b4, 0, none⟩), .int .i64 s, .int .i64 s, .string R, .agg #[.string ⟨#[67, 111, 110, 116, 101, 110, 116, 45, 84, 121, 112, 101]⟩, .string ⟨#[116, 101, 120, 116, 47, 112, 108, 97, 105, 110]⟩], .slice A 1 1, .agg #[.int .i64 s, .string R, .int .i64 1, .slice A 1 1], .agg #[.int .i64 s, .string R, .int .i64 1, .slice A 1 1], undef, undef, undef, undef, undef, undef, undef, undef], []⟩ _)
  · intro u hu
    obtain ⟨⟨c0, c1, c2, c3⟩, _⟩ := hu
    clear H HI HCB hHeld
    go_simp
  refine wpAnyH_take (i := 1) (v := .int .i64 s) rfl (by kernel_rfl) (by kernel_rfl) (by kernel_rfl) (fun _ _ _ h => h) (Or.inl ⟨by rfl, ?_⟩) hHeld (?_ : wpAnyH _ _ _ _ _ _ _ ⟨#[.int .i64 s, undef, .pointer (some ⟨w.heap.size, 0, none⟩), .slice none 0 0, .pointer (some ⟨b4, 0, none⟩), .int .i64 s, .int .i64 s, .string R, .agg #[.string ⟨#[67, 111, 110, 116, 101, 110, 116, 45, 84, 121, 112, 101]⟩, .string ⟨#[116, 101, 120, 116, 47, 112, 108, 97, 105, 110]⟩], .slice A 1 1, .agg #[.int .i64 s, .string R, .int .i64 1, .slice A 1 1], .agg #[.int .i64 s, .string R, .int .i64 1, .slice A 1 1], .int .i64 s, undef, undef, undef, undef, undef, undef, undef], []⟩ _)
  · intro u hu
    clear H HI HCB hHeld
    go_simp
  refine wpAnyH_take (i := 4) (v := .pointer (some ⟨b4, 1, none⟩)) rfl (by kernel_rfl) (by kernel_rfl) (by kernel_rfl) (fun _ _ _ h => h) (Or.inl ⟨by rfl, ?_⟩) hHeld (?_ : wpAnyH _ _ _ _ _ _ _ ⟨#[.int .i64 s, undef, .pointer (some ⟨w.heap.size, 0, none⟩), .slice none 0 0, .pointer (some ⟨b4, 0, none⟩), .int .i64 s, .int .i64 s, .string R, .agg #[.string ⟨#[67, 111, 110, 116, 101, 110, 116, 45, 84, 121, 112, 101]⟩, .string ⟨#[116, 101, 120, 116, 47, 112, 108, 97, 105, 110]⟩], .slice A 1 1, .agg #[.int .i64 s, .string R, .int .i64 1, .slice A 1 1], .agg #[.int .i64 s, .string R, .int .i64 1, .slice A 1 1], .int .i64 s, undef, undef, .pointer (some ⟨b4, 1, none⟩), undef, undef, undef, undef], []⟩ _)
  · intro u hu
    clear H HI HCB hHeld
    go_simp
  refine wpAnyH_take (i := 5) (v := .string R) rfl (by kernel_rfl) (by kernel_rfl) (by kernel_rfl) (fun _ _ _ h => h) (Or.inl ⟨by rfl, ?_⟩) hHeld (?_ : wpAnyH _ _ _ _ _ _ _ ⟨#[.int .i64 s, undef, .pointer (some ⟨w.heap.size, 0, none⟩), .slice none 0 0, .pointer (some ⟨b4, 0, none⟩), .int .i64 s, .int .i64 s, .string R, .agg #[.string ⟨#[67, 111, 110, 116, 101, 110, 116, 45, 84, 121, 112, 101]⟩, .string ⟨#[116, 101, 120, 116, 47, 112, 108, 97, 105, 110]⟩], .slice A 1 1, .agg #[.int .i64 s, .string R, .int .i64 1, .slice A 1 1], .agg #[.int .i64 s, .string R, .int .i64 1, .slice A 1 1], .int .i64 s, undef, undef, .pointer (some ⟨b4, 1, none⟩), .string R, undef, undef, undef], []⟩ _)
  · intro u hu
    obtain ⟨⟨c0, c1, c2, c3⟩, _⟩ := hu
    clear H HI HCB hHeld
    go_simp
  refine wpAnyH_ready (rs := [2]) (by kernel_rfl) (by simp) ?_
  refine AllReadyH.cons rfl (fun K hK => ?_) AllReadyH.nil
  go_simp
  refine (HI.out _ hHeld.2.2.1).mono ?_
  rintro e1 w3 ⟨rfl, hb3⟩
  refine hK.out _ _ (HeldR.below hHeld hb3) (fun hHeld3 => ?_)
  clear hK hHeld
  have hHeld := hHeld3
  clear hHeld3 hb3
  refine wpAnyH_take (i := 3) (v := .string (I ++ ⟨#[32]⟩)) rfl (by kernel_rfl) (by kernel_rfl) (by kernel_rfl) (fun _ _ _ h => h) (Or.inl ⟨by rfl, ?_⟩) hHeld (?_ : wpAnyH _ _ _ _ _ _ _ ⟨#[.int .i64 s, undef, .pointer (some ⟨w.heap.size, 0, none⟩), .slice none 0 0, .pointer (some ⟨b4, 0, none⟩), .int .i64 s, .int .i64 s, .string R, .agg #[.string ⟨#[67, 111, 110, 116, 101, 110, 116, 45, 84, 121, 112, 101]⟩, .string ⟨#[116, 101, 120, 116, 47, 112, 108, 97, 105, 110]⟩], .slice A 1 1, .agg #[.int .i64 s, .string R, .int .i64 1, .slice A 1 1], .agg #[.int .i64 s, .string R, .int .i64 1, .slice A 1 1], .int .i64 s, .string I, .string (I ++ ⟨#[32]⟩), .pointer (some ⟨b4, 1, none⟩), .string R, undef, undef, undef], []⟩ _)
  · intro u hu
    clear H HI HCB hHeld
    go_simp
    omega
  refine wpAnyH_take (i := 6) (v := .string (I ++ ⟨#[32]⟩ ++ R)) rfl (by kernel_rfl) (by kernel_rfl) (by kernel_rfl) (fun _ _ _ h => h) (Or.inl ⟨by rfl, ?_⟩) hHeld (?_ : wpAnyH _ _ _ _ _ _ _ ⟨#[.int .i64 s, undef, .pointer (some ⟨w.heap.size, 0, none⟩), .slice none 0 0, .pointer (some ⟨b4, 0, none⟩), .int .i64 s, .int .i64 s, .string R, .agg #[.string ⟨#[67, 111, 110, 116, 101, 110, 116, 45, 84, 121, 112, 101]⟩, .string ⟨#[116, 101, 120, 116, 47, 112, 108, 97, 105, 110]⟩], .slice A 1 1, .agg #[.int .i64 s, .string R, .int .i64 1, .slice A 1 1], .agg #[.int .i64 s, .string R, .int .i64 1, .slice A 1 1], .int .i64 s, .string I, .string (I ++ ⟨#[32]⟩), .pointer (some ⟨b4, 1, none⟩), .string R, .string (I ++ ⟨#[32]⟩ ++ R), undef, undef], []⟩ _)
  · intro u hu
    clear H HI HCB hHeld
    go_simp
    omega
  refine wpAnyH_take (i := 7) (v := .string (I ++ ⟨#[32]⟩ ++ R ++ ⟨#[10]⟩)) rfl (by kernel_rfl) (by kernel_rfl) (by kernel_rfl) (fun _ _ _ h => h) (Or.inl ⟨by rfl, ?_⟩) hHeld (?_ : wpAnyH _ _ _ _ _ _ _ ⟨#[.int .i64 s, undef, .pointer (some ⟨w.heap.size, 0, none⟩), .slice none 0 0, .pointer (some ⟨b4, 0, none⟩), .int .i64 s, .int .i64 s, .string R, .agg #[.string ⟨#[67, 111, 110, 116, 101, 110, 116, 45, 84, 121, 112, 101]⟩, .string ⟨#[116, 101, 120, 116, 47, 112, 108, 97, 105, 110]⟩], .slice A 1 1, .agg #[.int .i64 s, .string R, .int .i64 1, .slice A 1 1], .agg #[.int .i64 s, .string R, .int .i64 1, .slice A 1 1], .int .i64 s, .string I, .string (I ++ ⟨#[32]⟩), .pointer (some ⟨b4, 1, none⟩), .string R, .string (I ++ ⟨#[32]⟩ ++ R), .string (I ++ ⟨#[32]⟩ ++ R ++ ⟨#[10]⟩), undef], []⟩ _)
  · intro u hu
    clear H HI HCB hHeld
    go_simp
    omega
  refine wpAnyH_ready (rs := [8, 9]) (by kernel_rfl) (by simp) ?_
  refine AllReadyH.cons rfl (fun K hK => ?_) (AllReadyH.cons rfl (fun K hK => ?_) AllReadyH.nil)
  · have hHeld1 := HeldR.below hHeld (HCB.out w3).2.2
    have hSt := hHeld1.set4 (Nat.le_refl _) hne hAne HT0.out (.int .i64 s) (.string R) (.int .i64 1) (.slice A 1 1)
    have hF := Four.set4 hHeld1.2.1 (.int .i64 s) (.string R) (.int .i64 1) (.slice A 1 1)
    have hw3 : w.heap.size < w3.heap.size := hHeld.2.1.lt
    have hR := Rd.set4 (HCB.out w3).2.1.rd w.heap.size (fun _ p hp => by cases hp; show w3.heap.size ≠ w.heap.size; omega) (.int .i64 s) (.string R) (.int .i64 1) (.slice A 1 1)
    have HSt := Lib.hid hSt
    have HF := Lib.hid hF
    have HR := Lib.hid hR
    clear hSt hF hR
    go_simp
    refine hK.out _ _ hHeld1 (fun _ => ?_)
    clear hK hHeld
    refine wpAnyH_ready (rs := [9]) (by kernel_rfl) (by simp) ?_
    refine AllReadyH.cons rfl (fun K hK => ?_) AllReadyH.nil
    obtain ⟨⟨c0, c1, c2, c3⟩, ⟨⟨a0, f0⟩, ⟨a1, f1⟩, ⟨a2, f2⟩, ⟨a3, f3⟩⟩, _⟩ := hHeld1
    go_simp
    have hHeld := HSt.out
    refine hK.out _ _ hHeld (fun _ => ?_)
    clear hK c0 c1 c2 c3 a0 f0 a1 f1 a2 f2 a3 f3
    refine wpAnyH_take (i := 10) (v := .slice (some ⟨w3.heap.size, 0, none⟩) N (cc w3)) rfl (by kernel_rfl) (by kernel_rfl) (by kernel_rfl) (fun _ _ _ h => h) (Or.inl ⟨by rfl, ?_⟩) hHeld (?_ : wpAnyH _ _ _ _ _ _ _ ⟨#[.int .i64 s, undef, .pointer (some ⟨w.heap.size, 0, none⟩), .slice (some ⟨w3.heap.size, 0, none⟩) N (cc w3), .pointer (some ⟨b4, 0, none⟩), .int .i64 s, .int .i64 s, .string R, .agg #[.string ⟨#[67, 111, 110, 116, 101, 110, 116, 45, 84, 121, 112, 101]⟩, .string ⟨#[116, 101, 120, 116, 47, 112, 108, 97, 105, 110]⟩], .slice A 1 1, .agg #[.int .i64 s, .string R, .int .i64 1, .slice A 1 1], .agg #[.int .i64 s, .string R, .int .i64 1, .slice A 1 1], .int .i64 s, .string I, .string (I ++ ⟨#[32]⟩), .pointer (some ⟨b4, 1, none⟩), .string R, .string (I ++ ⟨#[32]⟩ ++ R), .string (I ++ ⟨#[32]⟩ ++ R ++ ⟨#[10]⟩), .slice (some ⟨w3.heap.size, 0, none⟩) N (cc w3)], []⟩ _)
    · intro u hu
      clear H HI HCB hHeld
      go_simp
    refine wpAnyH_done (by kernel_rfl) (NoPanic.normal ?_) _
    have hrow := hHeld.2.2.2.1
    have hbel := hHeld.2.2.2.2
    have hfour := HF.out
    have hrd := HR.out
    clear hHeld H HSt HF HR
    generalize (((((cW w3).setCell ⟨w.heap.size, 0, none⟩ (.int .i64 s)).setCell ⟨w.heap.size, 1, none⟩ (.string R)).setCell ⟨w.heap.size, 2, none⟩ (.int .i64 1)).setCell ⟨w.heap.size, 3, none⟩ (.slice A 1 1)) = U at *
    obtain ⟨d0, d1, d2, d3⟩ := hfour
    have HRD := Lib.hid hrd
    have HRW := Lib.hid hrow
    clear hrd hrow
    go_wp2
    refine bodyPost_ret (v := .tuple #[.agg #[.int .i64 s, .string R, .int .i64 1, .slice A 1 1], .slice (some ⟨w3.heap.size, 0, none⟩) N (cc w3)]) (by simp [results, Tryd.results18, go_sem, d0, d1, d2, d3]) rfl ?_
    refine ⟨A, some ⟨w3.heap.size, 0, none⟩, cc w3, ?_, HRW.out, ?_, hbel⟩
    · rw [HRE.out, HSA.out, HN.out]
    · have := HRD.out
      rw [HSA.out, ← HN.out]
      rw [← L_size, ← HN.out] at this
      exact this
  · have hSt := hHeld.set4 (Nat.le_refl _) hne hAne HT0.out (.int .i64 s) (.string R) (.int .i64 1) (.slice A 1 1)
    have hF := Four.set4 hHeld.2.1 (.int .i64 s) (.string R) (.int .i64 1) (.slice A 1 1)
    have hz : ((((w3.setCell ⟨w.heap.size, 0, none⟩ (.int .i64 s)).setCell ⟨w.heap.size, 1, none⟩ (.string R)).setCell ⟨w.heap.size, 2, none⟩ (.int .i64 1)).setCell ⟨w.heap.size, 3, none⟩ (.slice A 1 1)).heap.size = w3.heap.size := by simp
    generalize hU : ((((w3.setCell ⟨w.heap.size, 0, none⟩ (.int .i64 s)).setCell ⟨w.heap.size, 1, none⟩ (.string R)).setCell ⟨w.heap.size, 2, none⟩ (.int .i64 1)).setCell ⟨w.heap.size, 3, none⟩ (.slice A 1 1)) = U at hSt hF hz
    have HSt := Lib.hid hSt
    have HF := Lib.hid hF
    have HZ := Lib.hid hz
    have HU := Lib.hid hU
    clear hSt hF hz hU
    obtain ⟨⟨c0, c1, c2, c3⟩, ⟨⟨a0, f0⟩, ⟨a1, f1⟩, ⟨a2, f2⟩, ⟨a3, f3⟩⟩, _⟩ := hHeld
    go_simp
    rw [HU.out]
    have hHeld := HSt.out
    refine hK.out _ _ hHeld (fun _ => ?_)
    clear hK c0 c1 c2 c3 a0 f0 a1 f1 a2 f2 a3 f3 HU
    refine wpAnyH_ready (rs := [8]) (by kernel_rfl) (by simp) ?_
    refine AllReadyH.cons rfl (fun K hK => ?_) AllReadyH.nil
    go_simp
    rw [HZ.out]
    have hHeld1 := HeldR.below hHeld (HCB.out U).2.2
    refine hK.out _ _ hHeld1 (fun _ => ?_)
    clear hK hHeld
    have hHeld := hHeld1
    clear hHeld1
    refine wpAnyH_take (i := 10) (v := .slice (some ⟨w3.heap.size, 0, none⟩) N (cc U)) rfl (by kernel_rfl) (by kernel_rfl) (by kernel_rfl) (fun _ _ _ h => h) (Or.inl ⟨by rfl, ?_⟩) hHeld (?_ : wpAnyH _ _ _ _ _ _ _ ⟨#[.int .i64 s, undef, .pointer (some ⟨w.heap.size, 0, none⟩), .slice (some ⟨w3.heap.size, 0, none⟩) N (cc U), .pointer (some ⟨b4, 0, none⟩), .int .i64 s, .int .i64 s, .string R, .agg #[.string ⟨#[67, 111, 110, 116, 101, 110, 116, 45, 84, 121, 112, 101]⟩, .string ⟨#[116, 101, 120, 116, 47, 112, 108, 97, 105, 110]⟩], .slice A 1 1, .agg #[.int .i64 s, .string R, .int .i64 1, .slice A 1 1], .agg #[.int .i64 s, .string R, .int .i64 1, .slice A 1 1], .int .i64 s, .string I, .string (I ++ ⟨#[32]⟩), .pointer (some ⟨b4, 1, none⟩), .string R, .string (I ++ ⟨#[32]⟩ ++ R), .string (I ++ ⟨#[32]⟩ ++ R ++ ⟨#[10]⟩), .slice (some ⟨w3.heap.size, 0, none⟩) N (cc U)], []⟩ _)
    · intro u hu
      clear H HI HCB hHeld
      go_simp
    refine wpAnyH_done (by kernel_rfl) (NoPanic.normal ?_) _
    have hrow := hHeld.2.2.2.1
    have hbel := hHeld.2.2.2.2
    have hfour := HF.out.below (HCB.out U).2.2
    have hrd := (HCB.out U).2.1.rd
    rw [HZ.out] at hrd
    clear hHeld H HSt HF HZ
    obtain ⟨d0, d1, d2, d3⟩ := hfour
    have HRD := Lib.hid hrd
    have HRW := Lib.hid hrow
    clear hrd hrow
    go_wp2
    refine bodyPost_ret (v := .tuple #[.agg #[.int .i64 s, .string R, .int .i64 1, .slice A 1 1], .slice (some ⟨w3.heap.size, 0, none⟩) N (cc U)]) (by simp [results, Tryd.results18, go_sem, d0, d1, d2, d3]) rfl ?_
    refine ⟨A, some ⟨w3.heap.size, 0, none⟩, cc U, ?_, HRW.out, ?_, hbel⟩
    · rw [HRE.out, HSA.out, HN.out]
    · have := HRD.out
      rw [HSA.out, ← HN.out]
      rw [← L_size, ← HN.out] at this
      exact this
end Go.Proofs.YtcoohkgamogmgaaDoor
