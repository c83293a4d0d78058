/- The walks of CopyResponse and hop.Response. Conditions: a list of bulk at most 2^30, texts of at most 2^30 bytes, a number of 64 bits, the library's table of powers of ten. -/
import Derived.Test.YtecopkcogobolaaGreatDoorVia
import Derived.Test.YtecopkcogobolaaGreatDoorReplyA
import Derived.Test.YtecopkcogobolaaGreatDoorRegionA
namespace Go.Proofs.YtecopkcogobolaaGreatDoor
open Go.RowKit

/-- A post that is met at an ordinary end alone. -/
def onNormal (Q : Act → World → Prop) : Exit → Act → World → Prop
  | .normal, a, w => Q a w
  | _, _, _ => False
theorem onNormal.imp {Q : Act → World → Prop} {Q' : Exit → Act → World → Prop} (h : ∀ a w, Q a w → Q' .normal a w) : ∀ (e : Exit) (a : Act) (w : World), onNormal Q e a w → Q' e a w := fun e a w hq => by
  cases e <;> first | exact h a w hq | exact (hq : False).elim
/-- A response, answered. -/
def RetR (w : World) (s : Int) (r : ByteArray) (m : Int) (xs : List FD) (e : Ending) (w' : World) : Prop :=
  ∃ A c, e = .returned (.agg #[.int .i64 s, .string r, .int .i64 m, .slice A xs.length c]) ∧ Row w' w.heap.size 67 2 A xs.length c (fcells xs) ∧ Below w.heap.size w w'

theorem Row.far {w : World} {base : Nat} {e : TypeId} {size : Nat} {A : Option Addr} {n c : Nat} {xs : List Value} (h : Row w base e size A n c xs) {b i : Nat} (hb : b < base) (v : Value) : Row (w.setCell ⟨b, i, none⟩ v) base e size A n c xs := by
  rcases h with ⟨h1, h2⟩ | h
  · refine .inl ⟨h1, ?_⟩
    rcases h2 with h2 | ⟨g, cap, cur, hv, hg, hh, r⟩
    · exact .inl h2
    · refine .inr ⟨g, cap, cur, hv, hg, ?_, r⟩
      rw [← hh]
      unfold World.setCell
      simp only [Array.getElem?_modify]
      rw [if_neg (by omega)]
  · exact .inr h

theorem Four.far {u : World} {b b' : Nat} (h : Four u b') (hne : b' ≠ b) (i : Nat) (x : Value) : Four (u.setCell ⟨b, i, none⟩ x) b' := by
  obtain ⟨⟨a0, f0⟩, ⟨a1, f1⟩, ⟨a2, f2⟩, ⟨a3, f3⟩⟩ := h
  have o : ∀ j, (u.setCell ⟨b, i, none⟩ x).cell? ⟨b', j, none⟩ = u.cell? ⟨b', j, none⟩ := fun j => World.cell?_setCell_far _ _ _ _ (fun e => hne e.symm)
  have f : ∀ j, (u.setCell ⟨b, i, none⟩ x).frozen? ⟨b', j, none⟩ = u.frozen? ⟨b', j, none⟩ := fun j => World.frozen?_setCell _ _ _ _
  exact ⟨⟨at_of ((o 0).trans a0), (f 0).trans f0⟩, ⟨at_of ((o 1).trans a1), (f 1).trans f1⟩, ⟨at_of ((o 2).trans a2), (f 2).trans f2⟩, ⟨at_of ((o 3).trans a3), (f 3).trans f3⟩⟩
theorem Row.set4 {w : World} {base : Nat} {e : TypeId} {size : Nat} {A : Option Addr} {n c : Nat} {xs : List Value} (h : Row w base e size A n c xs) {b : Nat} (hb : b < base) (y0 y1 y2 y3 : Value) : Row ((((w.setCell ⟨b, 0, none⟩ y0).setCell ⟨b, 1, none⟩ y1).setCell ⟨b, 2, none⟩ y2).setCell ⟨b, 3, none⟩ y3) base e size A n c xs :=
  (((h.far hb _).far hb _).far hb _).far hb _
theorem below_set4 {B : Nat} {w u : World} (h : Below B w u) {b : Nat} (hb : B ≤ b) (y0 y1 y2 y3 : Value) : Below B w ((((u.setCell ⟨b, 0, none⟩ y0).setCell ⟨b, 1, none⟩ y1).setCell ⟨b, 2, none⟩ y2).setCell ⟨b, 3, none⟩ y3) :=
  (((h.setCell (p := ⟨b, 0, none⟩) hb _).setCell (p := ⟨b, 1, none⟩) hb _).setCell (p := ⟨b, 2, none⟩) hb _).setCell (p := ⟨b, 3, none⟩) hb _

set_option maxHeartbeats 400000 in
theorem copyResponse_any (s m : Int) (r : ByteArray) (A : Option Addr) (n c : Nat) (fs : List FD) (w : World) (hl : fs.length = n) (hn : n ≤ 1099511627776) (hx : Rd w A n 2 (fcells fs)) :
    Calls Tryz.prog 15 #[.agg #[.int .i64 s, .string r, .int .i64 m, .slice A n c]] w (RetR w s r m fs) := by
  have HC := Lib.hid (fun (w1 : World) (hb : Below w.heap.size w w1) => copyFields_any A n c fs w1 hn (hx.below hb))
  subst hl
  clear hx hn
  go_enter Tryz.func15, Tryz.ntmps15
  go_wp2_with fail
  refine (HC.out _ (((Below.refl _ _).alloc (Nat.le_refl _) _).alloc (by rw [World.size_alloc]; omega) _)).mono ?_
  rintro e w1 ⟨A1, c1, rfl, hr1, hb1⟩
  obtain ⟨x0, x1, x2, x3⟩ := ((newFour (w := w) (.int .i64 s) (.string r) (.int .i64 m) (.slice A fs.length c) 26).below ((Below.refl _ _).alloc (Nat.le_refl _) _)).below hb1
  have y4 := (newFour (w := w.alloc (.cells #[.int .i64 s, .string r, .int .i64 m, .slice A fs.length c] 26)) (.int .i64 0) (.string ⟨#[]⟩) (.int .i64 0) (.slice none 0 0) 26).below hb1
  have g4 : ∀ i, w1.frozen? ⟨w.heap.size + 1, i, none⟩ = false := fun i => by
    have := newFree hb1 i
    rwa [World.size_alloc] at this
  have k4 : w1.frozen? ⟨w.heap.size, 3, none⟩ = false := by
    rw [hb1.frozen (p := ⟨w.heap.size, 3, none⟩) (by simp only [World.size_alloc]; omega)]
    rw [frozen?_alloc_cells]
    exact newFour_free _ _ _
  rw [World.size_alloc] at y4
  obtain ⟨y0, y1, y2, y3⟩ := y4
  have g0 := g4 0
  have g1 := g4 1
  have g2 := g4 2
  have g3 := g4 3
  have HG4 := Lib.hid g4
  have HY4 := Lib.hid (show Four w1 (w.heap.size + 1) from ⟨⟨at_of y0, g0⟩, ⟨at_of y1, g1⟩, ⟨at_of y2, g2⟩, ⟨at_of y3, g3⟩⟩)
  have hB := below_then (b := (w.alloc (.cells #[.int .i64 s, .string r, .int .i64 m, .slice A fs.length c] 26)).alloc (.cells #[.int .i64 0, .string ⟨#[]⟩, .int .i64 0, .slice none 0 0] 26)) (by simp only [World.size_alloc]; omega) (((Below.refl _ _).alloc (Nat.le_refl _) _).alloc (by rw [World.size_alloc]; omega) _) hb1
  have HB := Lib.hid hB
  have HR := Lib.hid hr1
  clear hB hb1 hr1 g4 HC
  go_wp2
  have hfour := (HY4.out.far (b := w.heap.size) (by omega) 3 (.slice A1 fs.length c1)).set4 (.int .i64 s) (.string r) (.int .i64 m) (.slice A1 fs.length c1)
  have hrow := (HR.out.far (b := w.heap.size) (i := 3) (by simp only [World.size_alloc]; omega) (.slice A1 fs.length c1)).set4 (b := w.heap.size + 1) (by simp only [World.size_alloc]; omega) (.int .i64 s) (.string r) (.int .i64 m) (.slice A1 fs.length c1)
  have hbel := below_set4 (HB.out.setCell (p := ⟨w.heap.size, 3, none⟩) (Nat.le_refl _) (.slice A1 fs.length c1)) (b := w.heap.size + 1) (by omega) (.int .i64 s) (.string r) (.int .i64 m) (.slice A1 fs.length c1)
  clear x0 x1 x2 x3 y0 y1 y2 y3 g0 g1 g2 g3 k4 HY4 HR HB
  generalize (((((w1.setCell ⟨w.heap.size, 3, none⟩ (.slice A1 fs.length c1)).setCell ⟨w.heap.size + 1, 0, none⟩ (.int .i64 s)).setCell ⟨w.heap.size + 1, 1, none⟩ (.string r)).setCell ⟨w.heap.size + 1, 2, none⟩ (.int .i64 m)).setCell ⟨w.heap.size + 1, 3, none⟩ (.slice A1 fs.length c1)) = U at *
  obtain ⟨d0, d1, d2, d3⟩ := hfour
  refine bodyPost_ret (v := .agg #[.int .i64 s, .string r, .int .i64 m, .slice A1 fs.length c1]) (by simp [results, Tryz.results15, go_sem, d0, d1, d2, d3]) rfl ?_
  exact ⟨A1, c1, rfl, hrow.mono (by simp only [World.size_alloc]; omega), hbel⟩

/-- A struct of four cells at b, another behind it, both the call's own. -/
def HoldR (w : World) (b : Nat) (x0 x1 x2 x3 : Value) (u : World) : Prop := Four4 u b x0 x1 x2 x3 ∧ Four u b ∧ Four u (b + 1) ∧ Below w.heap.size w u
theorem HoldR.below {w : World} {b : Nat} {x0 x1 x2 x3 : Value} {u v : World} (h : HoldR w b x0 x1 x2 x3 u) (hb : Below u.heap.size u v) : HoldR w b x0 x1 x2 x3 v :=
  ⟨h.1.below hb, h.2.1.below hb, h.2.2.1.below hb, below_then h.2.2.2.size h.2.2.2 hb⟩

set_option maxRecDepth 100000 in
set_option maxHeartbeats 1000000 in
theorem response_any (s m : Int) (r via : ByteArray) (A : Option Addr) (n c : Nat) (fs : List FD) (w : World) (hl : fs.length = n) (hf : F.bulk fs ≤ 1073741824) (hx : Rd w A n 2 (fcells fs)) (hnil : A = none → n = 0 ∧ c = 0)
    (h0 : -9223372036854775808 ≤ m) (h1 : m ≤ 9223372036854775807) (h2 : via.size ≤ 1099511627776) (ht : TabOk w) :
    Calls Tryz.prog 17 #[.agg #[.int .i64 s, .string r, .int .i64 m, .slice A n c], .string via] w (RetR w s r 1 (F.put (F.strip fs) F.via3 (F.viaOf fs m via))) := by
  have hbs : F.bulk (F.strip fs) ≤ 8589934592 := by have := F.bulk_strip fs; omega
  have HS := Lib.hid (fun (w1 : World) (hb : Below w.heap.size w w1) => strip_any A n c fs w1 hl hf (hx.below hb) hnil)
  have HW := Lib.hid (fun (A1 : Option Addr) (c1 : Nat) (w1 : World) (hb : Below w.heap.size w w1) (hx1 : Rd w1 A1 (F.strip fs).length 2 (fcells (F.strip fs))) (hn1 : A1 = none → (F.strip fs).length = 0 ∧ c1 = 0) =>
    withVia_any A1 (F.strip fs).length c1 (F.strip fs) A n c fs m via w1 rfl hbs hx1 hn1 hl (by omega) (hx.below hb) h0 h1 h2 (ht.below hb))
  obtain ⟨P, hP⟩ : ∃ P, P = F.put (F.strip fs) F.via3 (F.viaOf fs m via) := ⟨_, rfl⟩
  rw [← hP] at HW ⊢
  obtain ⟨T, hT⟩ : ∃ T, T = F.strip fs := ⟨_, rfl⟩
  rw [← hT] at HS HW
  obtain ⟨N, hN⟩ : ∃ N, N = T.length := ⟨_, rfl⟩
  rw [← hN] at HS HW
  obtain ⟨M, hM⟩ : ∃ M, M = P.length := ⟨_, rfl⟩
  have HM := Lib.hid hM
  rw [← hM] at HW
  clear hP hT hN hM hl hf hx hnil ht h0 h1 hbs
  go_enter Tryz.func17, Tryz.ntmps17
  go_wp2
  obtain ⟨w2, hw2⟩ : ∃ w2, w2 = (w.alloc (.cells #[.int .i64 s, .string r, .int .i64 m, .slice A n c] 26)).alloc (.cells #[.int .i64 0, .string ⟨#[]⟩, .int .i64 0, .slice none 0 0] 26) := ⟨_, rfl⟩
  rw [← hw2]
  have hlt2 : w.heap.size + 2 ≤ w2.heap.size := by rw [hw2]; simp only [World.size_alloc]; omega
  have hb2 : Below w.heap.size w w2.drew := by rw [hw2]; exact (((Below.refl _ _).alloc (Nat.le_refl _) _).alloc (by rw [World.size_alloc]; omega) _).drew
  have hx4 : Four4 w2.drew w.heap.size (.int .i64 s) (.string r) (.int .i64 m) (.slice A n c) := by
    rw [hw2]; exact (newFour (w := w) (.int .i64 s) (.string r) (.int .i64 m) (.slice A n c) 26).below (((Below.refl _ _).alloc (Nat.le_refl _) _).drew)
  have hk : Four w2.drew w.heap.size := hx4.four (fun i => by
    rw [hw2]
    show World.frozen? (World.alloc _ _) _ = false
    rw [frozen?_alloc_cells]
    exact newFour_free _ _ _)
  have hy : Four w2.drew (w.heap.size + 1) := by
    rw [hw2]
    have h4 := newFour (w := w.alloc (.cells #[.int .i64 s, .string r, .int .i64 m, .slice A n c] 26)) (.int .i64 0) (.string ⟨#[]⟩) (.int .i64 0) (.slice none 0 0) 26
    have hz := fun i => newFour_free (w := w.alloc (.cells #[.int .i64 s, .string r, .int .i64 m, .slice A n c] 26)) #[.int .i64 0, .string ⟨#[]⟩, .int .i64 0, .slice none 0 0] 26 i
    rw [World.size_alloc] at h4 hz
    exact h4.four hz
  have hd3 : w2.drew.heap.size = w2.heap.size := rfl
  obtain ⟨x0, x1, x2, x3⟩ := hx4
  have HX := Lib.hid (show Four4 w2.drew w.heap.size (.int .i64 s) (.string r) (.int .i64 m) (.slice A n c) from ⟨x0, x1, x2, x3⟩)
  have HK := Lib.hid hk
  have HY := Lib.hid hy
  have HB2 := Lib.hid hb2
  have HLT := Lib.hid hlt2
  clear hw2 hk hy hb2 hlt2 hd3
  have hS0 : HoldR w w.heap.size (.int .i64 s) (.string r) (.int .i64 m) (.slice A n c) w2.drew := ⟨HX.out, HK.out, HY.out, HB2.out⟩
  clear x0 x1 x2 x3 HX HK HY HB2
  refine wp_region_noPanic ?_
  refine HT.begin (n := 10) (S := HoldR w w.heap.size (.int .i64 s) (.string r) (.int .i64 m) (.slice A n c)) (by kernel_rfl) hS0 ?_
  clear hS0
  refine HT.take 0 (.pointer (some ⟨w.heap.size, 3, none⟩)) rfl (by kernel_rfl) (fun _ _ _ h => h) (Or.inl ⟨by rfl, ?_⟩) (?_ : HT _ _ _ _ _ _ _ ⟨#[.agg #[.int .i64 s, .string r, .int .i64 m, .slice A n c], .string via, .pointer (some ⟨w.heap.size, 0, none⟩), undef, .pointer (some ⟨w.heap.size + 1, 0, none⟩), .pointer (some ⟨w.heap.size, 3, none⟩), undef, undef, undef, undef, undef, undef, undef, undef, undef, undef, undef], []⟩ _)
  · intro u hu
    go_simp
  refine HT.take 1 (.slice A n c) rfl (by kernel_rfl) (fun _ _ _ h => h) (Or.inl ⟨by rfl, ?_⟩) (?_ : HT _ _ _ _ _ _ _ ⟨#[.agg #[.int .i64 s, .string r, .int .i64 m, .slice A n c], .string via, .pointer (some ⟨w.heap.size, 0, none⟩), undef, .pointer (some ⟨w.heap.size + 1, 0, none⟩), .pointer (some ⟨w.heap.size, 3, none⟩), .slice A n c, undef, undef, undef, undef, undef, undef, undef, undef, undef, undef], []⟩ _)
  · intro u hu
    obtain ⟨⟨c0, c1, c2, c3⟩, _⟩ := hu
    go_simp
  refine HT.take 3 (.pointer (some ⟨w.heap.size, 3, none⟩)) rfl (by kernel_rfl) (fun _ _ _ h => h) (Or.inl ⟨by rfl, ?_⟩) (?_ : HT _ _ _ _ _ _ _ ⟨#[.agg #[.int .i64 s, .string r, .int .i64 m, .slice A n c], .string via, .pointer (some ⟨w.heap.size, 0, none⟩), undef, .pointer (some ⟨w.heap.size + 1, 0, none⟩), .pointer (some ⟨w.heap.size, 3, none⟩), .slice A n c, undef, .pointer (some ⟨w.heap.size, 3, none⟩), undef, undef, undef, undef, undef, undef, undef, undef], []⟩ _)
  · intro u hu
    go_simp
  refine HT.take 4 (.slice A n c) rfl (by kernel_rfl) (fun _ _ _ h => h) (Or.inl ⟨by rfl, ?_⟩) (?_ : HT _ _ _ _ _ _ _ ⟨#[.agg #[.int .i64 s, .string r, .int .i64 m, .slice A n c], .string via, .pointer (some ⟨w.heap.size, 0, none⟩), undef, .pointer (some ⟨w.heap.size + 1, 0, none⟩), .pointer (some ⟨w.heap.size, 3, none⟩), .slice A n c, undef, .pointer (some ⟨w.heap.size, 3, none⟩), .slice A n c, undef, undef, undef, undef, undef, undef, undef], []⟩ _)
  · intro u hu
    obtain ⟨⟨c0, c1, c2, c3⟩, _⟩ := hu
    go_simp
  refine HT.take 5 (.pointer (some ⟨w.heap.size, 2, none⟩)) rfl (by kernel_rfl) (fun _ _ _ h => h) (Or.inl ⟨by rfl, ?_⟩) (?_ : HT _ _ _ _ _ _ _ ⟨#[.agg #[.int .i64 s, .string r, .int .i64 m, .slice A n c], .string via, .pointer (some ⟨w.heap.size, 0, none⟩), undef, .pointer (some ⟨w.heap.size + 1, 0, none⟩), .pointer (some ⟨w.heap.size, 3, none⟩), .slice A n c, undef, .pointer (some ⟨w.heap.size, 3, none⟩), .slice A n c, .pointer (some ⟨w.heap.size, 2, none⟩), undef, undef, undef, undef, undef, undef], []⟩ _)
  · intro u hu
    go_simp
  refine HT.take 6 (.int .i64 m) rfl (by kernel_rfl) (fun _ _ _ h => h) (Or.inl ⟨by rfl, ?_⟩) (?_ : HT _ _ _ _ _ _ _ ⟨#[.agg #[.int .i64 s, .string r, .int .i64 m, .slice A n c], .string via, .pointer (some ⟨w.heap.size, 0, none⟩), undef, .pointer (some ⟨w.heap.size + 1, 0, none⟩), .pointer (some ⟨w.heap.size, 3, none⟩), .slice A n c, undef, .pointer (some ⟨w.heap.size, 3, none⟩), .slice A n c, .pointer (some ⟨w.heap.size, 2, none⟩), .int .i64 m, undef, undef, undef, undef, undef], []⟩ _)
  · intro u hu
    obtain ⟨⟨c0, c1, c2, c3⟩, _⟩ := hu
    go_simp
  refine HT.take 7 (.string via) rfl (by kernel_rfl) (fun _ _ _ h => h) (Or.inl ⟨by rfl, ?_⟩) (?_ : HT _ _ _ _ _ _ _ ⟨#[.agg #[.int .i64 s, .string r, .int .i64 m, .slice A n c], .string via, .pointer (some ⟨w.heap.size, 0, none⟩), undef, .pointer (some ⟨w.heap.size + 1, 0, none⟩), .pointer (some ⟨w.heap.size, 3, none⟩), .slice A n c, undef, .pointer (some ⟨w.heap.size, 3, none⟩), .slice A n c, .pointer (some ⟨w.heap.size, 2, none⟩), .int .i64 m, .string via, undef, undef, undef, undef], []⟩ _)
  · intro u hu
    go_simp
  refine HT.step 2 rfl (by kernel_rfl) (fun hS K hK => ?_)
  go_simp
  refine (HS.out _ hS.2.2.2).mono ?_
  rintro e w3 ⟨A3, c3, rfl, hr3, hb3⟩
  have hS3 := hS.below hb3
  have hz3 : w.heap.size + 2 ≤ w3.heap.size := by have := hS3.2.2.1.lt; omega
  refine hK.out _ _ hS3 ?_
  clear hK hS hb3
  refine HT.step 8 rfl (by kernel_rfl) (fun hS K hK => ?_)
  go_simp
  refine (HW.out A3 c3 _ hS.2.2.2 hr3.rd (fun h => hr3.nil h)).mono ?_
  rintro e w4 ⟨A4, c4, rfl, hr4, hb4⟩
  have hS4 := hS.below hb4
  refine hK.out _ _ hS4 ?_
  clear hK hS hS3
  refine HT.take 9 (.pointer (some ⟨w.heap.size, 3, none⟩)) rfl (by kernel_rfl) (fun _ _ _ h => h) (Or.inl ⟨by rfl, ?_⟩) (?_ : HT _ _ _ _ _ _ _ ⟨#[.agg #[.int .i64 s, .string r, .int .i64 m, .slice A n c], .string via, .pointer (some ⟨w.heap.size, 0, none⟩), undef, .pointer (some ⟨w.heap.size + 1, 0, none⟩), .pointer (some ⟨w.heap.size, 3, none⟩), .slice A n c, .slice A3 N c3, .pointer (some ⟨w.heap.size, 3, none⟩), .slice A n c, .pointer (some ⟨w.heap.size, 2, none⟩), .int .i64 m, .string via, .slice A4 M c4, .pointer (some ⟨w.heap.size, 3, none⟩), undef, undef], []⟩ _)
  · intro u hu
    go_simp
  refine HT.tail _ rfl rfl (by kernel_rfl) (fun hS => ?_)
  obtain ⟨⟨x0, x1, x2, x3⟩, ⟨⟨k0, kf0⟩, ⟨k1, kf1⟩, ⟨k2, kf2⟩, ⟨k3, kf3⟩⟩, ⟨⟨y0, g0⟩, ⟨y1, g1⟩, ⟨y2, g2⟩, ⟨y3, g3⟩⟩, hbel⟩ := hS
  have HS4 := Lib.hid hS4
  have HR4 := Lib.hid hr4
  clear hS4 hr4 hb4 hr3 HS HW hbel HLT
  go_wp2
  refine NoPanic.normal ?_
  go_wp2
  have hfour := (HS4.out.2.2.1.far (b := w.heap.size) (by omega) 3 (.slice A4 M c4)).far (b := w.heap.size) (by omega) 2 (.int .i64 1)
  have hfour := hfour.set4 (.int .i64 s) (.string r) (.int .i64 1) (.slice A4 M c4)
  have hrow := ((HR4.out.far (b := w.heap.size) (i := 3) (by omega) (.slice A4 M c4)).far (b := w.heap.size) (i := 2) (by omega) (.int .i64 1)).set4 (b := w.heap.size + 1) (by omega) (.int .i64 s) (.string r) (.int .i64 1) (.slice A4 M c4)
  have hbel := below_set4 ((HS4.out.2.2.2.setCell (p := ⟨w.heap.size, 3, none⟩) (Nat.le_refl _) (.slice A4 M c4)).setCell (p := ⟨w.heap.size, 2, none⟩) (Nat.le_refl _) (.int .i64 1)) (b := w.heap.size + 1) (by omega) (.int .i64 s) (.string r) (.int .i64 1) (.slice A4 M c4)
  clear x0 x1 x2 x3 k0 kf0 k1 kf1 k2 kf2 k3 kf3 y0 y1 y2 y3 g0 g1 g2 g3 HS4 HR4
  generalize ((((((w4.setCell ⟨w.heap.size, 3, none⟩ (.slice A4 M c4)).setCell ⟨w.heap.size, 2, none⟩ (.int .i64 1)).setCell ⟨w.heap.size + 1, 0, none⟩ (.int .i64 s)).setCell ⟨w.heap.size + 1, 1, none⟩ (.string r)).setCell ⟨w.heap.size + 1, 2, none⟩ (.int .i64 1)).setCell ⟨w.heap.size + 1, 3, none⟩ (.slice A4 M c4)) = U at *
  obtain ⟨d0, d1, d2, d3⟩ := hfour
  refine bodyPost_ret (v := .agg #[.int .i64 s, .string r, .int .i64 1, .slice A4 M c4]) (by simp [results, Tryz.results17, go_sem, d0, d1, d2, d3]) rfl ?_
  rw [HM.out] at hrow ⊢
  exact ⟨A4, c4, rfl, hrow.mono (by omega), hbel⟩
end Go.Proofs.YtecopkcogobolaaGreatDoor
