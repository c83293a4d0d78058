/- The walks of Reply, of the words of a status, of SameBytes and SameResponse. Conditions: the number is of 64 bits; for Itoa the library's table of powers of ten is as its text lays it. The walks of Reply. Conditions: the number is of 64 bits; for Itoa the library's table of powers of ten is as its text lays it. The walks of SameResponse, CopyResponse, SameRequest, CopyRequest, and of the law's alive. Conditions: lists of at most 2^40 elements; the library's table of powers of ten is as its text lays it. -/
import Derived.Test.YtkempjcphpnocaaGreatDoorZ03
import Derived.Test.YtkempjcphpnocaaGreatDoorZ00
import Derived.Deep.RegionHeld3
import Derived.Lib.ItoaLen
import Derived.Test.YtkempjcphpnocaaGreatDoorZ11
namespace Go.Proofs.YtkempjcphpnocaaGreatDoor
open Go.RowKit

set_option maxHeartbeats 400000 in
theorem sameBytes_any (A B : Option Addr) (n m c d : Nat) (xs ys : List UInt8) (w : World) (hn : n ≤ 1099511627776) (hm : m ≤ 1099511627776) (hx : Rd w A n 1 (bcells xs)) (hy : Rd w B m 1 (bcells ys)) (hxl : xs.length = n) (hyl : ys.length = m) :
    Calls Tryz.prog 52 #[.slice A n c, .slice B m d] w (RetB w (decide (xs = ys))) := by
  have HX := Lib.hid hxl
  have HY := Lib.hid hyl
  clear hxl hyl
  by_cases hnm : n = m
  · subst hnm
    go_enter Tryz.func52, Tryz.ntmps52
    go_wp2
    go_loopw [5] (fun i wr => ∃ k : Nat, k ≤ n ∧ i = .int .i64 k ∧ xs.take k = ys.take k ∧ ∃ q, wr = w.drewN q) (fun i _ => n - (intOf i).toNat)
    case atStart => exact ⟨0, Nat.zero_le _, rfl, rfl, 0, rfl⟩
    case round =>
      obtain ⟨k, hk, rfl, he, q, rfl⟩ := hrel
      have HE := Lib.hid he; clear he
      by_cases hlt : k < n
      · obtain ⟨b1, o1, rfl, hl1, c1⟩ := hx.byte hlt HX.out
        obtain ⟨b2, o2, rfl, hl2, d1⟩ := hy.byte hlt HY.out
        have hsnoc : ∀ h : xs[k]'(by have := HX.out; omega) = ys[k]'(by have := HY.out; omega), xs.take (k + 1) = ys.take (k + 1) := fun h => take_eq_snoc _ _ HE.out h
        have hne : ∀ h : ¬ xs[k]'(by have := HX.out; omega) = ys[k]'(by have := HY.out; omega), ¬ xs = ys := fun h e => h (by subst e; rfl)
        obtain ⟨x, hx1⟩ : ∃ x, x = xs[k]'(by have := HX.out; omega) := ⟨_, rfl⟩
        obtain ⟨y, hy1⟩ : ∃ y, y = ys[k]'(by have := HY.out; omega) := ⟨_, rfl⟩
        rw [← hx1] at c1 hsnoc hne
        rw [← hy1] at d1 hsnoc hne
        have HS := Lib.hid hsnoc
        have HN := Lib.hid hne
        clear hx1 hy1 hsnoc hne
        by_cases hd : x = y
        · have hb : ((x.toNat : Int) != (y.toNat : Int)) = false := by rw [hd]; simp
          have hyes := HS.out hd
          have HYS := Lib.hid hyes
          clear hyes hd
          go_wp2
          go_region
          go_wp2
          go_roundw
          case rel => exact ⟨k + 1, by omega, by go_num, HYS.out, _, rfl⟩
          case measure => simp [intOf]; omega
        · have hb : ((x.toNat : Int) != (y.toNat : Int)) = true := by
            rw [bne_iff_ne]; intro e; exact hd (UInt8.toNat_inj.1 (by omega))
          have hno := decide_eq_false (HN.out hd)
          have HNO := Lib.hid hno
          clear hno hd
          go_wp2
          go_region
          go_wp2
          go_ret
          exact ⟨ret_bool HNO.out.symm, below_drewN (Below.refl _ _) _⟩
      · have hfin : xs = ys := by
          have := HE.out
          have h1 := HX.out
          have h2 := HY.out
          rw [List.take_of_length_le (by omega), List.take_of_length_le (by omega)] at this
          exact this
        have HF := Lib.hid hfin
        clear hfin
        go_wp2
        go_ret
        exact ⟨ret_bool (by rw [decide_eq_true HF.out]), below_drewN (Below.refl _ _) _⟩
  · have h1 : ((n : Int) == (m : Int)) = false := by simp; omega
    have h2 : ((n : Int) != (m : Int)) = true := by simp; omega
    go_enter Tryz.func52, Tryz.ntmps52
    go_wp2
    go_ret
    exact ⟨ret_bool (by have := HX.out; have := HY.out; symm; apply decide_eq_false; rintro rfl; omega), Below.refl _ _⟩

/-! ### The words of a status -/
def words : List (Int × ByteArray) := [(400, ⟨#[66, 97, 100, 32, 82, 101, 113, 117, 101, 115, 116]⟩), (403, ⟨#[70, 111, 114, 98, 105, 100, 100, 101, 110]⟩), (404, ⟨#[78, 111, 116, 32, 70, 111, 117, 110, 100]⟩), (413, ⟨#[67, 111, 110, 116, 101, 110, 116, 32, 84, 111, 111, 32, 76, 97, 114, 103, 101]⟩), (431, ⟨#[82, 101, 113, 117, 101, 115, 116, 32, 72, 101, 97, 100, 101, 114, 32, 70, 105, 101, 108, 100, 115, 32, 84, 111, 111, 32, 76, 97, 114, 103, 101]⟩), (501, ⟨#[78, 111, 116, 32, 73, 109, 112, 108, 101, 109, 101, 110, 116, 101, 100]⟩), (502, ⟨#[66, 97, 100, 32, 71, 97, 116, 101, 119, 97, 121]⟩), (504, ⟨#[71, 97, 116, 101, 119, 97, 121, 32, 84, 105, 109, 101, 111, 117, 116]⟩), (505, ⟨#[72, 84, 84, 80, 32, 86, 101, 114, 115, 105, 111, 110, 32, 78, 111, 116, 32, 83, 117, 112, 112, 111, 114, 116, 101, 100]⟩)]
def wordOf (s : Int) : List (Int × ByteArray) → ByteArray
  | [] => ⟨#[69, 114, 114, 111, 114]⟩
  | x :: l => if x.1 = s then x.2 else wordOf s l
def word (s : Int) : ByteArray := wordOf s words
end Go.Proofs.YtkempjcphpnocaaGreatDoor

namespace Go.Proofs.YtkempjcphpnocaaGreatDoor
open Go.RowKit

def plainF : FD := (⟨#[67, 111, 110, 116, 101, 110, 116, 45, 84, 121, 112, 101]⟩, ⟨#[116, 101, 120, 116, 47, 112, 108, 97, 105, 110]⟩)
/-- What a cell holds. -/
def at_ (w : World) (p : Addr) : Value := (w.cell? p).getD undef
theorem at_of {w : World} {p : Addr} {v : Value} (h : w.cell? p = some v) : w.cell? p = some (at_ w p) := by
  unfold at_; rw [h]; rfl
theorem newFree {w w1 : World} {cs : Array Value} {t : TypeId} (hb : Below (w.alloc (.cells cs t)).heap.size (w.alloc (.cells cs t)) w1) (i : Nat) : w1.frozen? ⟨w.heap.size, i, none⟩ = false := by
  rw [hb.frozen (p := ⟨w.heap.size, i, none⟩) (by simp)]
  unfold World.frozen?; rw [heap_alloc_new]; simp
/-- Four cells that may be written. -/
def Four (w : World) (b : Nat) : Prop := (w.cell? ⟨b, 0, none⟩ = some (at_ w ⟨b, 0, none⟩) ∧ w.frozen? ⟨b, 0, none⟩ = false) ∧ (w.cell? ⟨b, 1, none⟩ = some (at_ w ⟨b, 1, none⟩) ∧ w.frozen? ⟨b, 1, none⟩ = false) ∧ (w.cell? ⟨b, 2, none⟩ = some (at_ w ⟨b, 2, none⟩) ∧ w.frozen? ⟨b, 2, none⟩ = false) ∧ (w.cell? ⟨b, 3, none⟩ = some (at_ w ⟨b, 3, none⟩) ∧ w.frozen? ⟨b, 3, none⟩ = false)
def Four4 (w : World) (b : Nat) (x0 x1 x2 x3 : Value) : Prop := w.cell? ⟨b, 0, none⟩ = some x0 ∧ w.cell? ⟨b, 1, none⟩ = some x1 ∧ w.cell? ⟨b, 2, none⟩ = some x2 ∧ w.cell? ⟨b, 3, none⟩ = some x3
theorem Four.below {w w1 : World} {b : Nat} (h : Four w b) (hb : Below w.heap.size w w1) : Four w1 b := by
  obtain ⟨⟨a0, f0⟩, ⟨a1, f1⟩, ⟨a2, f2⟩, ⟨a3, f3⟩⟩ := h
  have lt := World.block_lt_of_cell? w _ a0
  exact ⟨⟨at_of ((hb.cell (p := ⟨b, 0, none⟩) lt).trans a0), (hb.frozen (p := ⟨b, 0, none⟩) lt).trans f0⟩, ⟨at_of ((hb.cell (p := ⟨b, 1, none⟩) lt).trans a1), (hb.frozen (p := ⟨b, 1, none⟩) lt).trans f1⟩, ⟨at_of ((hb.cell (p := ⟨b, 2, none⟩) lt).trans a2), (hb.frozen (p := ⟨b, 2, none⟩) lt).trans f2⟩, ⟨at_of ((hb.cell (p := ⟨b, 3, none⟩) lt).trans a3), (hb.frozen (p := ⟨b, 3, none⟩) lt).trans f3⟩⟩
theorem Four4.below {w w1 : World} {b : Nat} {x0 x1 x2 x3 : Value} (h : Four4 w b x0 x1 x2 x3) (hb : Below w.heap.size w w1) : Four4 w1 b x0 x1 x2 x3 := by
  obtain ⟨a0, a1, a2, a3⟩ := h
  have lt := World.block_lt_of_cell? w _ a0
  exact ⟨(hb.cell (p := ⟨b, 0, none⟩) lt).trans a0, (hb.cell (p := ⟨b, 1, none⟩) lt).trans a1, (hb.cell (p := ⟨b, 2, none⟩) lt).trans a2, (hb.cell (p := ⟨b, 3, none⟩) lt).trans a3⟩
theorem Four4.four {w : World} {b : Nat} {x0 x1 x2 x3 : Value} (h : Four4 w b x0 x1 x2 x3) (h0 : ∀ i, w.frozen? ⟨b, i, none⟩ = false) : Four w b :=
  ⟨⟨at_of h.1, h0 0⟩, ⟨at_of h.2.1, h0 1⟩, ⟨at_of h.2.2.1, h0 2⟩, ⟨at_of h.2.2.2, h0 3⟩⟩
theorem newFour {w : World} (x0 x1 x2 x3 : Value) (t : TypeId) : Four4 (w.alloc (.cells #[x0, x1, x2, x3] t)) w.heap.size x0 x1 x2 x3 := by
  refine ⟨?_, ?_, ?_, ?_⟩ <;> simp
theorem newFour_free {w : World} (cs : Array Value) (t : TypeId) (i : Nat) : (w.alloc (.cells cs t)).frozen? ⟨w.heap.size, i, none⟩ = false := by
  unfold World.frozen?; rw [heap_alloc_new]; simp

/-- 'Held': the answer's cells may be written, the struct's cells hold it. -/
def HeldR (w : World) (b b4 : Nat) (x0 x1 x2 x3 : Value) (A : Option Addr) (w' : World) : Prop :=
  Four4 w' b4 x0 x1 x2 x3 ∧ Four w' b ∧ (TabOk w' ∧ Rd w' A 1 2 (fcells [plainF]) ∧ Below w.heap.size w w')
theorem HeldR.below {w : World} {b b4 : Nat} {x0 x1 x2 x3 : Value} {A : Option Addr} {u v : World} (h : HeldR w b b4 x0 x1 x2 x3 A u) (hb : Below u.heap.size u v) : HeldR w b b4 x0 x1 x2 x3 A v :=
  ⟨Four4.below h.1 hb, Four.below h.2.1 hb, h.2.2.1.below hb, h.2.2.2.1.below hb, below_then h.2.2.2.2.size h.2.2.2.2 hb⟩
theorem HeldR.drew {w : World} {b b4 : Nat} {x0 x1 x2 x3 : Value} {A : Option Addr} {u : World} (h : HeldR w b b4 x0 x1 x2 x3 A u) : HeldR w b b4 x0 x1 x2 x3 A u.drew := h.below (Below.refl _ _).drew

theorem Four.set4 {u : World} {b : Nat} (h : Four u b) (x0 x1 x2 x3 : Value) : Four4 ((((u.setCell ⟨b, 0, none⟩ x0).setCell ⟨b, 1, none⟩ x1).setCell ⟨b, 2, none⟩ x2).setCell ⟨b, 3, none⟩ x3) b x0 x1 x2 x3 := by
  obtain ⟨⟨a0, f0⟩, ⟨a1, f1⟩, ⟨a2, f2⟩, ⟨a3, f3⟩⟩ := h
  have o : ∀ (w : World) (i j : Nat) (v : Value), i ≠ j → (w.setCell ⟨b, i, none⟩ v).cell? ⟨b, j, none⟩ = w.cell? ⟨b, j, none⟩ := fun w i j v h => World.cell?_setCell_other _ _ _ _ (fun e => h (by injection e))
  refine ⟨?_, ?_, ?_, ?_⟩
  · rw [o _ _ _ _ (by decide), o _ _ _ _ (by decide), o _ _ _ _ (by decide)]
    exact World.cell?_setCell_same _ _ _ a0
  · rw [o _ _ _ _ (by decide), o _ _ _ _ (by decide)]
    exact World.cell?_setCell_same _ _ _ (u := at_ u ⟨b, 1, none⟩) (by rw [o _ _ _ _ (by decide)]; exact a1)
  · rw [o _ _ _ _ (by decide)]
    exact World.cell?_setCell_same _ _ _ (u := at_ u ⟨b, 2, none⟩) (by rw [o _ _ _ _ (by decide), o _ _ _ _ (by decide)]; exact a2)
  · exact World.cell?_setCell_same _ _ _ (u := at_ u ⟨b, 3, none⟩) (by rw [o _ _ _ _ (by decide), o _ _ _ _ (by decide), o _ _ _ _ (by decide)]; exact a3)
theorem Four.set4_four {u : World} {b : Nat} (h : Four u b) (x0 x1 x2 x3 : Value) : Four ((((u.setCell ⟨b, 0, none⟩ x0).setCell ⟨b, 1, none⟩ x1).setCell ⟨b, 2, none⟩ x2).setCell ⟨b, 3, none⟩ x3) b := by
  obtain ⟨h0, h1, h2, h3⟩ := h.set4 x0 x1 x2 x3
  obtain ⟨⟨a0, f0⟩, ⟨a1, f1⟩, ⟨a2, f2⟩, ⟨a3, f3⟩⟩ := h
  refine ⟨⟨at_of h0, ?_⟩, ⟨at_of h1, ?_⟩, ⟨at_of h2, ?_⟩, ⟨at_of h3, ?_⟩⟩ <;> simp [*]
theorem Four4.far {u : World} {b b' : Nat} {y0 y1 y2 y3 : Value} (h : Four4 u b' y0 y1 y2 y3) (hne : b' ≠ b) (i : Nat) (x : Value) : Four4 (u.setCell ⟨b, i, none⟩ x) b' y0 y1 y2 y3 := by
  obtain ⟨a0, a1, a2, a3⟩ := h
  refine ⟨?_, ?_, ?_, ?_⟩ <;> rw [World.cell?_setCell_far _ _ _ _ (fun e => hne e.symm)] <;> assumption
theorem Rd.far {u : World} {B : Option Addr} {n size : Nat} {xs : List Value} (h : Rd u B n size xs) (b : Nat) (hne : 0 < n → ∀ p, B = some p → p.block ≠ b) (i : Nat) (x : Value) : Rd (u.setCell ⟨b, i, none⟩ x) B n size xs :=
  ⟨h.1, fun hn => by
    obtain ⟨c, o, rfl, hlt, hc⟩ := h.2 hn
    refine ⟨c, o, rfl, by simpa using hlt, fun j v hv => ?_⟩
    rw [World.cell?_setCell_far _ _ _ _ (fun e => hne hn _ rfl e.symm)]
    exact hc j v hv⟩
theorem Rd.set4 {u : World} {B : Option Addr} {n size : Nat} {xs : List Value} (h : Rd u B n size xs) (b : Nat) (hne : 0 < n → ∀ p, B = some p → p.block ≠ b) (x0 x1 x2 x3 : Value) : Rd ((((u.setCell ⟨b, 0, none⟩ x0).setCell ⟨b, 1, none⟩ x1).setCell ⟨b, 2, none⟩ x2).setCell ⟨b, 3, none⟩ x3) B n size xs :=
  (((h.far b hne _ _).far b hne _ _).far b hne _ _).far b hne _ _
theorem Four.lt {u : World} {b : Nat} (h : Four u b) : b < u.heap.size := World.block_lt_of_cell? u _ h.1.1
theorem HeldR.set4 {w : World} {b b4 : Nat} {x0 x1 x2 x3 : Value} {A : Option Addr} {u : World} (h : HeldR w b b4 x0 x1 x2 x3 A u) (hb : w.heap.size ≤ b) (hne : b4 ≠ b) (hA : ∀ p, A = some p → p.block ≠ b) (ht : TabOk w) (y0 y1 y2 y3 : Value) :
    HeldR w b b4 x0 x1 x2 x3 A ((((u.setCell ⟨b, 0, none⟩ y0).setCell ⟨b, 1, none⟩ y1).setCell ⟨b, 2, none⟩ y2).setCell ⟨b, 3, none⟩ y3) := by
  have hB : Below w.heap.size w ((((u.setCell ⟨b, 0, none⟩ y0).setCell ⟨b, 1, none⟩ y1).setCell ⟨b, 2, none⟩ y2).setCell ⟨b, 3, none⟩ y3) :=
    (((h.2.2.2.2.setCell (p := ⟨b, 0, none⟩) hb _).setCell (p := ⟨b, 1, none⟩) hb _).setCell (p := ⟨b, 2, none⟩) hb _).setCell (p := ⟨b, 3, none⟩) hb _
  have h4 : Four4 u b4 x0 x1 x2 x3 := h.1
  exact ⟨(((h4.far hne _ _).far hne _ _).far hne _ _).far hne _ _, h.2.1.set4_four _ _ _ _, ht.below hB, h.2.2.2.1.set4 b (fun _ => hA) _ _ _ _, hB⟩
end Go.Proofs.YtkempjcphpnocaaGreatDoor

namespace Go.Proofs.YtkempjcphpnocaaGreatDoor
open Go.RowKit

set_option maxHeartbeats 400000 in
theorem sameResponse_any (s1 m1 s2 m2 : Int) (r1 r2 : ByteArray) (A B : Option Addr) (n m c d : Nat) (xs ys : List FD) (w : World) (hn : n ≤ 1099511627776) (hm : m ≤ 1099511627776) (hx : Rd w A n 2 (fcells xs)) (hy : Rd w B m 2 (fcells ys)) (hxl : xs.length = n) (hyl : ys.length = m) :
    Calls Tryz.prog 51 #[.agg #[.int .i64 s1, .string r1, .int .i64 m1, .slice A n c], .agg #[.int .i64 s2, .string r2, .int .i64 m2, .slice B m d]] w (RetB w (decide (s1 = s2) && decide (r1 = r2) && decide (m1 = m2) && decide (xs = ys))) := by
  have HS := Lib.hid (fun w' (hb : Below w.heap.size w w') => sameFields_any A B n m c d xs ys w' hn hm (hx.below hb) (hy.below hb) hxl hyl)
  obtain ⟨b4, hb4⟩ : ∃ b4, b4 = decide (xs = ys) := ⟨_, rfl⟩
  rw [← hb4] at HS ⊢
  clear hx hy hxl hyl hb4 hn hm
  rcases tf (decide (s1 = s2)) with h1 | h1
  · have e1 : (s1 == s2) = true := by rw [of_decide_eq_true h1]; simp
    rw [h1]
    clear h1
    rcases tf (decide (r1 = r2)) with h2 | h2
    · have e2 : (r1.toList == r2.toList) = true := by rw [beq_bytes, h2]
      rw [h2]
      clear h2
      rcases tf (decide (m1 = m2)) with h3 | h3
      · have e3 : (m1 == m2) = true := by rw [of_decide_eq_true h3]; simp
        rw [h3]
        clear h3
        go_enter Tryz.func51, Tryz.ntmps51
        go_wp2_with fail
        refine (HS.out _ (((Below.refl _ _).alloc (Nat.le_refl _) _).alloc (by rw [World.size_alloc]; omega) _)).mono ?_
        rintro e w1 ⟨rfl, hb1⟩
        go_wp2
        go_ret
        exact ⟨ret_bool (by simp), below_then (by simp; omega) (((Below.refl _ _).alloc (Nat.le_refl _) _).alloc (by rw [World.size_alloc]; omega) _) hb1⟩
      · have e3 : (m1 == m2) = false := by simpa using of_decide_eq_false h3
        rw [h3]
        clear h3
        go_enter Tryz.func51, Tryz.ntmps51
        go_wp2
        go_ret
        exact ⟨ret_bool (by simp), (((Below.refl _ _).alloc (Nat.le_refl _) _).alloc (by rw [World.size_alloc]; omega) _)⟩
    · have e2 : (r1.toList == r2.toList) = false := by rw [beq_bytes, h2]
      rw [h2]
      clear h2
      go_enter Tryz.func51, Tryz.ntmps51
      go_wp2
      go_ret
      exact ⟨ret_bool (by simp), (((Below.refl _ _).alloc (Nat.le_refl _) _).alloc (by rw [World.size_alloc]; omega) _)⟩
  · have e1 : (s1 == s2) = false := by simpa using of_decide_eq_false h1
    rw [h1]
    clear h1
    go_enter Tryz.func51, Tryz.ntmps51
    go_wp2
    go_ret
    exact ⟨ret_bool (by simp), (((Below.refl _ _).alloc (Nat.le_refl _) _).alloc (by rw [World.size_alloc]; omega) _)⟩

/-! ### The law's alive -/
end Go.Proofs.YtkempjcphpnocaaGreatDoor
