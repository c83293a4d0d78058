/- The walks of Reply, of the words of a status, of SameBytes and SameResponse. Conditions: the number is of 64 bits; for Itoa the library's table of powers of ten is as its text lays it. The walks of Reply. Conditions: the number is of 64 bits; for Itoa the library's table of powers of ten is as its text lays it. The walks of SameResponse, CopyResponse, SameRequest, CopyRequest, and of the law's alive. Conditions: lists of at most 2^40 elements; the library's table of powers of ten is as its text lays it. -/
import Derived.Test.YteehjkfmlcfffaaGreatDoorShow
import Derived.Test.YteehjkfmlcfffaaGreatDoorSame
import Derived.Deep.RegionHeld3
import Derived.Lib.ItoaLen
import Derived.Test.YteehjkfmlcfffaaGreatDoorStripA
namespace Go.Proofs.YteehjkfmlcfffaaGreatDoor
open Go.RowKit

set_option maxHeartbeats 400000 in
theorem sameBytes_any (A B : Option Addr) (n m c d : Nat) (xs ys : List UInt8) (w : World) (hn : n ≤ 1099511627776) (hm : m ≤ 1099511627776) (hx : Rd w A n 1 (bcells xs)) (hy : Rd w B m 1 (bcells ys)) (hxl : xs.length = n) (hyl : ys.length = m) :
    Calls Tryz.prog 17 #[.slice A n c, .slice B m d] w (RetB w (decide (xs = ys))) := by
  have HX := Lib.hid hxl
  have HY := Lib.hid hyl
  clear hxl hyl
  by_cases hnm : n = m
  · subst hnm
    go_enter Tryz.func17, Tryz.ntmps17
    go_wp2
    go_loopw [5] (fun i wr => ∃ k : Nat, k ≤ n ∧ i = .int .i64 k ∧ xs.take k = ys.take k ∧ ∃ q, wr = w.drewN q) (fun i _ => n - (intOf i).toNat)
    case atStart => exact ⟨0, Nat.zero_le _, rfl, rfl, 0, rfl⟩
    case round =>
      obtain ⟨k, hk, rfl, he, q, rfl⟩ := hrel
      have HE := Lib.hid he; clear he
      by_cases hlt : k < n
      · obtain ⟨b1, o1, rfl, hl1, c1⟩ := hx.byte hlt HX.out
        obtain ⟨b2, o2, rfl, hl2, d1⟩ := hy.byte hlt HY.out
        have hsnoc : ∀ h : xs[k]'(by have := HX.out; omega) = ys[k]'(by have := HY.out; omega), xs.take (k + 1) = ys.take (k + 1) := fun h => take_eq_snoc _ _ HE.out h
        have hne : ∀ h : ¬ xs[k]'(by have := HX.out; omega) = ys[k]'(by have := HY.out; omega), ¬ xs = ys := fun h e => h (by subst e; rfl)
        obtain ⟨x, hx1⟩ : ∃ x, x = xs[k]'(by have := HX.out; omega) := ⟨_, rfl⟩
        obtain ⟨y, hy1⟩ : ∃ y, y = ys[k]'(by have := HY.out; omega) := ⟨_, rfl⟩
        rw [← hx1] at c1 hsnoc hne
        rw [← hy1] at d1 hsnoc hne
        have HS := Lib.hid hsnoc
        have HN := Lib.hid hne
        clear hx1 hy1 hsnoc hne
        by_cases hd : x = y
        · have hb : ((x.toNat : Int) != (y.toNat : Int)) = false := by rw [hd]; simp
          have hyes := HS.out hd
          have HYS := Lib.hid hyes
          clear hyes hd
          go_wp2
          go_region
          go_wp2
          go_roundw
          case rel => exact ⟨k + 1, by omega, by go_num, HYS.out, _, rfl⟩
          case measure => simp [intOf]; omega
        · have hb : ((x.toNat : Int) != (y.toNat : Int)) = true := by
            rw [bne_iff_ne]; intro e; exact hd (UInt8.toNat_inj.1 (by omega))
          have hno := decide_eq_false (HN.out hd)
          have HNO := Lib.hid hno
          clear hno hd
          go_wp2
          go_region
          go_wp2
          go_ret
          exact ⟨ret_bool HNO.out.symm, below_drewN (Below.refl _ _) _⟩
      · have hfin : xs = ys := by
          have := HE.out
          have h1 := HX.out
          have h2 := HY.out
          rw [List.take_of_length_le (by omega), List.take_of_length_le (by omega)] at this
          exact this
        have HF := Lib.hid hfin
        clear hfin
        go_wp2
        go_ret
        exact ⟨ret_bool (by rw [decide_eq_true HF.out]), below_drewN (Below.refl _ _) _⟩
  · have h1 : ((n : Int) == (m : Int)) = false := by simp; omega
    have h2 : ((n : Int) != (m : Int)) = true := by simp; omega
    go_enter Tryz.func17, Tryz.ntmps17
    go_wp2
    go_ret
    exact ⟨ret_bool (by have := HX.out; have := HY.out; symm; apply decide_eq_false; rintro rfl; omega), Below.refl _ _⟩

/-! ### The words of a status -/
def words : List (Int × ByteArray) := [(400, ⟨#[66, 97, 100, 32, 82, 101, 113, 117, 101, 115, 116]⟩), (403, ⟨#[70, 111, 114, 98, 105, 100, 100, 101, 110]⟩), (404, ⟨#[78, 111, 116, 32, 70, 111, 117, 110, 100]⟩), (413, ⟨#[67, 111, 110, 116, 101, 110, 116, 32, 84, 111, 111, 32, 76, 97, 114, 103, 101]⟩), (431, ⟨#[82, 101, 113, 117, 101, 115, 116, 32, 72, 101, 97, 100, 101, 114, 32, 70, 105, 101, 108, 100, 115, 32, 84, 111, 111, 32, 76, 97, 114, 103, 101]⟩), (501, ⟨#[78, 111, 116, 32, 73, 109, 112, 108, 101, 109, 101, 110, 116, 101, 100]⟩), (502, ⟨#[66, 97, 100, 32, 71, 97, 116, 101, 119, 97, 121]⟩), (504, ⟨#[71, 97, 116, 101, 119, 97, 121, 32, 84, 105, 109, 101, 111, 117, 116]⟩), (505, ⟨#[72, 84, 84, 80, 32, 86, 101, 114, 115, 105, 111, 110, 32, 78, 111, 116, 32, 83, 117, 112, 112, 111, 114, 116, 101, 100]⟩)]
def wordOf (s : Int) : List (Int × ByteArray) → ByteArray
  | [] => ⟨#[69, 114, 114, 111, 114]⟩
  | x :: l => if x.1 = s then x.2 else wordOf s l
def word (s : Int) : ByteArray := wordOf s words
theorem wordOf_drop (s : Int) (l : List (Int × ByteArray)) (k : Nat) (h : ∀ x ∈ l.take k, x.1 ≠ s) : wordOf s l = wordOf s (l.drop k) := by
  induction k generalizing l with
  | zero => rfl
  | succ k ih =>
    cases l with
    | nil => rfl
    | cons x l =>
      rw [List.drop_succ_cons, wordOf, if_neg (h x (by simp)), ih l (fun y hy => h y (by simp [hy]))]

theorem reason_any (s : Int) (w : World) : Calls Tryz.prog 160 #[.int .i64 s] w (RetS w (word s)) := by
  have close : ∀ b : ByteArray, b = word s → Ending.returned (.string b) = .returned (.string (word s)) := fun b h => by rw [h]
  have HC := Lib.hid close
  clear close
  by_cases h0 : s = 400
  · subst h0
    go_enter Tryz.func160, Tryz.ntmps160
    go_wp2
    go_ret
    exact ⟨rfl, Below.refl _ _⟩
  by_cases h1 : s = 403
  · subst h1
    go_enter Tryz.func160, Tryz.ntmps160
    go_wp2
    go_ret
    exact ⟨rfl, Below.refl _ _⟩
  by_cases h2 : s = 404
  · subst h2
    go_enter Tryz.func160, Tryz.ntmps160
    go_wp2
    go_ret
    exact ⟨rfl, Below.refl _ _⟩
  by_cases h3 : s = 413
  · subst h3
    go_enter Tryz.func160, Tryz.ntmps160
    go_wp2
    go_ret
    exact ⟨rfl, Below.refl _ _⟩
  by_cases h4 : s = 431
  · subst h4
    go_enter Tryz.func160, Tryz.ntmps160
    go_wp2
    go_ret
    exact ⟨rfl, Below.refl _ _⟩
  by_cases h5 : s = 501
  · subst h5
    go_enter Tryz.func160, Tryz.ntmps160
    go_wp2
    go_ret
    exact ⟨rfl, Below.refl _ _⟩
  by_cases h6 : s = 502
  · subst h6
    go_enter Tryz.func160, Tryz.ntmps160
    go_wp2
    go_ret
    exact ⟨rfl, Below.refl _ _⟩
  by_cases h7 : s = 504
  · subst h7
    go_enter Tryz.func160, Tryz.ntmps160
    go_wp2
    go_ret
    exact ⟨rfl, Below.refl _ _⟩
  by_cases h8 : s = 505
  · subst h8
    go_enter Tryz.func160, Tryz.ntmps160
    go_wp2
    go_ret
    exact ⟨rfl, Below.refl _ _⟩
  have hfin : (⟨#[69, 114, 114, 111, 114]⟩ : ByteArray) = word s := by
    unfold word
    rw [wordOf_drop s words 9 (by
      intro x hx
      simp only [words, List.take_succ_cons, List.take_zero, List.mem_cons, List.mem_nil_iff, or_false] at hx
      rcases hx with rfl | rfl | rfl | rfl | rfl | rfl | rfl | rfl | rfl <;> exact fun e => by simp_all)]
    rfl
  have HF := Lib.hid hfin
  clear hfin
  have b0 : (s == 400) = false := by simpa using h0
  have b1 : (s == 403) = false := by simpa using h1
  have b2 : (s == 404) = false := by simpa using h2
  have b3 : (s == 413) = false := by simpa using h3
  have b4 : (s == 431) = false := by simpa using h4
  have b5 : (s == 501) = false := by simpa using h5
  have b6 : (s == 502) = false := by simpa using h6
  have b7 : (s == 504) = false := by simpa using h7
  have b8 : (s == 505) = false := by simpa using h8
  go_enter Tryz.func160, Tryz.ntmps160
  go_wp2
  go_ret
  exact ⟨HC.out _ HF.out, Below.refl _ _⟩

end Go.Proofs.YteehjkfmlcfffaaGreatDoor

namespace Go.Proofs.YteehjkfmlcfffaaGreatDoor
open Go.RowKit

def plainF : FD := (⟨#[67, 111, 110, 116, 101, 110, 116, 45, 84, 121, 112, 101]⟩, ⟨#[116, 101, 120, 116, 47, 112, 108, 97, 105, 110]⟩)
def said (s : Int) : ByteArray := B (Lib.itoa s) ++ ⟨#[32]⟩ ++ word s ++ ⟨#[10]⟩
/-- What a Reply answers. -/
def RetReply (w : World) (s : Int) (e : Ending) (w' : World) : Prop :=
  ∃ A B c, e = .returned (.tuple #[.agg #[.int .i64 s, .string (word s), .int .i64 1, .slice A 1 1], .slice B (said s).size c]) ∧ Rd w' A 1 2 (fcells [plainF]) ∧ Rd w' B (said s).size 1 (bcells (L (said s))) ∧ Below w.heap.size w w'
/-- What a cell holds. -/
def at_ (w : World) (p : Addr) : Value := (w.cell? p).getD undef
theorem at_of {w : World} {p : Addr} {v : Value} (h : w.cell? p = some v) : w.cell? p = some (at_ w p) := by
  unfold at_; rw [h]; rfl
theorem newFree {w w1 : World} {cs : Array Value} {t : TypeId} (hb : Below (w.alloc (.cells cs t)).heap.size (w.alloc (.cells cs t)) w1) (i : Nat) : w1.frozen? ⟨w.heap.size, i, none⟩ = false := by
  rw [hb.frozen (p := ⟨w.heap.size, i, none⟩) (by simp)]
  unfold World.frozen?; rw [heap_alloc_new]; simp
/-- Four cells that may be written. -/
def Four (w : World) (b : Nat) : Prop := (w.cell? ⟨b, 0, none⟩ = some (at_ w ⟨b, 0, none⟩) ∧ w.frozen? ⟨b, 0, none⟩ = false) ∧ (w.cell? ⟨b, 1, none⟩ = some (at_ w ⟨b, 1, none⟩) ∧ w.frozen? ⟨b, 1, none⟩ = false) ∧ (w.cell? ⟨b, 2, none⟩ = some (at_ w ⟨b, 2, none⟩) ∧ w.frozen? ⟨b, 2, none⟩ = false) ∧ (w.cell? ⟨b, 3, none⟩ = some (at_ w ⟨b, 3, none⟩) ∧ w.frozen? ⟨b, 3, none⟩ = false)
def Four4 (w : World) (b : Nat) (x0 x1 x2 x3 : Value) : Prop := w.cell? ⟨b, 0, none⟩ = some x0 ∧ w.cell? ⟨b, 1, none⟩ = some x1 ∧ w.cell? ⟨b, 2, none⟩ = some x2 ∧ w.cell? ⟨b, 3, none⟩ = some x3
theorem Four.below {w w1 : World} {b : Nat} (h : Four w b) (hb : Below w.heap.size w w1) : Four w1 b := by
  obtain ⟨⟨a0, f0⟩, ⟨a1, f1⟩, ⟨a2, f2⟩, ⟨a3, f3⟩⟩ := h
  have lt := World.block_lt_of_cell? w _ a0
  exact ⟨⟨at_of ((hb.cell (p := ⟨b, 0, none⟩) lt).trans a0), (hb.frozen (p := ⟨b, 0, none⟩) lt).trans f0⟩, ⟨at_of ((hb.cell (p := ⟨b, 1, none⟩) lt).trans a1), (hb.frozen (p := ⟨b, 1, none⟩) lt).trans f1⟩, ⟨at_of ((hb.cell (p := ⟨b, 2, none⟩) lt).trans a2), (hb.frozen (p := ⟨b, 2, none⟩) lt).trans f2⟩, ⟨at_of ((hb.cell (p := ⟨b, 3, none⟩) lt).trans a3), (hb.frozen (p := ⟨b, 3, none⟩) lt).trans f3⟩⟩
theorem Four4.below {w w1 : World} {b : Nat} {x0 x1 x2 x3 : Value} (h : Four4 w b x0 x1 x2 x3) (hb : Below w.heap.size w w1) : Four4 w1 b x0 x1 x2 x3 := by
  obtain ⟨a0, a1, a2, a3⟩ := h
  have lt := World.block_lt_of_cell? w _ a0
  exact ⟨(hb.cell (p := ⟨b, 0, none⟩) lt).trans a0, (hb.cell (p := ⟨b, 1, none⟩) lt).trans a1, (hb.cell (p := ⟨b, 2, none⟩) lt).trans a2, (hb.cell (p := ⟨b, 3, none⟩) lt).trans a3⟩
theorem Four4.four {w : World} {b : Nat} {x0 x1 x2 x3 : Value} (h : Four4 w b x0 x1 x2 x3) (h0 : ∀ i, w.frozen? ⟨b, i, none⟩ = false) : Four w b :=
  ⟨⟨at_of h.1, h0 0⟩, ⟨at_of h.2.1, h0 1⟩, ⟨at_of h.2.2.1, h0 2⟩, ⟨at_of h.2.2.2, h0 3⟩⟩
theorem newFour {w : World} (x0 x1 x2 x3 : Value) (t : TypeId) : Four4 (w.alloc (.cells #[x0, x1, x2, x3] t)) w.heap.size x0 x1 x2 x3 := by
  refine ⟨?_, ?_, ?_, ?_⟩ <;> simp
theorem newFour_free {w : World} (cs : Array Value) (t : TypeId) (i : Nat) : (w.alloc (.cells cs t)).frozen? ⟨w.heap.size, i, none⟩ = false := by
  unfold World.frozen?; rw [heap_alloc_new]; simp

/-- 'Held': the answer's cells may be written, the struct's cells hold it. -/
def HeldR (w : World) (b b4 : Nat) (x0 x1 x2 x3 : Value) (A : Option Addr) (w' : World) : Prop :=
  Four4 w' b4 x0 x1 x2 x3 ∧ Four w' b ∧ (TabOk w' ∧ Rd w' A 1 2 (fcells [plainF]) ∧ Below w.heap.size w w')
theorem HeldR.below {w : World} {b b4 : Nat} {x0 x1 x2 x3 : Value} {A : Option Addr} {u v : World} (h : HeldR w b b4 x0 x1 x2 x3 A u) (hb : Below u.heap.size u v) : HeldR w b b4 x0 x1 x2 x3 A v :=
  ⟨Four4.below h.1 hb, Four.below h.2.1 hb, h.2.2.1.below hb, h.2.2.2.1.below hb, below_then h.2.2.2.2.size h.2.2.2.2 hb⟩
theorem HeldR.drew {w : World} {b b4 : Nat} {x0 x1 x2 x3 : Value} {A : Option Addr} {u : World} (h : HeldR w b b4 x0 x1 x2 x3 A u) : HeldR w b b4 x0 x1 x2 x3 A u.drew := h.below (Below.refl _ _).drew

theorem Four.set4 {u : World} {b : Nat} (h : Four u b) (x0 x1 x2 x3 : Value) : Four4 ((((u.setCell ⟨b, 0, none⟩ x0).setCell ⟨b, 1, none⟩ x1).setCell ⟨b, 2, none⟩ x2).setCell ⟨b, 3, none⟩ x3) b x0 x1 x2 x3 := by
  obtain ⟨⟨a0, f0⟩, ⟨a1, f1⟩, ⟨a2, f2⟩, ⟨a3, f3⟩⟩ := h
  have o : ∀ (w : World) (i j : Nat) (v : Value), i ≠ j → (w.setCell ⟨b, i, none⟩ v).cell? ⟨b, j, none⟩ = w.cell? ⟨b, j, none⟩ := fun w i j v h => World.cell?_setCell_other _ _ _ _ (fun e => h (by injection e))
  refine ⟨?_, ?_, ?_, ?_⟩
  · rw [o _ _ _ _ (by decide), o _ _ _ _ (by decide), o _ _ _ _ (by decide)]
    exact World.cell?_setCell_same _ _ _ a0
  · rw [o _ _ _ _ (by decide), o _ _ _ _ (by decide)]
    exact World.cell?_setCell_same _ _ _ (u := at_ u ⟨b, 1, none⟩) (by rw [o _ _ _ _ (by decide)]; exact a1)
  · rw [o _ _ _ _ (by decide)]
    exact World.cell?_setCell_same _ _ _ (u := at_ u ⟨b, 2, none⟩) (by rw [o _ _ _ _ (by decide), o _ _ _ _ (by decide)]; exact a2)
  · exact World.cell?_setCell_same _ _ _ (u := at_ u ⟨b, 3, none⟩) (by rw [o _ _ _ _ (by decide), o _ _ _ _ (by decide), o _ _ _ _ (by decide)]; exact a3)
theorem Four.set4_four {u : World} {b : Nat} (h : Four u b) (x0 x1 x2 x3 : Value) : Four ((((u.setCell ⟨b, 0, none⟩ x0).setCell ⟨b, 1, none⟩ x1).setCell ⟨b, 2, none⟩ x2).setCell ⟨b, 3, none⟩ x3) b := by
  obtain ⟨h0, h1, h2, h3⟩ := h.set4 x0 x1 x2 x3
  obtain ⟨⟨a0, f0⟩, ⟨a1, f1⟩, ⟨a2, f2⟩, ⟨a3, f3⟩⟩ := h
  refine ⟨⟨at_of h0, ?_⟩, ⟨at_of h1, ?_⟩, ⟨at_of h2, ?_⟩, ⟨at_of h3, ?_⟩⟩ <;> simp [*]
theorem Four4.far {u : World} {b b' : Nat} {y0 y1 y2 y3 : Value} (h : Four4 u b' y0 y1 y2 y3) (hne : b' ≠ b) (i : Nat) (x : Value) : Four4 (u.setCell ⟨b, i, none⟩ x) b' y0 y1 y2 y3 := by
  obtain ⟨a0, a1, a2, a3⟩ := h
  refine ⟨?_, ?_, ?_, ?_⟩ <;> rw [World.cell?_setCell_far _ _ _ _ (fun e => hne e.symm)] <;> assumption
theorem Rd.far {u : World} {B : Option Addr} {n size : Nat} {xs : List Value} (h : Rd u B n size xs) (b : Nat) (hne : 0 < n → ∀ p, B = some p → p.block ≠ b) (i : Nat) (x : Value) : Rd (u.setCell ⟨b, i, none⟩ x) B n size xs :=
  ⟨h.1, fun hn => by
    obtain ⟨c, o, rfl, hlt, hc⟩ := h.2 hn
    refine ⟨c, o, rfl, by simpa using hlt, fun j v hv => ?_⟩
    rw [World.cell?_setCell_far _ _ _ _ (fun e => hne hn _ rfl e.symm)]
    exact hc j v hv⟩
theorem Rd.set4 {u : World} {B : Option Addr} {n size : Nat} {xs : List Value} (h : Rd u B n size xs) (b : Nat) (hne : 0 < n → ∀ p, B = some p → p.block ≠ b) (x0 x1 x2 x3 : Value) : Rd ((((u.setCell ⟨b, 0, none⟩ x0).setCell ⟨b, 1, none⟩ x1).setCell ⟨b, 2, none⟩ x2).setCell ⟨b, 3, none⟩ x3) B n size xs :=
  (((h.far b hne _ _).far b hne _ _).far b hne _ _).far b hne _ _
theorem Four.lt {u : World} {b : Nat} (h : Four u b) : b < u.heap.size := World.block_lt_of_cell? u _ h.1.1
theorem HeldR.set4 {w : World} {b b4 : Nat} {x0 x1 x2 x3 : Value} {A : Option Addr} {u : World} (h : HeldR w b b4 x0 x1 x2 x3 A u) (hb : w.heap.size ≤ b) (hne : b4 ≠ b) (hA : ∀ p, A = some p → p.block ≠ b) (ht : TabOk w) (y0 y1 y2 y3 : Value) :
    HeldR w b b4 x0 x1 x2 x3 A ((((u.setCell ⟨b, 0, none⟩ y0).setCell ⟨b, 1, none⟩ y1).setCell ⟨b, 2, none⟩ y2).setCell ⟨b, 3, none⟩ y3) := by
  have hB : Below w.heap.size w ((((u.setCell ⟨b, 0, none⟩ y0).setCell ⟨b, 1, none⟩ y1).setCell ⟨b, 2, none⟩ y2).setCell ⟨b, 3, none⟩ y3) :=
    (((h.2.2.2.2.setCell (p := ⟨b, 0, none⟩) hb _).setCell (p := ⟨b, 1, none⟩) hb _).setCell (p := ⟨b, 2, none⟩) hb _).setCell (p := ⟨b, 3, none⟩) hb _
  have h4 : Four4 u b4 x0 x1 x2 x3 := h.1
  exact ⟨(((h4.far hne _ _).far hne _ _).far hne _ _).far hne _ _, h.2.1.set4_four _ _ _ _, ht.below hB, h.2.2.2.1.set4 b (fun _ => hA) _ _ _ _, hB⟩
theorem wordOf_size (s : Int) : ∀ l : List (Int × ByteArray), (∀ x ∈ l, x.2.size ≤ 31) → (wordOf s l).size ≤ 31
  | [], _ => by show (5 : Nat) ≤ 31; omega
  | x :: l, h => by
    rw [wordOf]
    split
    · exact h x (by simp)
    · exact wordOf_size s l (fun y hy => h y (by simp [hy]))
theorem word_size (s : Int) : (word s).size ≤ 31 := wordOf_size s words (by unfold words; decide)
theorem itoa_size (s : Int) (h0 : -9223372036854775808 ≤ s) (h1 : s ≤ 9223372036854775807) : (B (Lib.itoa s)).size ≤ 21 := by
  rw [B_size]; exact Lib.itoa_length_le s h0 h1
/-- '[]byte(s)' in whatever world. -/
theorem conv_fn (s : ByteArray) : ∃ (c m : World → Nat) (W : World → World), (∀ u, (convert 9 22 (.string s)).run Tryz.prog u = .ok (.slice (some ⟨u.heap.size, 0, none⟩) s.size (c u)) (W u)) ∧ ∀ u, s.size ≤ c u ∧ BBuf (W u) u.heap.size (L s) (m u) ∧ Below u.heap.size u (W u) := by
  refine ⟨fun u => (conv_sb u s).choose, fun u => (conv_sb u s).choose_spec.choose, fun u => (conv_sb u s).choose_spec.choose_spec.choose, fun u => (conv_sb u s).choose_spec.choose_spec.choose_spec.1, fun u => (conv_sb u s).choose_spec.choose_spec.choose_spec.2⟩

set_option maxRecDepth 100000 in
set_option maxHeartbeats 400000 in
theorem reply_any (s : Int) (h0 : -9223372036854775808 ≤ s) (h1 : s ≤ 9223372036854775807) (w : World) (ht : TabOk w) : Calls Tryz.prog 80 #[.int .i64 s] w (RetReply w s) := by
  go_enter Tryz.func80, Tryz.ntmps80
  go_wp2_with fail
  refine (reason_any s _).mono ?_
  rintro e w1 ⟨rfl, hb1⟩
  have hs1 := size_lt hb1
  have f1 := (newFour (w := w) (.int .i64 0) (.string ⟨#[]⟩) (.int .i64 0) (.slice none 0 0) 27).four (newFour_free _ _)
  have f2 := f1.below hb1
  have ht1 := ((ht.alloc _).below hb1)
  have hbw := below_new (Below.refl w.heap.size w) (Nat.le_refl _) hb1
  have HT0 := Lib.hid ht
  clear ht hb1 f1
  go_wp2
  obtain ⟨A, hA⟩ : ∃ A : Option Addr, A = some ⟨w1.heap.size, 0, none⟩ := ⟨_, rfl⟩
  obtain ⟨b4, hb4⟩ : ∃ b4, b4 = w1.heap.size + 1 := ⟨_, rfl⟩
  rw [← hA, ← hb4]
  obtain ⟨w2, hw2⟩ : ∃ w2, w2 = (w1.alloc (.cells #[.string ⟨#[67, 111, 110, 116, 101, 110, 116, 45, 84, 121, 112, 101]⟩, .string ⟨#[116, 101, 120, 116, 47, 112, 108, 97, 105, 110]⟩] 148)).alloc (.cells #[.int .i64 s, .string (word s), .int .i64 1, .slice A 1 1] 27) := ⟨_, rfl⟩
  have H : HeldR w w.heap.size b4 (.int .i64 s) (.string (word s)) (.int .i64 1) (.slice A 1 1) A w2 := by
    rw [hw2]
    refine ⟨?_, (f2.below ((Below.refl _ _).alloc (Nat.le_refl _) _)).below ((Below.refl _ _).alloc (Nat.le_refl _) _), (ht1.alloc _).alloc _, ?_, (hbw.alloc (by omega) _).alloc (by rw [World.size_alloc]; omega) _⟩
    · have := newFour (w := w1.alloc (.cells #[.string ⟨#[67, 111, 110, 116, 101, 110, 116, 45, 84, 121, 112, 101]⟩, .string ⟨#[116, 101, 120, 116, 47, 112, 108, 97, 105, 110]⟩] 148)) (.int .i64 s) (.string (word s)) (.int .i64 1) (.slice A 1 1) 27
      rw [World.size_alloc, ← hb4] at this
      exact this
    · rw [hA]
      exact (newF w1 plainF).alloc _
  rw [← hw2]
  have hne : b4 ≠ w.heap.size := by omega
  have hAne : ∀ p, A = some p → p.block ≠ w.heap.size := fun p hp => by rw [hA] at hp; cases hp; show w1.heap.size ≠ w.heap.size; omega
  clear hw2 hA hb4 f2 ht1 hbw hs1
  have hI := fun u (h : TabOk u) => itoa_any s h0 h1 u h
  have zI := itoa_size s h0 h1
  have zW := word_size s
  obtain ⟨I, hIe⟩ : ∃ I, I = B (Lib.itoa s) := ⟨_, rfl⟩
  have hsaid : said s = I ++ ⟨#[32]⟩ ++ word s ++ ⟨#[10]⟩ := by rw [hIe]; rfl
  obtain ⟨R, hRe⟩ : ∃ R, R = word s := ⟨_, rfl⟩
  rw [← hIe] at hI zI
  have HRE := Lib.hid hRe
  rw [← hRe] at H zW hsaid ⊢
  have HSA := Lib.hid hsaid
  clear hIe hRe hsaid
  obtain ⟨cc, cm, cW, hcv, hcb⟩ := conv_fn (I ++ ⟨#[32]⟩ ++ R ++ ⟨#[10]⟩)
  obtain ⟨N, hN⟩ : ∃ N, N = (I ++ ⟨#[32]⟩ ++ R ++ ⟨#[10]⟩).size := ⟨_, rfl⟩
  rw [← hN] at hcv
  have HN := Lib.hid hN
  clear hN
  have HI := Lib.hid hI
  have HCB := Lib.hid hcb
  clear hI hcb h0 h1
  refine wp_region_noPanic ?_
  refine wp_region_held_drew (S := HeldR w w.heap.size b4 (.int .i64 s) (.string R) (.int .i64 1) (.slice A 1 1) A) (by kernel_rfl) H.drew (fun hHeld => ?_)
  refine wpAnyH_take (i := 0) (v := .agg #[.int .i64 s, .string R, .int .i64 1, .slice A 1 1]) rfl (by kernel_rfl) (by kernel_rfl) (by kernel_rfl) (fun _ _ _ h => h) (Or.inl ⟨by rfl, ?_⟩) hHeld (?_ : wpAnyH _ _ _ _ _ _ _ ⟨#[.int .i64 s, undef, .pointer (some ⟨w.heap.size, 0, none⟩), .slice none 0 0, .pointer (some ⟨b4, 0, none⟩), .int .i64 s, .int .i64 s, .string R, .agg #[.string ⟨#[67, 111, 110, 116, 101, 110, 116, 45, 84, 121, 112, 101]⟩, .string ⟨#[116, 101, 120, 116, 47, 112, 108, 97, 105, 110]⟩], .slice A 1 1, .agg #[.int .i64 s, .string R, .int .i64 1, .slice A 1 1], .agg #[.int .i64 s, .string R, .int .i64 1, .slice A 1 1], undef, undef, undef, undef, undef, undef, undef, undef], []⟩ _)
  · intro u hu
    obtain ⟨⟨c0, c1, c2, c3⟩, _⟩ := hu
    clear H HI HCB hHeld
    go_simp
  refine wpAnyH_take (i := 1) (v := .int .i64 s) rfl (by kernel_rfl) (by kernel_rfl) (by kernel_rfl) (fun _ _ _ h => h) (Or.inl ⟨by rfl, ?_⟩) hHeld (?_ : wpAnyH _ _ _ _ _ _ _ ⟨#[.int .i64 s, undef, .pointer (some ⟨w.heap.size, 0, none⟩), .slice none 0 0, .pointer (some ⟨b4, 0, none⟩), .int .i64 s, .int .i64 s, .string R, .agg #[.string ⟨#[67, 111, 110, 116, 101, 110, 116, 45, 84, 121, 112, 101]⟩, .string ⟨#[116, 101, 120, 116, 47, 112, 108, 97, 105, 110]⟩], .slice A 1 1, .agg #[.int .i64 s, .string R, .int .i64 1, .slice A 1 1], .agg #[.int .i64 s, .string R, .int .i64 1, .slice A 1 1], .int .i64 s, undef, undef, undef, undef, undef, undef, undef], []⟩ _)
  · intro u hu
    clear H HI HCB hHeld
    go_simp
  refine wpAnyH_take (i := 4) (v := .pointer (some ⟨b4, 1, none⟩)) rfl (by kernel_rfl) (by kernel_rfl) (by kernel_rfl) (fun _ _ _ h => h) (Or.inl ⟨by rfl, ?_⟩) hHeld (?_ : wpAnyH _ _ _ _ _ _ _ ⟨#[.int .i64 s, undef, .pointer (some ⟨w.heap.size, 0, none⟩), .slice none 0 0, .pointer (some ⟨b4, 0, none⟩), .int .i64 s, .int .i64 s, .string R, .agg #[.string ⟨#[67, 111, 110, 116, 101, 110, 116, 45, 84, 121, 112, 101]⟩, .string ⟨#[116, 101, 120, 116, 47, 112, 108, 97, 105, 110]⟩], .slice A 1 1, .agg #[.int .i64 s, .string R, .int .i64 1, .slice A 1 1], .agg #[.int .i64 s, .string R, .int .i64 1, .slice A 1 1], .int .i64 s, undef, undef, .pointer (some ⟨b4, 1, none⟩), undef, undef, undef, undef], []⟩ _)
  · intro u hu
    clear H HI HCB hHeld
    go_simp
  refine wpAnyH_take (i := 5) (v := .string R) rfl (by kernel_rfl) (by kernel_rfl) (by kernel_rfl) (fun _ _ _ h => h) (Or.inl ⟨by rfl, ?_⟩) hHeld (?_ : wpAnyH _ _ _ _ _ _ _ ⟨#[.int .i64 s, undef, .pointer (some ⟨w.heap.size, 0, none⟩), .slice none 0 0, .pointer (some ⟨b4, 0, none⟩), .int .i64 s, .int .i64 s, .string R, .agg #[.string ⟨#[67, 111, 110, 116, 101, 110, 116, 45, 84, 121, 112, 101]⟩, .string ⟨#[116, 101, 120, 116, 47, 112, 108, 97, 105, 110]⟩], .slice A 1 1, .agg #[.int .i64 s, .string R, .int .i64 1, .slice A 1 1], .agg #[.int .i64 s, .string R, .int .i64 1, .slice A 1 1], .int .i64 s, undef, undef, .pointer (some ⟨b4, 1, none⟩), .string R, undef, undef, undef], []⟩ _)
  · intro u hu
    obtain ⟨⟨c0, c1, c2, c3⟩, _⟩ := hu
    clear H HI HCB hHeld
    go_simp
  refine wpAnyH_ready (rs := [2]) (by kernel_rfl) (by simp) ?_
  refine AllReadyH.cons rfl (fun K hK => ?_) AllReadyH.nil
  go_simp
  refine (HI.out _ hHeld.2.2.1).mono ?_
  rintro e1 w3 ⟨rfl, hb3⟩
  refine hK.out _ _ (HeldR.below hHeld hb3) (fun hHeld3 => ?_)
  clear hK hHeld
  have hHeld := hHeld3
  clear hHeld3 hb3
  refine wpAnyH_take (i := 3) (v := .string (I ++ ⟨#[32]⟩)) rfl (by kernel_rfl) (by kernel_rfl) (by kernel_rfl) (fun _ _ _ h => h) (Or.inl ⟨by rfl, ?_⟩) hHeld (?_ : wpAnyH _ _ _ _ _ _ _ ⟨#[.int .i64 s, undef, .pointer (some ⟨w.heap.size, 0, none⟩), .slice none 0 0, .pointer (some ⟨b4, 0, none⟩), .int .i64 s, .int .i64 s, .string R, .agg #[.string ⟨#[67, 111, 110, 116, 101, 110, 116, 45, 84, 121, 112, 101]⟩, .string ⟨#[116, 101, 120, 116, 47, 112, 108, 97, 105, 110]⟩], .slice A 1 1, .agg #[.int .i64 s, .string R, .int .i64 1, .slice A 1 1], .agg #[.int .i64 s, .string R, .int .i64 1, .slice A 1 1], .int .i64 s, .string I, .string (I ++ ⟨#[32]⟩), .pointer (some ⟨b4, 1, none⟩), .string R, undef, undef, undef], []⟩ _)
  · intro u hu
    clear H HI HCB hHeld
    go_simp
    omega
  refine wpAnyH_take (i := 6) (v := .string (I ++ ⟨#[32]⟩ ++ R)) rfl (by kernel_rfl) (by kernel_rfl) (by kernel_rfl) (fun _ _ _ h => h) (Or.inl ⟨by rfl, ?_⟩) hHeld (?_ : wpAnyH _ _ _ _ _ _ _ ⟨#[.int .i64 s, undef, .pointer (some ⟨w.heap.size, 0, none⟩), .slice none 0 0, .pointer (some ⟨b4, 0, none⟩), .int .i64 s, .int .i64 s, .string R, .agg #[.string ⟨#[67, 111, 110, 116, 101, 110, 116, 45, 84, 121, 112, 101]⟩, .string ⟨#[116, 101, 120, 116, 47, 112, 108, 97, 105, 110]⟩], .slice A 1 1, .agg #[.int .i64 s, .string R, .int .i64 1, .slice A 1 1], .agg #[.int .i64 s, .string R, .int .i64 1, .slice A 1 1], .int .i64 s, .string I, .string (I ++ ⟨#[32]⟩), .pointer (some ⟨b4, 1, none⟩), .string R, .string (I ++ ⟨#[32]⟩ ++ R), undef, undef], []⟩ _)
  · intro u hu
    clear H HI HCB hHeld
    go_simp
    omega
  refine wpAnyH_take (i := 7) (v := .string (I ++ ⟨#[32]⟩ ++ R ++ ⟨#[10]⟩)) rfl (by kernel_rfl) (by kernel_rfl) (by kernel_rfl) (fun _ _ _ h => h) (Or.inl ⟨by rfl, ?_⟩) hHeld (?_ : wpAnyH _ _ _ _ _ _ _ ⟨#[.int .i64 s, undef, .pointer (some ⟨w.heap.size, 0, none⟩), .slice none 0 0, .pointer (some ⟨b4, 0, none⟩), .int .i64 s, .int .i64 s, .string R, .agg #[.string ⟨#[67, 111, 110, 116, 101, 110, 116, 45, 84, 121, 112, 101]⟩, .string ⟨#[116, 101, 120, 116, 47, 112, 108, 97, 105, 110]⟩], .slice A 1 1, .agg #[.int .i64 s, .string R, .int .i64 1, .slice A 1 1], .agg #[.int .i64 s, .string R, .int .i64 1, .slice A 1 1], .int .i64 s, .string I, .string (I ++ ⟨#[32]⟩), .pointer (some ⟨b4, 1, none⟩), .string R, .string (I ++ ⟨#[32]⟩ ++ R), .string (I ++ ⟨#[32]⟩ ++ R ++ ⟨#[10]⟩), undef], []⟩ _)
  · intro u hu
    clear H HI HCB hHeld
    go_simp
    omega
  refine wpAnyH_ready (rs := [8, 9]) (by kernel_rfl) (by simp) ?_
  refine AllReadyH.cons rfl (fun K hK => ?_) (AllReadyH.cons rfl (fun K hK => ?_) AllReadyH.nil)
  · have hHeld1 := HeldR.below hHeld (HCB.out w3).2.2
    have hSt := hHeld1.set4 (Nat.le_refl _) hne hAne HT0.out (.int .i64 s) (.string R) (.int .i64 1) (.slice A 1 1)
    have hF := Four.set4 hHeld1.2.1 (.int .i64 s) (.string R) (.int .i64 1) (.slice A 1 1)
    have hw3 : w.heap.size < w3.heap.size := hHeld.2.1.lt
    have hR := Rd.set4 (HCB.out w3).2.1.rd w.heap.size (fun _ p hp => by cases hp; show w3.heap.size ≠ w.heap.size; omega) (.int .i64 s) (.string R) (.int .i64 1) (.slice A 1 1)
    have HSt := Lib.hid hSt
    have HF := Lib.hid hF
    have HR := Lib.hid hR
    clear hSt hF hR
    go_simp
    refine hK.out _ _ hHeld1 (fun _ => ?_)
    clear hK hHeld
    refine wpAnyH_ready (rs := [9]) (by kernel_rfl) (by simp) ?_
    refine AllReadyH.cons rfl (fun K hK => ?_) AllReadyH.nil
    obtain ⟨⟨c0, c1, c2, c3⟩, ⟨⟨a0, f0⟩, ⟨a1, f1⟩, ⟨a2, f2⟩, ⟨a3, f3⟩⟩, _⟩ := hHeld1
    go_simp
    have hHeld := HSt.out
    refine hK.out _ _ hHeld (fun _ => ?_)
    clear hK c0 c1 c2 c3 a0 f0 a1 f1 a2 f2 a3 f3
    refine wpAnyH_take (i := 10) (v := .slice (some ⟨w3.heap.size, 0, none⟩) N (cc w3)) rfl (by kernel_rfl) (by kernel_rfl) (by kernel_rfl) (fun _ _ _ h => h) (Or.inl ⟨by rfl, ?_⟩) hHeld (?_ : wpAnyH _ _ _ _ _ _ _ ⟨#[.int .i64 s, undef, .pointer (some ⟨w.heap.size, 0, none⟩), .slice (some ⟨w3.heap.size, 0, none⟩) N (cc w3), .pointer (some ⟨b4, 0, none⟩), .int .i64 s, .int .i64 s, .string R, .agg #[.string ⟨#[67, 111, 110, 116, 101, 110, 116, 45, 84, 121, 112, 101]⟩, .string ⟨#[116, 101, 120, 116, 47, 112, 108, 97, 105, 110]⟩], .slice A 1 1, .agg #[.int .i64 s, .string R, .int .i64 1, .slice A 1 1], .agg #[.int .i64 s, .string R, .int .i64 1, .slice A 1 1], .int .i64 s, .string I, .string (I ++ ⟨#[32]⟩), .pointer (some ⟨b4, 1, none⟩), .string R, .string (I ++ ⟨#[32]⟩ ++ R), .string (I ++ ⟨#[32]⟩ ++ R ++ ⟨#[10]⟩), .slice (some ⟨w3.heap.size, 0, none⟩) N (cc w3)], []⟩ _)
    · intro u hu
      clear H HI HCB hHeld
      go_simp
    refine wpAnyH_done (by kernel_rfl) (NoPanic.normal ?_) _
    have hrow := hHeld.2.2.2.1
    have hbel := hHeld.2.2.2.2
    have hfour := HF.out
    have hrd := HR.out
    clear hHeld H HSt HF HR
    generalize (((((cW w3).setCell ⟨w.heap.size, 0, none⟩ (.int .i64 s)).setCell ⟨w.heap.size, 1, none⟩ (.string R)).setCell ⟨w.heap.size, 2, none⟩ (.int .i64 1)).setCell ⟨w.heap.size, 3, none⟩ (.slice A 1 1)) = U at *
    obtain ⟨d0, d1, d2, d3⟩ := hfour
    have HRD := Lib.hid hrd
    have HRW := Lib.hid hrow
    clear hrd hrow
    go_wp2
    refine bodyPost_ret (v := .tuple #[.agg #[.int .i64 s, .string R, .int .i64 1, .slice A 1 1], .slice (some ⟨w3.heap.size, 0, none⟩) N (cc w3)]) (by simp [results, Tryz.results80, go_sem, d0, d1, d2, d3]) rfl ?_
    refine ⟨A, some ⟨w3.heap.size, 0, none⟩, cc w3, ?_, HRW.out, ?_, hbel⟩
    · rw [HRE.out, HSA.out, HN.out]
    · have := HRD.out
      rw [HSA.out, ← HN.out]
      rw [← L_size, ← HN.out] at this
      exact this
  · have hSt := hHeld.set4 (Nat.le_refl _) hne hAne HT0.out (.int .i64 s) (.string R) (.int .i64 1) (.slice A 1 1)
    have hF := Four.set4 hHeld.2.1 (.int .i64 s) (.string R) (.int .i64 1) (.slice A 1 1)
    have hz : ((((w3.setCell ⟨w.heap.size, 0, none⟩ (.int .i64 s)).setCell ⟨w.heap.size, 1, none⟩ (.string R)).setCell ⟨w.heap.size, 2, none⟩ (.int .i64 1)).setCell ⟨w.heap.size, 3, none⟩ (.slice A 1 1)).heap.size = w3.heap.size := by simp
    generalize hU : ((((w3.setCell ⟨w.heap.size, 0, none⟩ (.int .i64 s)).setCell ⟨w.heap.size, 1, none⟩ (.string R)).setCell ⟨w.heap.size, 2, none⟩ (.int .i64 1)).setCell ⟨w.heap.size, 3, none⟩ (.slice A 1 1)) = U at hSt hF hz
    have HSt := Lib.hid hSt
    have HF := Lib.hid hF
    have HZ := Lib.hid hz
    have HU := Lib.hid hU
    clear hSt hF hz hU
    obtain ⟨⟨c0, c1, c2, c3⟩, ⟨⟨a0, f0⟩, ⟨a1, f1⟩, ⟨a2, f2⟩, ⟨a3, f3⟩⟩, _⟩ := hHeld
    go_simp
    rw [HU.out]
    have hHeld := HSt.out
    refine hK.out _ _ hHeld (fun _ => ?_)
    clear hK c0 c1 c2 c3 a0 f0 a1 f1 a2 f2 a3 f3 HU
    refine wpAnyH_ready (rs := [8]) (by kernel_rfl) (by simp) ?_
    refine AllReadyH.cons rfl (fun K hK => ?_) AllReadyH.nil
    go_simp
    rw [HZ.out]
    have hHeld1 := HeldR.below hHeld (HCB.out U).2.2
    refine hK.out _ _ hHeld1 (fun _ => ?_)
    clear hK hHeld
    have hHeld := hHeld1
    clear hHeld1
    refine wpAnyH_take (i := 10) (v := .slice (some ⟨w3.heap.size, 0, none⟩) N (cc U)) rfl (by kernel_rfl) (by kernel_rfl) (by kernel_rfl) (fun _ _ _ h => h) (Or.inl ⟨by rfl, ?_⟩) hHeld (?_ : wpAnyH _ _ _ _ _ _ _ ⟨#[.int .i64 s, undef, .pointer (some ⟨w.heap.size, 0, none⟩), .slice (some ⟨w3.heap.size, 0, none⟩) N (cc U), .pointer (some ⟨b4, 0, none⟩), .int .i64 s, .int .i64 s, .string R, .agg #[.string ⟨#[67, 111, 110, 116, 101, 110, 116, 45, 84, 121, 112, 101]⟩, .string ⟨#[116, 101, 120, 116, 47, 112, 108, 97, 105, 110]⟩], .slice A 1 1, .agg #[.int .i64 s, .string R, .int .i64 1, .slice A 1 1], .agg #[.int .i64 s, .string R, .int .i64 1, .slice A 1 1], .int .i64 s, .string I, .string (I ++ ⟨#[32]⟩), .pointer (some ⟨b4, 1, none⟩), .string R, .string (I ++ ⟨#[32]⟩ ++ R), .string (I ++ ⟨#[32]⟩ ++ R ++ ⟨#[10]⟩), .slice (some ⟨w3.heap.size, 0, none⟩) N (cc U)], []⟩ _)
    · intro u hu
      clear H HI HCB hHeld
      go_simp
    refine wpAnyH_done (by kernel_rfl) (NoPanic.normal ?_) _
    have hrow := hHeld.2.2.2.1
    have hbel := hHeld.2.2.2.2
    have hfour := HF.out.below (HCB.out U).2.2
    have hrd := (HCB.out U).2.1.rd
    rw [HZ.out] at hrd
    clear hHeld H HSt HF HZ
    obtain ⟨d0, d1, d2, d3⟩ := hfour
    have HRD := Lib.hid hrd
    have HRW := Lib.hid hrow
    clear hrd hrow
    go_wp2
    refine bodyPost_ret (v := .tuple #[.agg #[.int .i64 s, .string R, .int .i64 1, .slice A 1 1], .slice (some ⟨w3.heap.size, 0, none⟩) N (cc U)]) (by simp [results, Tryz.results80, go_sem, d0, d1, d2, d3]) rfl ?_
    refine ⟨A, some ⟨w3.heap.size, 0, none⟩, cc U, ?_, HRW.out, ?_, hbel⟩
    · rw [HRE.out, HSA.out, HN.out]
    · have := HRD.out
      rw [HSA.out, ← HN.out]
      rw [← L_size, ← HN.out] at this
      exact this

end Go.Proofs.YteehjkfmlcfffaaGreatDoor

namespace Go.Proofs.YteehjkfmlcfffaaGreatDoor
open Go.RowKit

set_option maxHeartbeats 400000 in
theorem sameResponse_any (s1 m1 s2 m2 : Int) (r1 r2 : ByteArray) (A B : Option Addr) (n m c d : Nat) (xs ys : List FD) (w : World) (hn : n ≤ 1099511627776) (hm : m ≤ 1099511627776) (hx : Rd w A n 2 (fcells xs)) (hy : Rd w B m 2 (fcells ys)) (hxl : xs.length = n) (hyl : ys.length = m) :
    Calls Tryz.prog 71 #[.agg #[.int .i64 s1, .string r1, .int .i64 m1, .slice A n c], .agg #[.int .i64 s2, .string r2, .int .i64 m2, .slice B m d]] w (RetB w (decide (s1 = s2) && decide (r1 = r2) && decide (m1 = m2) && decide (xs = ys))) := by
  have HS := Lib.hid (fun w' (hb : Below w.heap.size w w') => sameFields_any A B n m c d xs ys w' hn hm (hx.below hb) (hy.below hb) hxl hyl)
  obtain ⟨b4, hb4⟩ : ∃ b4, b4 = decide (xs = ys) := ⟨_, rfl⟩
  rw [← hb4] at HS ⊢
  clear hx hy hxl hyl hb4 hn hm
  rcases tf (decide (s1 = s2)) with h1 | h1
  · have e1 : (s1 == s2) = true := by rw [of_decide_eq_true h1]; simp
    rw [h1]
    clear h1
    rcases tf (decide (r1 = r2)) with h2 | h2
    · have e2 : (r1.toList == r2.toList) = true := by rw [beq_bytes, h2]
      rw [h2]
      clear h2
      rcases tf (decide (m1 = m2)) with h3 | h3
      · have e3 : (m1 == m2) = true := by rw [of_decide_eq_true h3]; simp
        rw [h3]
        clear h3
        go_enter Tryz.func71, Tryz.ntmps71
        go_wp2_with fail
        refine (HS.out _ (((Below.refl _ _).alloc (Nat.le_refl _) _).alloc (by rw [World.size_alloc]; omega) _)).mono ?_
        rintro e w1 ⟨rfl, hb1⟩
        go_wp2
        go_ret
        exact ⟨ret_bool (by simp), below_then (by simp; omega) (((Below.refl _ _).alloc (Nat.le_refl _) _).alloc (by rw [World.size_alloc]; omega) _) hb1⟩
      · have e3 : (m1 == m2) = false := by simpa using of_decide_eq_false h3
        rw [h3]
        clear h3
        go_enter Tryz.func71, Tryz.ntmps71
        go_wp2
        go_ret
        exact ⟨ret_bool (by simp), (((Below.refl _ _).alloc (Nat.le_refl _) _).alloc (by rw [World.size_alloc]; omega) _)⟩
    · have e2 : (r1.toList == r2.toList) = false := by rw [beq_bytes, h2]
      rw [h2]
      clear h2
      go_enter Tryz.func71, Tryz.ntmps71
      go_wp2
      go_ret
      exact ⟨ret_bool (by simp), (((Below.refl _ _).alloc (Nat.le_refl _) _).alloc (by rw [World.size_alloc]; omega) _)⟩
  · have e1 : (s1 == s2) = false := by simpa using of_decide_eq_false h1
    rw [h1]
    clear h1
    go_enter Tryz.func71, Tryz.ntmps71
    go_wp2
    go_ret
    exact ⟨ret_bool (by simp), (((Below.refl _ _).alloc (Nat.le_refl _) _).alloc (by rw [World.size_alloc]; omega) _)⟩

/-! ### The law's alive -/
def aliveFs : List FD := [(⟨#[67, 111, 110, 110, 101, 99, 116, 105, 111, 110]⟩, ⟨#[120, 44, 32, 99, 108, 111, 115, 101]⟩), (⟨#[88]⟩, ⟨#[49]⟩), (⟨#[89]⟩, ⟨#[50]⟩)]
theorem alive_strip : F.strip aliveFs = [(⟨#[89]⟩, ⟨#[50]⟩)] := by kernel_rfl
theorem alive_said : said 403 = ⟨#[52, 48, 51, 32, 70, 111, 114, 98, 105, 100, 100, 101, 110, 10]⟩ := by
  have h : Lib.itoa 403 = [52, 48, 51] := by
    rw [itoa_show 403 (by decide)]
    rfl
  unfold said
  rw [h]
  rfl
theorem alive_word : word 403 = ⟨#[70, 111, 114, 98, 105, 100, 100, 101, 110]⟩ := rfl

set_option maxHeartbeats 400000 in
theorem alive_any (w : World) (ht : TabOk w) : Calls Tryz.prog 35 #[] w (RetB w true) := by
  have H1 := Lib.hid (fun A (w' : World) (hx : Rd w' A 3 2 (fcells aliveFs)) (hne : A = none → 3 = 0 ∧ 3 = 0) => strip_any A 3 3 aliveFs w' rfl (by decide) hx hne)
  have H2 := Lib.hid (fun (w' : World) (hb : Below w.heap.size w w') => reply_any 403 (by decide) (by decide) w' (ht.below hb))
  clear ht
  go_enter Tryz.func35, Tryz.ntmps35
  go_wp2_with fail
  refine (H1.out _ _ (Rd.newRow w 148 #[.string ⟨#[67, 111, 110, 110, 101, 99, 116, 105, 111, 110]⟩, .string ⟨#[120, 44, 32, 99, 108, 111, 115, 101]⟩, .string ⟨#[88]⟩, .string ⟨#[49]⟩, .string ⟨#[89]⟩, .string ⟨#[50]⟩] 3 2 rfl) (fun h => by cases h)).mono ?_
  rw [alive_strip]
  rintro e w1 ⟨A1, c1, rfl, hr1, hb1⟩
  have hB1 := below_new (Below.refl w.heap.size w) (Nat.le_refl _) hb1
  have hrd1 := hr1.rd
  clear hr1 hb1
  go_wp2_with fail
  refine (H2.out _ hB1).mono ?_
  rintro e w2 ⟨A2, B2, c2, rfl, hr2, hs2, hb2⟩
  rw [alive_said] at hs2
  rw [alive_word, alive_said]
  have hB2 := below_then hB1.size hB1 hb2
  have hrd := hrd1.below hb2
  have hz1 := hB1.size
  have hz2 := hb2.size
  clear hrd1 hB1 hb2 H1 H2 hr2
  have HB2 := Lib.hid hB2
  have HRD := Lib.hid hrd
  have HS2 := Lib.hid hs2
  clear hB2 hrd hs2
  go_wp2_with fail
  have hal := newF (w2.alloc (.cells #[.int .i64 403, .string ⟨#[70, 111, 114, 98, 105, 100, 100, 101, 110]⟩, .int .i64 1, .slice A2 1 1] 27)) (⟨#[89]⟩, ⟨#[50]⟩)
  rw [World.size_alloc] at hal
  refine (sameFields_any A1 (some ⟨w2.heap.size + 1, 0, none⟩) 1 1 c1 1 [(⟨#[89]⟩, ⟨#[50]⟩)] [(⟨#[89]⟩, ⟨#[50]⟩)] _ (by decide) (by decide) ((HRD.out.alloc _).alloc _) hal rfl rfl).mono ?_
  rintro e w3 ⟨rfl, hb3⟩
  obtain ⟨q0, q1, q2, q3⟩ := ((newFour (w := w2) (.int .i64 403) (.string ⟨#[70, 111, 114, 98, 105, 100, 100, 101, 110]⟩) (.int .i64 1) (.slice A2 1 1) 27).below ((Below.refl _ _).alloc (Nat.le_refl _) _)).below hb3
  have hcv := conv_bs (((HS2.out.alloc _).alloc _).below hb3) c2
  rw [B_L] at hcv
  have HB3 := Lib.hid (below_then (by rw [World.size_alloc, World.size_alloc]; omega) ((HB2.out.alloc (by omega) _).alloc (by rw [World.size_alloc]; omega) _) hb3)
  have hsz : (⟨#[52, 48, 51, 32, 70, 111, 114, 98, 105, 100, 100, 101, 110, 10]⟩ : ByteArray).size = 14 := rfl
  rw [hsz] at hcv
  clear HRD HS2 HB2 hal hb3 hsz
  go_wp2
  go_ret
  exact ⟨ret_bool (by simp), HB3.out⟩
end Go.Proofs.YteehjkfmlcfffaaGreatDoor
