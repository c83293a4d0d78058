/- The walks of StorePaths: the program's Path and the document's answer one text for every number. No condition. -/
import Derived.Test.YtcoohkgamogmgaaRows
import Derived.WalkKit
import Derived.WalkSpells
import Derived.WalkLawsBesides
import Derived.Lib.Hide
import Derived.RegionTactic
import Derived.ChangeAlike
import Derived.BigRegion
import Derived.Laws.BitsAllLaws
import Derived.Laws.BitsLemmas
import Derived.Deep.QuietTactic
import Derived.BigQuiet
import Derived.Laws.IdiomStrings
namespace Go.Proofs.Ytcoohkgamogmgaa
open Go.RowKit
theorem ofInt_i64 (a : Nat) (ha : a < 9223372036854775808) : (BitVec.ofInt 64 (a : Int)).toNat = a := by
  rw [BitVec.ofInt_natCast, BitVec.toNat_ofNat]; exact Nat.mod_eq_of_lt (by omega)
theorem i64_and_nat (a b : Nat) (ha : a < 9223372036854775808) (hb : b < 9223372036854775808) : bits .and .i64 (a : Int) (b : Int) = ((a &&& b : Nat) : Int) := by
  have hx : a &&& b < 2 ^ 63 := Nat.and_lt_two_pow _ (by omega)
  show IntKind.i64.wrap ((BitVec.ofInt 64 (a : Int) &&& BitVec.ofInt 64 (b : Int)).toNat : Int) = _
  rw [BitVec.toNat_and, ofInt_i64 a ha, ofInt_i64 b hb, IntKind.wrap_i64]
  omega
theorem and15 (v : Int) (h0 : 0 ≤ v) (h1 : v < 64) : bits .and .i64 v 15 = v % 16 := by
  obtain ⟨n, rfl⟩ := Int.eq_ofNat_of_zero_le h0
  have := i64_and_nat n 15 (by omega) (by omega)
  rw [show ((15 : Nat) : Int) = 15 from rfl] at this
  rw [this, show (15 : Nat) = 2 ^ 4 - 1 from rfl, Nat.and_two_pow_sub_one_eq_mod]
  omega

def digs : ByteArray := ⟨#[48, 49, 50, 51, 52, 53, 54, 55, 56, 57, 97, 98, 99, 100, 101, 102]⟩
def hx (i : Int) : UInt8 := digs.data.getD i.toNat 0
def hex2 (v : Int) : ByteArray := ⟨#[hx (v / 16), hx (v % 16)]⟩

theorem hx_at (i : Int) (h : i.toNat < digs.size) : digs[i.toNat]'h = hx i := by
  have e : digs.data[i.toNat]? = some digs[i.toNat] := Array.getElem?_eq_getElem h
  unfold hx
  rw [Array.getD_eq_getD_getElem?, e]
  rfl

theorem below_drewN {B : Nat} {a w : World} (h : Below B a w) (n : Nat) : Below B a (w.drewN n) := ⟨h.os, h.tape, h.output, h.size, h.block⟩
theorem ret_string {a b : ByteArray} (h : a = b) : Ending.returned (.string a) = .returned (.string b) := by rw [h]
theorem ret_bool {a b : Bool} (h : a = b) : Ending.returned (.bool a) = .returned (.bool b) := by rw [h]

theorem dig_cut (i : Int) (h0 : 0 ≤ i) (h1 : i < 16) : digs.extract i.toNat (i + 1).toNat = ⟨#[hx i]⟩ := by
  obtain ⟨n, rfl⟩ := Int.eq_ofNat_of_zero_le h0
  have hn : n < 16 := by omega
  rw [show ((n : Int) + 1).toNat = n + 1 from by omega, Int.toNat_natCast]
  have : ∀ m : Fin 16, digs.extract m.1 (m.1 + 1) = ⟨#[hx (m.1 : Int)]⟩ := by decide
  exact this ⟨n, hn⟩

theorem conv2 (w : World) (x y : UInt8) : (convert 27 9 (.slice (some ⟨w.heap.size, 0, none⟩) 2 2)).run Try.prog ((w.alloc (.cells #[.int .u8 x.toNat, .int .u8 y.toNat] 5)).drew) =
    .ok (.string ⟨#[x, y]⟩) ((w.alloc (.cells #[.int .u8 x.toNat, .int .u8 y.toNat] 5)).drew) := by
  refine run_convert_bytes_back _ 27 9 5 ⟨w.heap.size, 0, none⟩ 2 [x, y] Try.underlying27 Try.underlying5 Try.underlying9 ?_
  intro j hj
  match j, hj with
  | 0, _ => simp [Addr.add]
  | 1, _ => simp [Addr.add]

set_option maxHeartbeats 400000 in
theorem hexPair_any (v : Int) (w : World) (h0 : 0 ≤ v) (h1 : v < 64) :
    Calls Try.prog 8 #[.int .i64 v] w fun e w' => e = .returned (.string (hex2 v)) ∧ Below w.heap.size w w' := by
  have ha := and15 v h0 h1
  have h2 : 0 ≤ v / 16 := by omega
  have h3 : v / 16 < 16 := by omega
  have h4 : 0 ≤ v % 16 := by omega
  have h5 : v % 16 < 16 := by omega
  have hcv := conv2 w
  have e1 : (({ data := #[48, 49, 50, 51, 52, 53, 54, 55, 56, 57, 97, 98, 99, 100, 101, 102] } : ByteArray)[(v / 16).toNat]'(by show (v / 16).toNat < 16; omega)) = hx (v / 16) := hx_at _ _
  have e2 : (({ data := #[48, 49, 50, 51, 52, 53, 54, 55, 56, 57, 97, 98, 99, 100, 101, 102] } : ByteArray)[(v % 16).toNat]'(by show (v % 16).toNat < 16; omega)) = hx (v % 16) := hx_at _ _
  go_enter Try.func8, Try.ntmps8
  go_wp2
  go_region
  go_wp2
  go_ret
  exact ⟨rfl, (((Below.refl _ _).alloc (Nat.le_refl _) _).drew)⟩

set_option maxHeartbeats 400000 in
theorem path_no (v : Int) (w : World) (h : v < 0 ∨ 4096 ≤ v) :
    Calls Try.prog 6 #[.int .i64 v] w fun e w' => e = .returned (.string ⟨#[]⟩) ∧ Below w.heap.size w w' := by
  rcases h with h | h
  · go_enter Try.func6, Try.ntmps6
    go_wp2
    go_ret
    exact ⟨rfl, Below.refl _ _⟩
  · have h' : ¬ v < 0 := by omega
    go_enter Try.func6, Try.ntmps6
    go_wp2
    go_ret
    exact ⟨rfl, Below.refl _ _⟩

def pathOf (v : Int) : ByteArray := ⟨#[111, 47, hx (v / 64 / 16), hx (v / 64 % 16), 47, hx (v % 64 / 16), hx (v % 64 % 16)]⟩

set_option maxHeartbeats 400000 in
theorem path_yes (v : Int) (w : World) (h0 : 0 ≤ v) (h1 : v < 4096) :
    Calls Try.prog 6 #[.int .i64 v] w fun e w' => e = .returned (.string (pathOf v)) ∧ Below w.heap.size w w' := by
  have h2 : 0 ≤ v / 64 := by omega
  have h3 : v / 64 < 64 := by omega
  have h4 : 0 ≤ v % 64 := by omega
  have h5 : v % 64 < 64 := by omega
  have z1 : (hex2 (v / 64)).size ≤ 2 := Nat.le_refl 2
  have z2 : (hex2 (v % 64)).size ≤ 2 := Nat.le_refl 2
  go_enter Try.func6, Try.ntmps6
  go_wp2_with (first
    | ((with_reducible refine (hexPair_any (v / 64) _ (by omega) (by omega)).mono ?_); rintro e w1 ⟨rfl, hb1⟩)
    | ((with_reducible refine (hexPair_any (v % 64) _ (by omega) (by omega)).mono ?_); rintro e w2 ⟨rfl, hb2⟩))
  go_ret
  exact ⟨rfl, hb1.trans (hb2.mono hb1.size)⟩

set_option maxHeartbeats 400000 in
theorem refPath_no (v : Int) (w : World) (h : v < 0 ∨ 4096 ≤ v) :
    Calls Try.prog 7 #[.int .i64 v] w fun e w' => e = .returned (.string ⟨#[]⟩) ∧ Below w.heap.size w w' := by
  rcases h with h | h
  · go_enter Try.func7, Try.ntmps7
    go_wp2
    go_ret
    exact ⟨rfl, Below.refl _ _⟩
  · have h' : ¬ v < 0 := by omega
    go_enter Try.func7, Try.ntmps7
    go_wp2
    go_ret
    exact ⟨rfl, Below.refl _ _⟩

set_option maxHeartbeats 400000 in
theorem refPath_yes (v : Int) (w : World) (h0 : 0 ≤ v) (h1 : v < 4096) :
    Calls Try.prog 7 #[.int .i64 v] w fun e w' => e = .returned (.string (pathOf v)) ∧ Below w.heap.size w w' := by
  have h2 : 0 ≤ v / 64 := by omega
  have h3 : v / 64 < 64 := by omega
  have h4 : 0 ≤ v % 64 := by omega
  have h5 : v % 64 < 64 := by omega
  have a2 : 0 ≤ v / 64 / 16 := by omega
  have a3 : v / 64 / 16 < 4 := by omega
  have a4 : 0 ≤ v / 64 % 16 := by omega
  have a5 : v / 64 % 16 < 16 := by omega
  have b2 : 0 ≤ v % 64 / 16 := by omega
  have b3 : v % 64 / 16 < 4 := by omega
  have b4 : 0 ≤ v % 64 % 16 := by omega
  have b5 : v % 64 % 16 < 16 := by omega
  go_enter Try.func7, Try.ntmps7
  go_wp2
  go_quiet (fail)
  go_wp2
  go_ret
  exact ⟨ret_string (by
    show (⟨#[111, 47]⟩ ++ digs.extract _ _ ++ digs.extract _ _ ++ ⟨#[47]⟩ ++ digs.extract _ _ ++ digs.extract _ _ : ByteArray) = _
    rw [dig_cut _ a2 (by omega), dig_cut _ a4 a5, dig_cut _ b2 (by omega), dig_cut (v % 16) (by omega) (by omega)]
    unfold pathOf
    rw [show v % 64 % 16 = v % 16 from by omega]; rfl), below_drewN (Below.refl _ _) _⟩

def pathAll (v : Int) : ByteArray := if 0 ≤ v ∧ v < 4096 then pathOf v else ⟨#[]⟩
theorem path_any (v : Int) (w : World) : Calls Try.prog 6 #[.int .i64 v] w fun e w' => e = .returned (.string (pathAll v)) ∧ Below w.heap.size w w' := by
  by_cases h : 0 ≤ v ∧ v < 4096
  · rw [pathAll, if_pos h]; exact path_yes v w h.1 h.2
  · rw [pathAll, if_neg h]; exact path_no v w (by omega)
theorem refPath_any (v : Int) (w : World) : Calls Try.prog 7 #[.int .i64 v] w fun e w' => e = .returned (.string (pathAll v)) ∧ Below w.heap.size w w' := by
  by_cases h : 0 ≤ v ∧ v < 4096
  · rw [pathAll, if_pos h]; exact refPath_yes v w h.1 h.2
  · rw [pathAll, if_neg h]; exact refPath_no v w (by omega)
theorem path_zero (w : World) : Calls Try.prog 6 #[.int .i64 0] w fun e w' => e = .returned (.string ⟨#[111, 47, 48, 48, 47, 48, 48]⟩) ∧ Below w.heap.size w w' :=
  (path_any 0 w).mono fun _ _ ⟨he, hb⟩ => ⟨he.trans (ret_string (by decide)), hb⟩

set_option maxHeartbeats 400000 in
theorem storePaths_any (v : Int) (w : World) : Calls Try.prog 4 #[.int .i64 v] w fun e w' => e = .returned (.bool true) ∧ Below w.heap.size w w' := by
  go_enter Try.func4, Try.ntmps4
  go_wp2_with fail
  refine (path_zero _).mono ?_
  rintro e w1 ⟨rfl, hb1⟩
  go_wp2_with fail
  refine (path_any _ _).mono ?_
  rintro e w2 ⟨rfl, hb2⟩
  go_wp2_with fail
  refine (refPath_any _ _).mono ?_
  rintro e w3 ⟨rfl, hb3⟩
  go_wp2
  go_ret
  exact ⟨ret_bool (by simp), (hb1.trans (hb2.mono hb1.size)).trans (hb3.mono (Nat.le_trans hb1.size hb2.size))⟩

end Go.Proofs.Ytcoohkgamogmgaa
