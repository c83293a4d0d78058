/- The walks of utf8.decodeRuneSlow and utf8.DecodeRune at a first byte above 127, in a row of bytes. Conditions: the library's two tables of UTF-8 as its text lays them. -/
import Derived.Test.YteehjkfmlcfffaaGreatDoorLib
import Derived.Shelf.Unicode.DecodeSlow
namespace Go.Proofs.YteehjkfmlcfffaaGreatDoor
open Go.RowKit Go.Lib

set_option maxHeartbeats 4000000 in
set_option maxRecDepth 1000000 in
theorem decodeSlow_any (b o n c : Nat) (x0 x1 x2 x3 : Nat) (w : World) (hn : 1 ≤ n) (hnm : n ≤ 1099511627776) (l0 : x0 < 256) (l1 : x1 < 256) (l2 : x2 < 256) (l3 : x3 < 256) (hb0 : 128 ≤ x0)
    (k0 : w.cell? ⟨b, o, none⟩ = some (.int .u8 x0)) (k1 : 1 < n → w.cell? ⟨b, o + 1, none⟩ = some (.int .u8 x1)) (k2 : 2 < n → w.cell? ⟨b, o + 2, none⟩ = some (.int .u8 x2)) (k3 : 3 < n → w.cell? ⟨b, o + 3, none⟩ = some (.int .u8 x3)) (hT : Lib.Utf8Tabs 4 5 w) :
    Calls Tryz.prog 336 #[.slice (some ⟨b, o, none⟩) n c] w fun e w' => e = .returned (.tuple #[.int .i32 (decodeN n x0 x1 x2 x3).1, .int .i64 (decodeN n x0 x1 x2 x3).2]) ∧ Below w.heap.size w w' := by
  have hz0 : (0 : Int) < (n : Int) := by omega
  have hz0' : ¬ ((n : Int) < 1) := by omega
  have hc0 := hT.1 x0 (by omega)
  have hres : firstT x0 < 240 → decodeN n x0 x1 x2 x3 = slowN n x0 x1 x2 x3 (firstT x0 % 8) (accLo (firstT x0 / 16)) (accHi (firstT x0 / 16)) :=
    fun h => (Lib.slow_eq _ _ _ _ _ (by omega) (by omega) (by omega) (by omega) h).symm
  have hblt : b < w.heap.size := cell_lt k0
  have hne : ∀ j v, w.cell? ⟨b, j, none⟩ = some v → b < w.heap.size := fun _ _ _ => hblt
  clear hne
  rcases Lib.firstT_cases x0 with hX | hX | hX | hX | hX | hX | hX | hX | hX
  · exfalso
    unfold firstT at hX
    repeat' split at hX
    all_goals omega
  · rw [Lib.bad_eq _ _ _ _ _ (by omega) hX]
    rw [hX] at hc0
    clear hres hT hX k1 k2 k3
    go_enter Tryz.func336, Tryz.ntmps336
    go_wp2
    rw [Utf8W.mask241, Utf8W.drop_byte ⟨x0, l0⟩]
    go_ret2
    exact ⟨rfl, Below.refl _ _⟩
  all_goals replace hres := hres (by omega)
  · rw [hX] at hc0 hres
    have ha0 := (hT.2 0 (by omega)).1
    have ha1 := (hT.2 0 (by omega)).2
    simp only [accLo, accHi, Nat.reduceMul, Nat.reduceAdd, Nat.reduceEqDiff, if_true, if_false, Nat.reduceMod, Nat.reduceDiv] at ha0 ha1 hres
    rw [hres]
    clear hres hT hX
    by_cases hn' : n < 2
    · have hnz : (n : Int) < 2 := by omega
      clear k1 k2 k3
      go_enter Tryz.func336, Tryz.ntmps336
      go_wp2
      all_goals
        go_ret2
        refine ⟨?_, (Below.refl _ _).alloc (Nat.le_refl _) _⟩
        unfold slowN
        repeat' split
        all_goals first
          | (exfalso; omega)
          | rfl
          | (simp only [Int.natCast_add, Int.natCast_mul, Int.natCast_emod, Int.natCast_ofNat]; rfl)
    · clear k2 k3
      have hz1 : (1 : Int) < (n : Int) := by omega
      replace k1 := k1 (by omega)
      go_enter Tryz.func336, Tryz.ntmps336
      go_wp2
      all_goals
        go_ret2
        refine ⟨?_, (Below.refl _ _).alloc (Nat.le_refl _) _⟩
        unfold slowN
        repeat' split
        all_goals first
          | (exfalso; omega)
          | rfl
          | (simp only [Int.natCast_add, Int.natCast_mul, Int.natCast_emod, Int.natCast_ofNat]; rfl)
  · rw [hX] at hc0 hres
    have ha0 := (hT.2 1 (by omega)).1
    have ha1 := (hT.2 1 (by omega)).2
    simp only [accLo, accHi, Nat.reduceMul, Nat.reduceAdd, Nat.reduceEqDiff, if_true, if_false, Nat.reduceMod, Nat.reduceDiv] at ha0 ha1 hres
    rw [hres]
    clear hres hT hX
    by_cases hn' : n < 3
    · have hnz : (n : Int) < 3 := by omega
      clear k1 k2 k3
      go_enter Tryz.func336, Tryz.ntmps336
      go_wp2
      all_goals
        go_ret2
        refine ⟨?_, (Below.refl _ _).alloc (Nat.le_refl _) _⟩
        unfold slowN
        repeat' split
        all_goals first
          | (exfalso; omega)
          | rfl
          | (simp only [Int.natCast_add, Int.natCast_mul, Int.natCast_emod, Int.natCast_ofNat]; rfl)
    · clear k3
      have hz1 : (1 : Int) < (n : Int) := by omega
      replace k1 := k1 (by omega)
      have hz2 : (2 : Int) < (n : Int) := by omega
      replace k2 := k2 (by omega)
      go_enter Tryz.func336, Tryz.ntmps336
      go_wp2
      all_goals
        go_ret2
        refine ⟨?_, (Below.refl _ _).alloc (Nat.le_refl _) _⟩
        unfold slowN
        repeat' split
        all_goals first
          | (exfalso; omega)
          | rfl
          | (simp only [Int.natCast_add, Int.natCast_mul, Int.natCast_emod, Int.natCast_ofNat]; rfl)
  · rw [hX] at hc0 hres
    have ha0 := (hT.2 0 (by omega)).1
    have ha1 := (hT.2 0 (by omega)).2
    simp only [accLo, accHi, Nat.reduceMul, Nat.reduceAdd, Nat.reduceEqDiff, if_true, if_false, Nat.reduceMod, Nat.reduceDiv] at ha0 ha1 hres
    rw [hres]
    clear hres hT hX
    by_cases hn' : n < 3
    · have hnz : (n : Int) < 3 := by omega
      clear k1 k2 k3
      go_enter Tryz.func336, Tryz.ntmps336
      go_wp2
      all_goals
        go_ret2
        refine ⟨?_, (Below.refl _ _).alloc (Nat.le_refl _) _⟩
        unfold slowN
        repeat' split
        all_goals first
          | (exfalso; omega)
          | rfl
          | (simp only [Int.natCast_add, Int.natCast_mul, Int.natCast_emod, Int.natCast_ofNat]; rfl)
    · clear k3
      have hz1 : (1 : Int) < (n : Int) := by omega
      replace k1 := k1 (by omega)
      have hz2 : (2 : Int) < (n : Int) := by omega
      replace k2 := k2 (by omega)
      go_enter Tryz.func336, Tryz.ntmps336
      go_wp2
      all_goals
        go_ret2
        refine ⟨?_, (Below.refl _ _).alloc (Nat.le_refl _) _⟩
        unfold slowN
        repeat' split
        all_goals first
          | (exfalso; omega)
          | rfl
          | (simp only [Int.natCast_add, Int.natCast_mul, Int.natCast_emod, Int.natCast_ofNat]; rfl)
  · rw [hX] at hc0 hres
    have ha0 := (hT.2 2 (by omega)).1
    have ha1 := (hT.2 2 (by omega)).2
    simp only [accLo, accHi, Nat.reduceMul, Nat.reduceAdd, Nat.reduceEqDiff, if_true, if_false, Nat.reduceMod, Nat.reduceDiv] at ha0 ha1 hres
    rw [hres]
    clear hres hT hX
    by_cases hn' : n < 3
    · have hnz : (n : Int) < 3 := by omega
      clear k1 k2 k3
      go_enter Tryz.func336, Tryz.ntmps336
      go_wp2
      all_goals
        go_ret2
        refine ⟨?_, (Below.refl _ _).alloc (Nat.le_refl _) _⟩
        unfold slowN
        repeat' split
        all_goals first
          | (exfalso; omega)
          | rfl
          | (simp only [Int.natCast_add, Int.natCast_mul, Int.natCast_emod, Int.natCast_ofNat]; rfl)
    · clear k3
      have hz1 : (1 : Int) < (n : Int) := by omega
      replace k1 := k1 (by omega)
      have hz2 : (2 : Int) < (n : Int) := by omega
      replace k2 := k2 (by omega)
      go_enter Tryz.func336, Tryz.ntmps336
      go_wp2
      all_goals
        go_ret2
        refine ⟨?_, (Below.refl _ _).alloc (Nat.le_refl _) _⟩
        unfold slowN
        repeat' split
        all_goals first
          | (exfalso; omega)
          | rfl
          | (simp only [Int.natCast_add, Int.natCast_mul, Int.natCast_emod, Int.natCast_ofNat]; rfl)
  · rw [hX] at hc0 hres
    have ha0 := (hT.2 3 (by omega)).1
    have ha1 := (hT.2 3 (by omega)).2
    simp only [accLo, accHi, Nat.reduceMul, Nat.reduceAdd, Nat.reduceEqDiff, if_true, if_false, Nat.reduceMod, Nat.reduceDiv] at ha0 ha1 hres
    rw [hres]
    clear hres hT hX
    by_cases hn' : n < 4
    · have hnz : (n : Int) < 4 := by omega
      clear k1 k2 k3
      go_enter Tryz.func336, Tryz.ntmps336
      go_wp2
      all_goals
        go_ret2
        refine ⟨?_, (Below.refl _ _).alloc (Nat.le_refl _) _⟩
        unfold slowN
        repeat' split
        all_goals first
          | (exfalso; omega)
          | rfl
          | (simp only [Int.natCast_add, Int.natCast_mul, Int.natCast_emod, Int.natCast_ofNat]; rfl)
    · skip
      have hz1 : (1 : Int) < (n : Int) := by omega
      replace k1 := k1 (by omega)
      have hz2 : (2 : Int) < (n : Int) := by omega
      replace k2 := k2 (by omega)
      have hz3 : (3 : Int) < (n : Int) := by omega
      replace k3 := k3 (by omega)
      go_enter Tryz.func336, Tryz.ntmps336
      go_wp2
      all_goals
        go_ret2
        refine ⟨?_, (Below.refl _ _).alloc (Nat.le_refl _) _⟩
        unfold slowN
        repeat' split
        all_goals first
          | (exfalso; omega)
          | rfl
          | (simp only [Int.natCast_add, Int.natCast_mul, Int.natCast_emod, Int.natCast_ofNat]; rfl)
  · rw [hX] at hc0 hres
    have ha0 := (hT.2 0 (by omega)).1
    have ha1 := (hT.2 0 (by omega)).2
    simp only [accLo, accHi, Nat.reduceMul, Nat.reduceAdd, Nat.reduceEqDiff, if_true, if_false, Nat.reduceMod, Nat.reduceDiv] at ha0 ha1 hres
    rw [hres]
    clear hres hT hX
    by_cases hn' : n < 4
    · have hnz : (n : Int) < 4 := by omega
      clear k1 k2 k3
      go_enter Tryz.func336, Tryz.ntmps336
      go_wp2
      all_goals
        go_ret2
        refine ⟨?_, (Below.refl _ _).alloc (Nat.le_refl _) _⟩
        unfold slowN
        repeat' split
        all_goals first
          | (exfalso; omega)
          | rfl
          | (simp only [Int.natCast_add, Int.natCast_mul, Int.natCast_emod, Int.natCast_ofNat]; rfl)
    · skip
      have hz1 : (1 : Int) < (n : Int) := by omega
      replace k1 := k1 (by omega)
      have hz2 : (2 : Int) < (n : Int) := by omega
      replace k2 := k2 (by omega)
      have hz3 : (3 : Int) < (n : Int) := by omega
      replace k3 := k3 (by omega)
      go_enter Tryz.func336, Tryz.ntmps336
      go_wp2
      all_goals
        go_ret2
        refine ⟨?_, (Below.refl _ _).alloc (Nat.le_refl _) _⟩
        unfold slowN
        repeat' split
        all_goals first
          | (exfalso; omega)
          | rfl
          | (simp only [Int.natCast_add, Int.natCast_mul, Int.natCast_emod, Int.natCast_ofNat]; rfl)
  · rw [hX] at hc0 hres
    have ha0 := (hT.2 4 (by omega)).1
    have ha1 := (hT.2 4 (by omega)).2
    simp only [accLo, accHi, Nat.reduceMul, Nat.reduceAdd, Nat.reduceEqDiff, if_true, if_false, Nat.reduceMod, Nat.reduceDiv] at ha0 ha1 hres
    rw [hres]
    clear hres hT hX
    by_cases hn' : n < 4
    · have hnz : (n : Int) < 4 := by omega
      clear k1 k2 k3
      go_enter Tryz.func336, Tryz.ntmps336
      go_wp2
      all_goals
        go_ret2
        refine ⟨?_, (Below.refl _ _).alloc (Nat.le_refl _) _⟩
        unfold slowN
        repeat' split
        all_goals first
          | (exfalso; omega)
          | rfl
          | (simp only [Int.natCast_add, Int.natCast_mul, Int.natCast_emod, Int.natCast_ofNat]; rfl)
    · skip
      have hz1 : (1 : Int) < (n : Int) := by omega
      replace k1 := k1 (by omega)
      have hz2 : (2 : Int) < (n : Int) := by omega
      replace k2 := k2 (by omega)
      have hz3 : (3 : Int) < (n : Int) := by omega
      replace k3 := k3 (by omega)
      go_enter Tryz.func336, Tryz.ntmps336
      go_wp2
      all_goals
        go_ret2
        refine ⟨?_, (Below.refl _ _).alloc (Nat.le_refl _) _⟩
        unfold slowN
        repeat' split
        all_goals first
          | (exfalso; omega)
          | rfl
          | (simp only [Int.natCast_add, Int.natCast_mul, Int.natCast_emod, Int.natCast_ofNat]; rfl)

set_option maxHeartbeats 1000000 in
set_option maxRecDepth 100000 in
theorem decodeRune_any (b o n c : Nat) (x0 x1 x2 x3 : Nat) (w : World) (hn : 1 ≤ n) (hnm : n ≤ 1099511627776) (l0 : x0 < 256) (l1 : x1 < 256) (l2 : x2 < 256) (l3 : x3 < 256) (hb0 : 128 ≤ x0)
    (k0 : w.cell? ⟨b, o, none⟩ = some (.int .u8 x0)) (k1 : 1 < n → w.cell? ⟨b, o + 1, none⟩ = some (.int .u8 x1)) (k2 : 2 < n → w.cell? ⟨b, o + 2, none⟩ = some (.int .u8 x2)) (k3 : 3 < n → w.cell? ⟨b, o + 3, none⟩ = some (.int .u8 x3)) (hT : Lib.Utf8Tabs 4 5 w) :
    Calls Tryz.prog 286 #[.slice (some ⟨b, o, none⟩) n c] w fun e w' => e = .returned (.tuple #[.int .i32 (decodeN n x0 x1 x2 x3).1, .int .i64 (decodeN n x0 x1 x2 x3).2]) ∧ Below w.heap.size w w' := by
  have HC := Lib.hid (decodeSlow_any b o n c x0 x1 x2 x3 w hn hnm l0 l1 l2 l3 hb0 k0 k1 k2 k3 hT)
  generalize (decodeN n x0 x1 x2 x3).1 = r at *
  generalize (decodeN n x0 x1 x2 x3).2 = k at *
  have hz0 : (0 : Int) < (n : Int) := by omega
  have hge : ¬ ((x0 : Int) < 128) := by omega
  clear k1 k2 k3 hT
  go_enter Tryz.func286, Tryz.ntmps286
  go_wp2_with fail
  go_loop [8] (fun i => i = .int .i64 0) (fun _ => 0)
  case atStart => exact rfl
  case round =>
    subst hrel
    go_wp2_with fail
    refine HC.out.mono ?_
    rintro e w' ⟨rfl, hb⟩
    go_wp2
    go_ret2
    exact ⟨rfl, hb⟩
end Go.Proofs.YteehjkfmlcfffaaGreatDoor
