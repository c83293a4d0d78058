/- The walks of frame.OfResponse and the document's Bare and OfResponse (printed by gen/rframe.py). Conditions: a list of bulk at most 2^30, a status of 64 bits. A response's message as a plain function on bytes; the walks of inbox.response and inbox.Response (printed by gen/iresp.py). Conditions: a row of at most 2^28 bytes; the library's two tables of UTF-8; internal/bytealg.MaxLen; strconv's two error variables. The walk of the document's Response (printed by gen/irespr.py). Conditions: a row of at most 2^28 bytes. -/
import Derived.Test.YteehjkfmlcfffaaGreatDoorFrame2
import Derived.Test.YteehjkfmlcfffaaGreatDoorInboxE
import Derived.IntWalk
import Derived.Test.YteehjkfmlcfffaaGreatDoorMsgA
import Derived.Test.YteehjkfmlcfffaaGreatDoorMsgB
import Derived.Test.YteehjkfmlcfffaaGreatDoorRespB
import Derived.Test.YteehjkfmlcfffaaGreatDoorHeadResp
import Derived.Test.YteehjkfmlcfffaaGreatDoorRefResp
import Derived.Test.YteehjkfmlcfffaaGreatDoorRegionA
import Derived.Deep.DeepCutAuto
namespace Go.Proofs.YteehjkfmlcfffaaGreatDoor
open Go.RowKit

namespace F
def headW : List UInt8 := [72, 69, 65, 68]
def connW : List UInt8 := [67, 79, 78, 78, 69, 67, 84]
/-- Has a response never a body? -/
def bareR (s : Int) (method : ByteArray) : Bool := decide (L method = headW ∨ s = 204 ∨ s = 304 ∨ (100 ≤ s ∧ s ≤ 199) ∨ (L method = connW ∧ 200 ≤ s ∧ s ≤ 299))
/-- How a response's body ends. -/
def frameR (s m : Int) (fs : List FD) (method : ByteArray) : FR := if bareR s method = true then ⟨0, 0, 0⟩ else frame m fs 3
theorem frame3 (m : Int) (fs : List FD) : frame m fs 3 = if (frame m fs 0).e = 0 ∧ (frame m fs 0).k = 0 then ⟨3, 0, 0⟩ else frame m fs 0 := by
  unfold frame
  repeat' split
  all_goals first
    | rfl
    | (rename_i h; exact absurd h.1 (by assumption))
    | (rename_i h; exact absurd ⟨rfl, rfl⟩ h)
    | (rename_i h; exact absurd (show (61 : Int) = 0 from h.1) (by decide))
    | (rename_i h; exact absurd (show (62 : Int) = 0 from h.1) (by decide))
    | (rename_i h; exact absurd (show (2 : Int) = 0 from h.2) (by decide))
    | (rename_i h; exact absurd (show (1 : Int) = 0 from h.2) (by decide))
theorem frameR_kinds (s m : Int) (fs : List FD) (method : ByteArray) : (frameR s m fs method).k = 0 ∨ (frameR s m fs method).k = 1 ∨ (frameR s m fs method).k = 2 ∨ (frameR s m fs method).k = 3 := by
  unfold frameR frame
  repeat' split
  all_goals first | exact .inl rfl | exact .inr (.inl rfl) | exact .inr (.inr (.inl rfl)) | exact .inr (.inr (.inr rfl))
theorem quo1 (s : Int) : s.tdiv 100 = 1 ↔ 100 ≤ s ∧ s ≤ 199 := by
  rcases Int.le_total 0 s with h | h
  · rw [Int.tdiv_eq_ediv_of_nonneg h]; omega
  · have h2 : s.tdiv 100 = -((-s).tdiv 100) := by rw [Int.neg_tdiv, Int.neg_neg]
    rw [h2, Int.tdiv_eq_ediv_of_nonneg (by omega)]
    omega
theorem quo2 (s : Int) : s.tdiv 100 = 2 ↔ 200 ≤ s ∧ s ≤ 299 := by
  rcases Int.le_total 0 s with h | h
  · rw [Int.tdiv_eq_ediv_of_nonneg h]; omega
  · have h2 : s.tdiv 100 = -((-s).tdiv 100) := by rw [Int.neg_tdiv, Int.neg_neg]
    rw [h2, Int.tdiv_eq_ediv_of_nonneg (by omega)]
    omega
theorem frame_range0 (m : Int) (fs : List FD) : (frame m fs 0).k ≠ 1 → (frame m fs 0).n = 0 := by
  unfold frame
  repeat' split
  all_goals first | exact fun _ => rfl | exact fun h => absurd rfl h
end F

set_option maxHeartbeats 2000000 in
set_option maxRecDepth 100000 in
theorem ofResponse_any (s m : Int) (r method : ByteArray) (A : Option Addr) (c : Nat) (fs : List FD) (w : World) (h0 : -9223372036854775808 ≤ s) (h1 : s ≤ 9223372036854775807) (hf : F.bulk fs ≤ 1073741824) (hx : Rd w A fs.length 2 (fcells fs)) :
    Calls Tryz.prog 138 #[.agg #[.int .i64 s, .string r, .int .i64 m, .slice A fs.length c], .string method] w (RetFR w (F.frameR s m fs method)) := by
  have HR := Lib.hid (fun (u : World) (hu : Below w.heap.size w u) => rule_any m A c fs 3 u hf (hx.below hu))
  have hq1 := F.quo1 s
  have hq2 := F.quo2 s
  obtain ⟨q, hq⟩ : ∃ q, s.tdiv 100 = q := ⟨_, rfl⟩
  have hqw : IntKind.i64.wrap q = q := IntWalk.i64_in _ (by
    rcases Int.le_total 0 s with h | h
    · rw [Int.tdiv_eq_ediv_of_nonneg h] at hq; omega
    · have h2 : s.tdiv 100 = -((-s).tdiv 100) := by rw [Int.neg_tdiv, Int.neg_neg]
      rw [h2, Int.tdiv_eq_ediv_of_nonneg (by omega)] at hq
      omega)
  rw [hq] at hq1 hq2
  have hb0 := ((Below.refl w.heap.size w).alloc (Nat.le_refl _) (.cells #[.int .i64 s, .string r, .int .i64 m, .slice A fs.length c] 27)).alloc (by simp only [World.size_alloc]; omega) (.cells #[.int .i64 0, .int .i64 0] 130)
  have HB0 := Lib.hid hb0
  have HK0 := Lib.hid (Two.start w #[.int .i64 s, .string r, .int .i64 m, .slice A fs.length c] 27 #[.int .i64 0, .int .i64 0] 130)
  have hbare : F.bareR s method = decide (method.toList = F.headW ∨ s = 204 ∨ s = 304 ∨ q = 1 ∨ (method.toList = F.connW ∧ q = 2)) := by
    unfold F.bareR
    exact decide_eq_decide.2 (by rw [hq1, hq2, L_toList])
  clear hx hb0
  obtain ⟨x0, x1, x2, x3⟩ := HK0.out.1.cells4
  obtain ⟨u0, u1⟩ := HK0.out.2.1.cells2
  have f0 := HK0.out.2.1.free 0
  have f1 := HK0.out.2.1.free 1
  have hk9 := (HK0.out.2.1.set 0 (.int .i64 0)).set 1 (.int .i64 0)
  obtain ⟨z0, z1⟩ := (show Blk _ _ #[.int .i64 0, .int .i64 0] _ from hk9).cells2
  have HB9 := Lib.hid (below_set (below_set HK0.out.2.2 (show w.heap.size ≤ w.heap.size + 1 by omega) 0 (.int .i64 0)) (show w.heap.size ≤ w.heap.size + 1 by omega) 1 (.int .i64 0))
  clear hk9 hq1 hq2
  go_enter Tryz.func138, Tryz.ntmps138
  go_upto_region 1 with fail
  generalize (w.alloc (.cells #[.int .i64 s, .string r, .int .i64 m, .slice A fs.length c] 27)).alloc (.cells #[.int .i64 0, .int .i64 0] 130) = w0 at *
  by_cases g1 : method.toList = F.headW
  · have HFR : Hid (F.frameR s m fs method = ⟨0, 0, 0⟩) := Lib.hid (if_pos (by rw [hbare]; exact decide_eq_true (.inl g1)))
    unfold F.headW at g1
    clear hbare HR HK0 HB0
    go_wp2
    refine bodyPost_ret (v := .tuple #[.agg #[.int .i64 0, .int .i64 0], .int .i64 0]) (by simp [results, Tryz.results138, go_sem, z0, z1]) rfl ?_
    rw [HFR.out]
    exact ⟨rfl, HB9.out⟩
  have g1n : ¬ method.toList = [72, 69, 65, 68] := g1
  have g1b : (method.toList == [72, 69, 65, 68]) = false := beq_eq_false_iff_ne.2 g1
  by_cases g2 : s = 204
  · have HFR : Hid (F.frameR s m fs method = ⟨0, 0, 0⟩) := Lib.hid (if_pos (by rw [hbare]; exact decide_eq_true (.inr (.inl g2))))
    subst g2
    clear hbare HR HK0 HB0
    go_wp2
    refine bodyPost_ret (v := .tuple #[.agg #[.int .i64 0, .int .i64 0], .int .i64 0]) (by simp [results, Tryz.results138, go_sem, z0, z1]) rfl ?_
    rw [HFR.out]
    exact ⟨rfl, HB9.out⟩
  have g2n : (s == 204) = false := beq_eq_false_iff_ne.2 g2
  by_cases g3 : s = 304
  · have HFR : Hid (F.frameR s m fs method = ⟨0, 0, 0⟩) := Lib.hid (if_pos (by rw [hbare]; exact decide_eq_true (.inr (.inr (.inl g3)))))
    subst g3
    clear hbare HR HK0 HB0
    go_wp2
    refine bodyPost_ret (v := .tuple #[.agg #[.int .i64 0, .int .i64 0], .int .i64 0]) (by simp [results, Tryz.results138, go_sem, z0, z1]) rfl ?_
    rw [HFR.out]
    exact ⟨rfl, HB9.out⟩
  have g3n : (s == 304) = false := beq_eq_false_iff_ne.2 g3
  by_cases g4 : q = 1
  · have HFR : Hid (F.frameR s m fs method = ⟨0, 0, 0⟩) := Lib.hid (if_pos (by rw [hbare]; exact decide_eq_true (.inr (.inr (.inr (.inl g4))))))
    subst g4
    clear hbare HR HK0 HB0
    go_wp2
    refine bodyPost_ret (v := .tuple #[.agg #[.int .i64 0, .int .i64 0], .int .i64 0]) (by simp [results, Tryz.results138, go_sem, z0, z1]) rfl ?_
    rw [HFR.out]
    exact ⟨rfl, HB9.out⟩
  have g4n : (q == 1) = false := beq_eq_false_iff_ne.2 g4
  by_cases g5 : method.toList = F.connW ∧ q = 2
  · have HFR : Hid (F.frameR s m fs method = ⟨0, 0, 0⟩) := Lib.hid (if_pos (by rw [hbare]; exact decide_eq_true (.inr (.inr (.inr (.inr g5))))))
    obtain ⟨g5, rfl⟩ := g5
    unfold F.connW at g5
    clear hbare HR HK0 HB0
    go_wp2
    refine bodyPost_ret (v := .tuple #[.agg #[.int .i64 0, .int .i64 0], .int .i64 0]) (by simp [results, Tryz.results138, go_sem, z0, z1]) rfl ?_
    rw [HFR.out]
    exact ⟨rfl, HB9.out⟩
  have HFR : Hid (F.frameR s m fs method = F.frame m fs 3) := Lib.hid (if_neg (by
    rw [hbare, decide_eq_true_eq]
    rintro (h | h | h | h | h)
    · exact g1 h
    · exact g2 h
    · exact g3 h
    · exact g4 h
    · exact g5 h))
  obtain ⟨R, hR⟩ : ∃ R, F.frame m fs 3 = R := ⟨_, rfl⟩
  have HF2 := Lib.hid (HFR.out.trans hR)
  rw [hR] at HR
  obtain ⟨k, n, code⟩ := R
  clear HFR hR hbare g1 g2 g3 g4 z0 z1 HB9
  by_cases g6 : method.toList = F.connW
  · have g7 : (q == 2) = false := beq_eq_false_iff_ne.2 fun h => g5 ⟨g6, h⟩
    unfold F.connW at g6
    clear g5
    go_wp2_with fail
    clear x0 x1 x2 x3 u0 u1 f0 f1
    refine (HR.out _ HB0.out).mono ?_
    rintro e w1 ⟨rfl, hb1⟩
    have HK1 := Lib.hid (HK0.out.below hb1)
    clear hb1 HB0 HK0 HR
    obtain ⟨x0, x1⟩ := HK1.out.2.1.cells2
    have f0 := HK1.out.2.1.free 0
    have f1 := HK1.out.2.1.free 1
    have hk9 := (HK1.out.2.1.set 0 (.int .i64 k)).set 1 (.int .i64 n)
    obtain ⟨z0, z1⟩ := (show Blk _ _ #[.int .i64 k, .int .i64 n] _ from hk9).cells2
    have HB9 := Lib.hid (below_set (below_set HK1.out.2.2 (show w.heap.size ≤ w.heap.size + 1 by omega) 0 (.int .i64 k)) (show w.heap.size ≤ w.heap.size + 1 by omega) 1 (.int .i64 n))
    clear hk9 HK1
    go_wp2
    refine bodyPost_ret (v := .tuple #[.agg #[.int .i64 k, .int .i64 n], .int .i64 code]) (by simp [results, Tryz.results138, go_sem, z0, z1]) rfl ?_
    exact ⟨by rw [HF2.out], HB9.out⟩
  · have g6n : ¬ method.toList = [67, 79, 78, 78, 69, 67, 84] := g6
    have g6b : (method.toList == [67, 79, 78, 78, 69, 67, 84]) = false := beq_eq_false_iff_ne.2 g6
    clear g5 g6
    go_wp2_with fail
    clear x0 x1 x2 x3 u0 u1 f0 f1
    refine (HR.out _ HB0.out).mono ?_
    rintro e w1 ⟨rfl, hb1⟩
    have HK1 := Lib.hid (HK0.out.below hb1)
    clear hb1 HB0 HK0 HR
    obtain ⟨x0, x1⟩ := HK1.out.2.1.cells2
    have f0 := HK1.out.2.1.free 0
    have f1 := HK1.out.2.1.free 1
    have hk9 := (HK1.out.2.1.set 0 (.int .i64 k)).set 1 (.int .i64 n)
    obtain ⟨z0, z1⟩ := (show Blk _ _ #[.int .i64 k, .int .i64 n] _ from hk9).cells2
    have HB9 := Lib.hid (below_set (below_set HK1.out.2.2 (show w.heap.size ≤ w.heap.size + 1 by omega) 0 (.int .i64 k)) (show w.heap.size ≤ w.heap.size + 1 by omega) 1 (.int .i64 n))
    clear hk9 HK1
    go_wp2
    refine bodyPost_ret (v := .tuple #[.agg #[.int .i64 k, .int .i64 n], .int .i64 code]) (by simp [results, Tryz.results138, go_sem, z0, z1]) rfl ?_
    exact ⟨by rw [HF2.out], HB9.out⟩
set_option maxHeartbeats 1000000 in
set_option maxRecDepth 100000 in
theorem refBare_any (s : Int) (method : ByteArray) (w : World) : Calls Tryz.prog 144 #[.int .i64 s, .string method] w (RetP w (.bool (F.bareR s method))) := by
  have hbare : F.bareR s method = decide (method.toList = F.headW ∨ s = 204 ∨ s = 304 ∨ (100 ≤ s ∧ s ≤ 199) ∨ (method.toList = F.connW ∧ 200 ≤ s ∧ s ≤ 299)) := by unfold F.bareR; rw [L_toList]
  rw [hbare]
  by_cases g1 : method.toList = F.headW
  · rw [decide_eq_true (.inl g1)]
    unfold F.headW at g1
    go_enter Tryz.func144, Tryz.ntmps144
    go_wp2
    go_ret
    exact ⟨rfl, rfl⟩
  have g1n : ¬ method.toList = [72, 69, 65, 68] := g1
  have g1b : (method.toList == [72, 69, 65, 68]) = false := beq_eq_false_iff_ne.2 g1
  by_cases g2 : 100 ≤ s ∧ s ≤ 199
  · rw [decide_eq_true (.inr (.inr (.inr (.inl g2))))]
    obtain ⟨ga, gb⟩ := g2
    clear g1 hbare
    go_enter Tryz.func144, Tryz.ntmps144
    go_wp2
    go_ret
    exact ⟨rfl, rfl⟩
  by_cases g3 : s = 204
  · subst g3
    rw [decide_eq_true (.inr (.inl rfl))]
    clear g1 hbare g2
    go_enter Tryz.func144, Tryz.ntmps144
    go_wp2
    go_ret
    exact ⟨rfl, rfl⟩
  by_cases g4 : s = 304
  · subst g4
    rw [decide_eq_true (.inr (.inr (.inl rfl)))]
    clear g1 hbare g2
    go_enter Tryz.func144, Tryz.ntmps144
    go_wp2
    go_ret
    exact ⟨rfl, rfl⟩
  have g3n : (s == 204) = false := beq_eq_false_iff_ne.2 g3
  have g4n : (s == 304) = false := beq_eq_false_iff_ne.2 g4
  by_cases g5 : method.toList = F.connW ∧ 200 ≤ s ∧ s ≤ 299
  · rw [decide_eq_true (.inr (.inr (.inr (.inr g5))))]
    obtain ⟨g5, ga, gb⟩ := g5
    unfold F.connW at g5
    have gc : (100 : Int) ≤ s := by omega
    have gd : ¬ s ≤ 199 := by omega
    clear g1 hbare g2 g3 g4
    go_enter Tryz.func144, Tryz.ntmps144
    go_wp2
    go_ret
    exact ⟨rfl, rfl⟩
  rw [decide_eq_false (by
    rintro (h | h | h | h | h)
    · exact g1 h
    · exact g3 h
    · exact g4 h
    · exact g2 h
    · exact g5 h)]
  by_cases g6 : method.toList = F.connW
  · have g6n : method.toList = [67, 79, 78, 78, 69, 67, 84] := g6
    clear g1 hbare g3 g4
    by_cases ga : s < 100
    · have gb : ¬ (100 : Int) ≤ s := by omega
      have gc : ¬ (200 : Int) ≤ s := by omega
      clear ga
      go_enter Tryz.func144, Tryz.ntmps144
      go_wp2
      go_ret
      exact ⟨rfl, rfl⟩
    · have gb : (100 : Int) ≤ s := by omega
      have gc : ¬ s ≤ 199 := fun h => g2 ⟨gb, h⟩
      clear ga g2
      have gd : (200 : Int) ≤ s := by omega
      have ge : ¬ s ≤ 299 := fun h => g5 ⟨g6, gd, h⟩
      clear g5
      go_enter Tryz.func144, Tryz.ntmps144
      go_wp2
      go_ret
      exact ⟨rfl, rfl⟩
  · have g6n : ¬ method.toList = [67, 79, 78, 78, 69, 67, 84] := g6
    have g6b : (method.toList == [67, 79, 78, 78, 69, 67, 84]) = false := beq_eq_false_iff_ne.2 g6
    clear g1 hbare g3 g4 g5 g6
    by_cases ga : (100 : Int) ≤ s
    · have gc : ¬ s ≤ 199 := fun h => g2 ⟨ga, h⟩
      clear g2
      go_enter Tryz.func144, Tryz.ntmps144
      go_wp2
      go_ret
      exact ⟨rfl, rfl⟩
    · clear g2
      go_enter Tryz.func144, Tryz.ntmps144
      go_wp2
      go_ret
      exact ⟨rfl, rfl⟩
set_option maxHeartbeats 2000000 in
set_option maxRecDepth 100000 in
theorem refOfResponse_any (s m : Int) (r method : ByteArray) (A : Option Addr) (c : Nat) (fs : List FD) (w : World) (hf : F.bulk fs ≤ 1073741824) (hx : Rd w A fs.length 2 (fcells fs)) :
    Calls Tryz.prog 69 #[.agg #[.int .i64 s, .string r, .int .i64 m, .slice A fs.length c], .string method] w (RetFR w (F.frameR s m fs method)) := by
  have HR := Lib.hid (fun (u : World) (hu : Below w.heap.size w u) => refRule_any m A c fs u hf (hx.below hu))
  have HBA := Lib.hid (fun (u : World) => refBare_any s method u)
  have hb0 := ((Below.refl w.heap.size w).alloc (Nat.le_refl _) (.cells #[.int .i64 s, .string r, .int .i64 m, .slice A fs.length c] 27)).alloc (by simp only [World.size_alloc]; omega) (.cells #[.int .i64 0, .int .i64 0] 130)
  have HB0 := Lib.hid hb0
  have HK0 := Lib.hid (Two.start w #[.int .i64 s, .string r, .int .i64 m, .slice A fs.length c] 27 #[.int .i64 0, .int .i64 0] 130)
  clear hx hb0
  have h3 := F.frame3 m fs
  have hn0 := (F.frame_range0 m fs)
  obtain ⟨R, hR⟩ : ∃ R, F.frame m fs 0 = R := ⟨_, rfl⟩
  rw [hR] at HR h3 hn0
  obtain ⟨k, n, code⟩ := R
  have HF : Hid (F.frameR s m fs method = if F.bareR s method = true then ⟨0, 0, 0⟩ else if code = 0 ∧ k = 0 then ⟨3, 0, 0⟩ else ⟨k, n, code⟩) := Lib.hid (by unfold F.frameR; rw [h3])
  replace hn0 : k ≠ 1 → n = 0 := hn0
  obtain ⟨G, hG⟩ : ∃ G, F.frameR s m fs method = G := ⟨_, rfl⟩
  rw [hG] at HF ⊢
  clear hG hR h3
  generalize F.bareR s method = bare at *
  obtain ⟨x0, x1, x2, x3⟩ := HK0.out.1.cells4
  go_enter Tryz.func69, Tryz.ntmps69
  go_upto_region 1 with fail
  generalize (w.alloc (.cells #[.int .i64 s, .string r, .int .i64 m, .slice A fs.length c] 27)).alloc (.cells #[.int .i64 0, .int .i64 0] 130) = w0 at *
  go_wp2_with fail
  refine (HBA.out _).mono ?_
  rintro e w1 ⟨rfl, rfl⟩
  clear HBA
  cases bare with
  | true =>
    obtain ⟨u0, u1⟩ := HK0.out.2.1.cells2
    have f0 := HK0.out.2.1.free 0
    have f1 := HK0.out.2.1.free 1
    have hk9 := (HK0.out.2.1.set 0 (.int .i64 0)).set 1 (.int .i64 0)
    obtain ⟨z0, z1⟩ := (show Blk _ _ #[.int .i64 0, .int .i64 0] _ from hk9).cells2
    have HB9 := Lib.hid (below_set (below_set HK0.out.2.2 (show w.heap.size ≤ w.heap.size + 1 by omega) 0 (.int .i64 0)) (show w.heap.size ≤ w.heap.size + 1 by omega) 1 (.int .i64 0))
    clear hk9 HR HB0 HK0
    go_wp2
    refine bodyPost_ret (v := .tuple #[.agg #[.int .i64 0, .int .i64 0], .int .i64 0]) (by simp [results, Tryz.results69, go_sem, z0, z1]) rfl ?_
    exact ⟨by rw [HF.out]; rfl, HB9.out⟩
  | false =>
    have HF1 : Hid (G = if code = 0 ∧ k = 0 then ⟨3, 0, 0⟩ else ⟨k, n, code⟩) := Lib.hid (HF.out.trans (if_neg (by decide)))
    clear HF
    go_wp2_with fail
    refine (HR.out _ HB0.out).mono ?_
    rintro e w1 ⟨rfl, hb1⟩
    have HK1 := Lib.hid ((HK0.out.below hb1).alloc (.cells #[.int .i64 k, .int .i64 n] 130))
    have HV1 := Lib.hid (Blk.new w1 #[.int .i64 k, .int .i64 n] 130)
    have hz1 : w.heap.size + 2 ≤ w1.heap.size := by have := (HK0.out.below hb1).size; omega
    clear hb1 HB0 HK0 HR x0 x1 x2 x3
    go_upto_region 4 with fail
    generalize w1.alloc (.cells #[.int .i64 k, .int .i64 n] 130) = w2 at *
    generalize w1.heap.size = b6 at *
    obtain ⟨v0, v1⟩ := HV1.out.cells2
    have e0 := HV1.out.free 0
    obtain ⟨u0, u1⟩ := HK1.out.2.1.cells2
    have f0 := HK1.out.2.1.free 0
    have f1 := HK1.out.2.1.free 1
    by_cases hk : code = 0 ∧ k = 0
    · have HF2 : Hid (G = ⟨3, 0, 0⟩) := Lib.hid (HF1.out.trans (if_pos hk))
      clear HF1
      obtain ⟨rfl, rfl⟩ := hk
      obtain rfl : n = 0 := hn0 (by decide)
      have HK2 : Hid (Two w #[.int .i64 s, .string r, .int .i64 m, .slice A fs.length c] 27 #[.int .i64 0, .int .i64 0] 130 (w2.setCell ⟨b6, 0, none⟩ (.int .i64 3))) := Lib.hid ⟨HK1.out.1.far 0 _ (by omega), HK1.out.2.1.far 0 _ (by omega), below_set HK1.out.2.2 (by omega) 0 _⟩
      have HV2 : Hid (Blk (w2.setCell ⟨b6, 0, none⟩ (.int .i64 3)) b6 #[.int .i64 3, .int .i64 0] 130) := Lib.hid (HV1.out.set 0 (.int .i64 3))
      clear HK1 HV1
      go_upto_region 6 with fail
      clear u0 u1 f0 f1 v0 v1 e0
      generalize w2.setCell ⟨b6, 0, none⟩ (.int .i64 3) = w3 at *
      obtain ⟨v0, v1⟩ := HV2.out.cells2
      obtain ⟨u0, u1⟩ := HK2.out.2.1.cells2
      have f0 := HK2.out.2.1.free 0
      have f1 := HK2.out.2.1.free 1
      have hk9 := (HK2.out.2.1.set 0 (.int .i64 3)).set 1 (.int .i64 0)
      obtain ⟨z0, z1⟩ := (show Blk _ _ #[.int .i64 3, .int .i64 0] _ from hk9).cells2
      have HB9 := Lib.hid (below_set (below_set HK2.out.2.2 (show w.heap.size ≤ w.heap.size + 1 by omega) 0 (.int .i64 3)) (show w.heap.size ≤ w.heap.size + 1 by omega) 1 (.int .i64 0))
      clear hk9 HK2 HV2
      go_wp2
      refine bodyPost_ret (v := .tuple #[.agg #[.int .i64 3, .int .i64 0], .int .i64 0]) (by simp [results, Tryz.results69, go_sem, z0, z1]) rfl ?_
      exact ⟨by rw [HF2.out], HB9.out⟩
    · have HF2 : Hid (G = ⟨k, n, code⟩) := Lib.hid (HF1.out.trans (if_neg hk))
      clear HF1
      have hk9 := (HK1.out.2.1.set 0 (.int .i64 k)).set 1 (.int .i64 n)
      obtain ⟨z0, z1⟩ := (show Blk _ _ #[.int .i64 k, .int .i64 n] _ from hk9).cells2
      have HB9 := Lib.hid (below_set (below_set HK1.out.2.2 (show w.heap.size ≤ w.heap.size + 1 by omega) 0 (.int .i64 k)) (show w.heap.size ≤ w.heap.size + 1 by omega) 1 (.int .i64 n))
      clear hk9 HK1 HV1
      by_cases hc : code = 0
      · subst hc
        have hkb : (k == 0) = false := beq_eq_false_iff_ne.2 fun h => hk ⟨rfl, h⟩
        clear hk
        go_wp2
        refine bodyPost_ret (v := .tuple #[.agg #[.int .i64 k, .int .i64 n], .int .i64 0]) (by simp [results, Tryz.results69, go_sem, z0, z1]) rfl ?_
        exact ⟨by rw [HF2.out], HB9.out⟩
      · have hcb : (code == 0) = false := beq_eq_false_iff_ne.2 hc
        clear hk
        go_wp2
        refine bodyPost_ret (v := .tuple #[.agg #[.int .i64 k, .int .i64 n], .int .i64 code]) (by simp [results, Tryz.results69, go_sem, z0, z1]) rfl ?_
        exact ⟨by rw [HF2.out], HB9.out⟩
end Go.Proofs.YteehjkfmlcfffaaGreatDoor

namespace Go.Proofs.YteehjkfmlcfffaaGreatDoor
open Go.RowKit

namespace M
/-- A response's message told: its parts, the body, the trailers, its length, the error. -/
structure MP where
  s : Int
  r : ByteArray
  v : Int
  fs : List FD
  d : List UInt8
  f : List FD
  n : Int
  e : Int
def MP.bad (e : Int) : MP := ⟨0, ⟨#[]⟩, 0, [], [], [], 0, e⟩
def cutE (b : Bool) : Int := if b then 80 else 0
def wholeR (q : P.RS) (b : BD) (cut : Int) : MP := if b.e ≠ 0 then .bad b.e else if b.n = 0 then .bad cut else ⟨q.s, q.r, q.v, q.fs, b.d, b.f, b.n, 0⟩
def closed (bs : List UInt8) (q : P.RS) (ended : Bool) : MP := if (65536 : Int) < (bs.length : Int) - q.n then .bad 71 else if ended = true then ⟨q.s, q.r, q.v, q.fs, bs.drop q.n.toNat, [], bs.length, 0⟩ else .bad 0
def framedR (bs : List UInt8) (q : P.RS) (f : F.FR) (ended : Bool) : MP := if f.e ≠ 0 then .bad f.e else if f.k = 3 then closed bs q ended else wholeR q (body bs q.n.toNat f.k f.n) (cutE ended)
def response (bs : List UInt8) (method : ByteArray) (ended : Bool) : MP :=
  if (P.response bs).e ≠ 0 then .bad (P.response bs).e else if (P.response bs).n = 0 then .bad (cutE ended) else framedR bs (P.response bs) (F.frameR (P.response bs).s (P.response bs).v (P.response bs).fs method) ended
theorem frameR_range (s m : Int) (fs : List FD) (method : ByteArray) : 0 ≤ (F.frameR s m fs method).n ∧ (F.frameR s m fs method).n ≤ 65536 ∧ ((F.frameR s m fs method).k ≠ 1 → (F.frameR s m fs method).n = 0) := by
  unfold F.frameR
  split
  · exact ⟨(by decide : (0 : Int) ≤ 0), (by decide : (0 : Int) ≤ 65536), fun _ => rfl⟩
  · exact F.frame_range m fs 3
theorem body_n (bs : List UInt8) (N : Nat) (k z : Int) (h : (body bs N k z).e ≠ 0) : (body bs N k z).n = 0 := by
  unfold body at h ⊢
  split
  · rename_i h1
    rw [if_pos h1] at h
    split
    · rfl
    · rename_i h2
      rw [if_neg h2] at h
      exact absurd rfl h
  · rename_i h1
    rw [if_neg h1] at h
    split
    · rename_i h2
      rw [if_pos h2] at h
      split
      · rfl
      · rename_i h3
        rw [if_neg h3] at h
        exact absurd rfl h
    · rename_i h2
      rw [if_neg h2] at h
      exact absurd rfl h
end M
/-- A response's message answered: all of its lists are the call's own. -/
def RetMsp (w : World) (r : M.MP) (e : Ending) (w' : World) : Prop :=
  ∃ A c D d T k, e = .returned (.tuple #[.agg #[.string ⟨#[]⟩, .string ⟨#[]⟩, .int .i64 0, .slice none 0 0, .int .i64 r.s, .string r.r, .int .i64 r.v, .slice A r.fs.length c, .slice D r.d.length d, .slice T r.f.length k], .int .i64 r.n, .int .i64 r.e]) ∧
    Row w' w.heap.size 148 2 A r.fs.length c (fcells r.fs) ∧ CRow w' w.heap.size D r.d.length d r.d ∧ Row w' w.heap.size 148 2 T r.f.length k (fcells r.f) ∧ Below w.heap.size w w'
theorem RetMsp.bad {w w' : World} {r : M.MP} {code : Int} (hb : Below w.heap.size w w') (h : r = .bad code) : RetMsp w r (.returned (.tuple #[.agg #[.string ⟨#[]⟩, .string ⟨#[]⟩, .int .i64 0, .slice none 0 0, .int .i64 0, .string ⟨#[]⟩, .int .i64 0, .slice none 0 0, .slice none 0 0, .slice none 0 0], .int .i64 0, .int .i64 code])) w' := by
  subst h
  exact ⟨none, 0, none, 0, none, 0, rfl, Row.none_ _ _ _ _, CRow.none_ _ _, Row.none_ _ _ _ _, hb⟩
/-- What the inner function answers: an error; or more is needed; or a message. -/
def RetRaw (w : World) (r : M.MP) (ended : Bool) (e : Ending) (w' : World) : Prop :=
  (∃ (s0 : Int) (r0 : ByteArray) (v0 : Int) (A1 : Option Addr) (n1 c1 : Nat) (D : Option Addr) (nd d : Nat) (T : Option Addr) (nt t : Nat) (code : Int), e = .returned (.tuple #[.agg #[.string ⟨#[]⟩, .string ⟨#[]⟩, .int .i64 0, .slice none 0 0, .int .i64 s0, .string r0, .int .i64 v0, .slice A1 n1 c1, .slice D nd d, .slice T nt t], .int .i64 0, .int .i64 code]) ∧ ((code ≠ 0 ∧ r = .bad code) ∨ (code = 0 ∧ r = .bad (M.cutE ended))) ∧ Below w.heap.size w w') ∨
  (r.e = 0 ∧ r.n ≠ 0 ∧ RetMsp w r e w')

set_option maxHeartbeats 4000000 in
set_option maxRecDepth 100000 in
theorem innerR_any (A : Option Addr) (n c : Nat) (bs : List UInt8) (method : ByteArray) (ended : Bool) (w : World) (hnm : n ≤ 268435456) (hnc : n ≤ c) (hA : A = none → n = 0 ∧ c = 0) (hpl : ∀ a, A = some a → a.spot = none ∨ c = 0) (hx : Rd w A n 1 (bcells bs)) (ht : LibOk w) (he : ErrOk w) :
    Calls Tryz.prog 67 #[.slice A n c, .string method, .bool ended] w (RetRaw w (M.response bs method ended) ended) := by
  have hll := rd_len hx
  subst hll
  have HQ := Lib.hid (fun (u : World) (hu : Below w.heap.size w u) => hresponse_any A bs.length c bs u (by omega) hnc hA hpl (hx.below hu) (ht.below hu) (he.below hu))
  have hfb := (P.response_bulk bs).1
  have hst := P.response_stat bs
  have hw := P.resp_ways bs
  obtain ⟨G, hG⟩ : ∃ G, M.response bs method ended = G := ⟨_, rfl⟩
  have HG : Hid (G = if (P.response bs).e ≠ 0 then .bad (P.response bs).e else if (P.response bs).n = 0 then .bad (M.cutE ended) else M.framedR bs (P.response bs) (F.frameR (P.response bs).s (P.response bs).v (P.response bs).fs method) ended) := Lib.hid (by rw [← hG]; rfl)
  rw [hG]
  obtain ⟨Q, hQ⟩ : ∃ Q, P.response bs = Q := ⟨_, rfl⟩
  rw [hQ] at HQ hfb hw HG hst
  obtain ⟨s, r, v, fs, N, E⟩ := Q
  have hfb2 : F.bulk fs ≤ 1073741824 := by
    have : F.bulk fs ≤ bs.length := hfb
    omega
  replace hst : 0 ≤ s ∧ s ≤ 599 := hst
  replace hw : (E = 0 ∧ N = 0) ∨ (E ≠ 0 ∧ N = 0) ∨ (E = 0 ∧ ∃ k : Nat, 0 < k ∧ k ≤ bs.length ∧ N = (k : Int)) := by
    exact hw
  replace HG : Hid (G = if E ≠ 0 then .bad E else if N = 0 then .bad (M.cutE ended) else M.framedR bs ⟨s, r, v, fs, N, E⟩ (F.frameR s v fs method) ended) := HG
  have hlb := F.len_le_bulk fs
  have HFR := Lib.hid (fun (A1 : Option Addr) (c1 : Nat) (u : World) (hr : Rd u A1 fs.length 2 (fcells fs)) => ofResponse_any s v r method A1 c1 fs u (by omega) (by omega) hfb2 hr)
  have hkd := F.frameR_kinds s v fs method
  have hkr := M.frameR_range s v fs method
  obtain ⟨FR, hFR⟩ : ∃ FR, F.frameR s v fs method = FR := ⟨_, rfl⟩
  rw [hFR] at HFR HG hkd hkr
  obtain ⟨fk, fn, fe⟩ := FR
  replace hkd : fk = 0 ∨ fk = 1 ∨ fk = 2 ∨ fk = 3 := hkd
  obtain ⟨hn0, hn1, _⟩ : 0 ≤ fn ∧ fn ≤ 65536 ∧ (fk ≠ 1 → fn = 0) := hkr
  have HFI := Lib.hid (fun (k : Nat) (h1 : 0 < k) (h2 : k ≤ bs.length) (h3 : fk ≠ 3) (x0 x1 x2 x3 x4 x5 x6 x7 : Value) (u : World) (hu : Below w.heap.size w u) (hk : Blk u w.heap.size #[x0, x1, x2, x3, x4, x5, x6, x7, .slice none 0 0, .slice none 0 0] 29) =>
    fill_any w.heap.size x0 x1 x2 x3 x4 x5 x6 x7 A c bs k fk fn u hnm hnc h1 h2 (by omega) hn0 hn1 hpl (hx.below hu) (ht.below hu) (he.below hu) hk)
  have HCL := Lib.hid (fun (k : Nat) (h1 : 0 < k) (h2 : k ≤ bs.length) => show ∃ (b o : Nat) (a : Addr), A = some ⟨b, o, none⟩ ∧ (if c = k then some (⟨b, o, none⟩ : Addr) else some ⟨b, o + k, none⟩) = some a ∧ ∀ (u : World) (hu : Below w.heap.size w u), Calls Tryz.prog 76 #[.slice (some a) (bs.length - k) (c - k)] u (RetC u (bs.drop k)) from by
    obtain ⟨b, o, rfl, _, _⟩ := hx.2 (by omega)
    obtain ⟨a, ha, _⟩ := addA_some (b := b) (o := o) (c := c) (k := k)
    refine ⟨b, o, a, rfl, by rw [← ha, addA_ite], fun u hu => ?_⟩
    exact slicesClone_any (some a) (bs.length - k) (c - k) (bs.drop k) u (by omega) (by rw [List.length_drop]) (fun h => by cases h) (by rw [← ha]; exact (hx.below hu).fromA hnc h2))
  have HK0 := Lib.hid (Blk.new w #[.string ⟨#[]⟩, .string ⟨#[]⟩, .int .i64 0, .slice none 0 0, .int .i64 0, .string ⟨#[]⟩, .int .i64 0, .slice none 0 0, .slice none 0 0, .slice none 0 0] 29)
  have HB0 := Lib.hid ((Below.refl w.heap.size w).alloc (Nat.le_refl _) (.cells #[.string ⟨#[]⟩, .string ⟨#[]⟩, .int .i64 0, .slice none 0 0, .int .i64 0, .string ⟨#[]⟩, .int .i64 0, .slice none 0 0, .slice none 0 0, .slice none 0 0] 29))
  clear hx hQ hG hFR hfb ht he hA hpl
  go_enter Tryz.func67, Tryz.ntmps67
  go_upto_region 1 with fail
  generalize w.alloc (.cells #[.string ⟨#[]⟩, .string ⟨#[]⟩, .int .i64 0, .slice none 0 0, .int .i64 0, .string ⟨#[]⟩, .int .i64 0, .slice none 0 0, .slice none 0 0, .slice none 0 0] 29) = w0 at *
  go_wp2_with fail
  refine (HQ.out _ HB0.out).mono ?_
  rintro e w1 ⟨A1, c1, rfl, hr1, hb1⟩
  have hk1 := HK0.out.below hb1
  have HB1 := Lib.hid (below_then HB0.out.size HB0.out hb1)
  have HK2 : Hid (Blk ((((w1.setCell ⟨w.heap.size, 4, none⟩ (.int .i64 s)).setCell ⟨w.heap.size, 5, none⟩ (.string r)).setCell ⟨w.heap.size, 6, none⟩ (.int .i64 v)).setCell ⟨w.heap.size, 7, none⟩ (.slice A1 fs.length c1)) w.heap.size #[.string ⟨#[]⟩, .string ⟨#[]⟩, .int .i64 0, .slice none 0 0, .int .i64 s, .string r, .int .i64 v, .slice A1 fs.length c1, .slice none 0 0, .slice none 0 0] 29) := Lib.hid ((((hk1.set 4 (.int .i64 s)).set 5 (.string r)).set 6 (.int .i64 v)).set 7 (.slice A1 fs.length c1))
  have HR2 : Hid (Row ((((w1.setCell ⟨w.heap.size, 4, none⟩ (.int .i64 s)).setCell ⟨w.heap.size, 5, none⟩ (.string r)).setCell ⟨w.heap.size, 6, none⟩ (.int .i64 v)).setCell ⟨w.heap.size, 7, none⟩ (.slice A1 fs.length c1)) (w.heap.size + 1) 148 2 A1 fs.length c1 (fcells fs)) := Lib.hid ((((((hr1.mono (base' := w.heap.size + 1) (by have := HK0.out.lt; omega)).farT hk1 neM 4 (.int .i64 s)).farT (hk1.set 4 (.int .i64 s)) neM 5 (.string r)).farT ((hk1.set 4 (.int .i64 s)).set 5 (.string r)) neM 6 (.int .i64 v)).farT (((hk1.set 4 (.int .i64 s)).set 5 (.string r)).set 6 (.int .i64 v)) neM 7 (.slice A1 fs.length c1)))
  have HL2 : Hid (Below w.heap.size w ((((w1.setCell ⟨w.heap.size, 4, none⟩ (.int .i64 s)).setCell ⟨w.heap.size, 5, none⟩ (.string r)).setCell ⟨w.heap.size, 6, none⟩ (.int .i64 v)).setCell ⟨w.heap.size, 7, none⟩ (.slice A1 fs.length c1))) := Lib.hid (below_set (below_set (below_set (below_set HB1.out (Nat.le_refl _) 4 _) (Nat.le_refl _) 5 _) (Nat.le_refl _) 6 _) (Nat.le_refl _) 7 _)
  have f4 := hk1.free 4
  have f5 := hk1.free 5
  have f6 := hk1.free 6
  have f7 := hk1.free 7
  obtain ⟨a0, a1, a2, a3, a4, a5, a6, a7, a8, a9⟩ := hk1.cells10
  clear hb1 hr1 hk1 HQ HK0 HB0 HB1
  go_upto_region 2 with fail
  clear f4 f5 f6 f7 a0 a1 a2 a3 a4 a5 a6 a7 a8 a9
  generalize ((((w1.setCell ⟨w.heap.size, 4, none⟩ (.int .i64 s)).setCell ⟨w.heap.size, 5, none⟩ (.string r)).setCell ⟨w.heap.size, 6, none⟩ (.int .i64 v)).setCell ⟨w.heap.size, 7, none⟩ (.slice A1 fs.length c1)) = w2 at *
  rcases hw with ⟨rfl, rfl⟩ | ⟨hE, rfl⟩ | ⟨rfl, k, hk0, hkn, rfl⟩
  · have HF : Hid (G = .bad (M.cutE ended)) := Lib.hid (HG.out.trans ((if_neg (fun h => h rfl)).trans (if_pos rfl)))
    clear HG HFR HFI hkd HCL HR2
    obtain ⟨a0, a1, a2, a3, a4, a5, a6, a7, a8, a9⟩ := HK2.out.cells10
    obtain ⟨g0, g1, g2, g3, g4, g5, g6, g7, g8, g9⟩ := HK2.out.free10
    go_wp2
    obtain ⟨z0, z1, z2, z3, z4, z5, z6, z7, z8, z9⟩ := (HK2.out.set10 (.string ⟨#[]⟩) (.string ⟨#[]⟩) (.int .i64 0) (.slice none 0 0) (.int .i64 s) (.string r) (.int .i64 v) (.slice A1 fs.length c1) (.slice none 0 0) (.slice none 0 0)).cells10
    unfold ten at z0 z1 z2 z3 z4 z5 z6 z7 z8 z9
    refine bodyPost_ret (v := .tuple #[.agg #[.string ⟨#[]⟩, .string ⟨#[]⟩, .int .i64 0, .slice none 0 0, .int .i64 s, .string r, .int .i64 v, .slice A1 fs.length c1, .slice none 0 0, .slice none 0 0], .int .i64 0, .int .i64 0]) (by simp [results, Tryz.results67, go_sem, z0, z1, z2, z3, z4, z5, z6, z7, z8, z9]) rfl ?_
    exact .inl ⟨_, _, _, _, _, _, _, _, _, _, _, _, _, rfl, .inr ⟨rfl, HF.out⟩, below_ten HL2.out (Nat.le_refl _) _ _ _ _ _ _ _ _ _ _⟩
  · have HF := Lib.hid (HG.out.trans (if_pos hE))
    have hEb : (E != 0) = true := by rw [bne_iff_ne]; exact hE
    clear HG HFR HFI hkd HCL HR2
    obtain ⟨a0, a1, a2, a3, a4, a5, a6, a7, a8, a9⟩ := HK2.out.cells10
    obtain ⟨g0, g1, g2, g3, g4, g5, g6, g7, g8, g9⟩ := HK2.out.free10
    go_wp2
    obtain ⟨z0, z1, z2, z3, z4, z5, z6, z7, z8, z9⟩ := (HK2.out.set10 (.string ⟨#[]⟩) (.string ⟨#[]⟩) (.int .i64 0) (.slice none 0 0) (.int .i64 s) (.string r) (.int .i64 v) (.slice A1 fs.length c1) (.slice none 0 0) (.slice none 0 0)).cells10
    unfold ten at z0 z1 z2 z3 z4 z5 z6 z7 z8 z9
    refine bodyPost_ret (v := .tuple #[.agg #[.string ⟨#[]⟩, .string ⟨#[]⟩, .int .i64 0, .slice none 0 0, .int .i64 s, .string r, .int .i64 v, .slice A1 fs.length c1, .slice none 0 0, .slice none 0 0], .int .i64 0, .int .i64 E]) (by simp [results, Tryz.results67, go_sem, z0, z1, z2, z3, z4, z5, z6, z7, z8, z9]) rfl ?_
    exact .inl ⟨_, _, _, _, _, _, _, _, _, _, _, _, _, rfl, .inl ⟨hE, HF.out⟩, below_ten HL2.out (Nat.le_refl _) _ _ _ _ _ _ _ _ _ _⟩
  · have hNi : ¬ (k : Int) = 0 := by omega
    have hNb : ((k : Int) == 0) = false := beq_eq_false_iff_ne.2 hNi
    have HG2 : Hid (G = M.framedR bs ⟨s, r, v, fs, (k : Int), 0⟩ ⟨fk, fn, fe⟩ ended) := Lib.hid (HG.out.trans ((if_neg (fun h => h rfl)).trans (if_neg hNi)))
    clear HG
    obtain ⟨a0, a1, a2, a3, a4, a5, a6, a7, a8, a9⟩ := HK2.out.cells10
    go_wp2_with fail
    refine (HFR.out A1 c1 _ HR2.out.rd).mono ?_
    rintro e w3 ⟨rfl, hb3⟩
    have HK3 := Lib.hid ((HK2.out.below hb3).alloc (.cells #[.int .i64 fk, .int .i64 fn] 130))
    have HL3 := Lib.hid ((below_then HL2.out.size HL2.out hb3).alloc (by have := HL2.out.size; have := hb3.size; omega) (.cells #[.int .i64 fk, .int .i64 fn] 130))
    have HF3 := Lib.hid (Blk.new w3 #[.int .i64 fk, .int .i64 fn] 130)
    have HR3 := Lib.hid ((HR2.out.below hb3).alloc (.cells #[.int .i64 fk, .int .i64 fn] 130))
    clear hb3 HK2 HL2 HR2 HFR a0 a1 a2 a3 a4 a5 a6 a7 a8 a9
    go_upto_region 5 with fail
    generalize w3.alloc (.cells #[.int .i64 fk, .int .i64 fn] 130) = w4 at *
    generalize w3.heap.size = bf at *
    by_cases hfe : fe = 0
    rotate_left
    · have HF : Hid (G = .bad fe) := Lib.hid (HG2.out.trans (if_pos hfe))
      have hfb : (fe != 0) = true := by rw [bne_iff_ne]; exact hfe
      clear HG2 HFI hkd HCL HR3 HF3
      obtain ⟨a0, a1, a2, a3, a4, a5, a6, a7, a8, a9⟩ := HK3.out.cells10
      obtain ⟨g0, g1, g2, g3, g4, g5, g6, g7, g8, g9⟩ := HK3.out.free10
      go_wp2
      obtain ⟨z0, z1, z2, z3, z4, z5, z6, z7, z8, z9⟩ := (HK3.out.set10 (.string ⟨#[]⟩) (.string ⟨#[]⟩) (.int .i64 0) (.slice none 0 0) (.int .i64 s) (.string r) (.int .i64 v) (.slice A1 fs.length c1) (.slice none 0 0) (.slice none 0 0)).cells10
      unfold ten at z0 z1 z2 z3 z4 z5 z6 z7 z8 z9
      refine bodyPost_ret (v := .tuple #[.agg #[.string ⟨#[]⟩, .string ⟨#[]⟩, .int .i64 0, .slice none 0 0, .int .i64 s, .string r, .int .i64 v, .slice A1 fs.length c1, .slice none 0 0, .slice none 0 0], .int .i64 0, .int .i64 fe]) (by simp [results, Tryz.results67, go_sem, z0, z1, z2, z3, z4, z5, z6, z7, z8, z9]) rfl ?_
      exact .inl ⟨_, _, _, _, _, _, _, _, _, _, _, _, _, rfl, .inl ⟨hfe, HF.out⟩, below_ten HL3.out (Nat.le_refl _) _ _ _ _ _ _ _ _ _ _⟩
    subst hfe
    obtain ⟨y0, y1⟩ := HF3.out.cells2
    by_cases hk3 : fk = 3
    · subst hk3
      have HG3 : Hid (G = M.closed bs ⟨s, r, v, fs, (k : Int), 0⟩ ended) := Lib.hid (HG2.out.trans ((if_neg (fun h => h rfl)).trans (if_pos rfl)))
      clear HG2 HFI hkd
      by_cases hbig : (65536 : Int) < (bs.length : Int) - (k : Int)
      · have HF : Hid (G = .bad 71) := Lib.hid (HG3.out.trans (if_pos hbig))
        clear HG3 HCL HR3
        obtain ⟨a0, a1, a2, a3, a4, a5, a6, a7, a8, a9⟩ := HK3.out.cells10
        obtain ⟨g0, g1, g2, g3, g4, g5, g6, g7, g8, g9⟩ := HK3.out.free10
        go_wp2
        obtain ⟨z0, z1, z2, z3, z4, z5, z6, z7, z8, z9⟩ := (HK3.out.set10 (.string ⟨#[]⟩) (.string ⟨#[]⟩) (.int .i64 0) (.slice none 0 0) (.int .i64 s) (.string r) (.int .i64 v) (.slice A1 fs.length c1) (.slice none 0 0) (.slice none 0 0)).cells10
        unfold ten at z0 z1 z2 z3 z4 z5 z6 z7 z8 z9
        refine bodyPost_ret (v := .tuple #[.agg #[.string ⟨#[]⟩, .string ⟨#[]⟩, .int .i64 0, .slice none 0 0, .int .i64 s, .string r, .int .i64 v, .slice A1 fs.length c1, .slice none 0 0, .slice none 0 0], .int .i64 0, .int .i64 71]) (by simp [results, Tryz.results67, go_sem, z0, z1, z2, z3, z4, z5, z6, z7, z8, z9]) rfl ?_
        exact .inl ⟨_, _, _, _, _, _, _, _, _, _, _, _, _, rfl, .inl ⟨by decide, HF.out⟩, below_ten HL3.out (Nat.le_refl _) _ _ _ _ _ _ _ _ _ _⟩
      · cases ended with
        | false =>
          have HF : Hid (G = .bad 0) := Lib.hid (HG3.out.trans ((if_neg hbig).trans (if_neg (by decide))))
          clear HG3 HCL HR3
          obtain ⟨a0, a1, a2, a3, a4, a5, a6, a7, a8, a9⟩ := HK3.out.cells10
          obtain ⟨g0, g1, g2, g3, g4, g5, g6, g7, g8, g9⟩ := HK3.out.free10
          go_wp2
          obtain ⟨z0, z1, z2, z3, z4, z5, z6, z7, z8, z9⟩ := (HK3.out.set10 (.string ⟨#[]⟩) (.string ⟨#[]⟩) (.int .i64 0) (.slice none 0 0) (.int .i64 s) (.string r) (.int .i64 v) (.slice A1 fs.length c1) (.slice none 0 0) (.slice none 0 0)).cells10
          unfold ten at z0 z1 z2 z3 z4 z5 z6 z7 z8 z9
          refine bodyPost_ret (v := .tuple #[.agg #[.string ⟨#[]⟩, .string ⟨#[]⟩, .int .i64 0, .slice none 0 0, .int .i64 s, .string r, .int .i64 v, .slice A1 fs.length c1, .slice none 0 0, .slice none 0 0], .int .i64 0, .int .i64 0]) (by simp [results, Tryz.results67, go_sem, z0, z1, z2, z3, z4, z5, z6, z7, z8, z9]) rfl ?_
          exact .inl ⟨_, _, _, _, _, _, _, _, _, _, _, _, _, rfl, .inr ⟨rfl, HF.out⟩, below_ten HL3.out (Nat.le_refl _) _ _ _ _ _ _ _ _ _ _⟩
        | true =>
          have HF : Hid (G = ⟨s, r, v, fs, bs.drop k, [], bs.length, 0⟩) := Lib.hid (HG3.out.trans ((if_neg hbig).trans (if_pos rfl)))
          obtain ⟨b, o, a, rfl, hAI, hcl⟩ := HCL.out k hk0 hkn
          have HC := Lib.hid (hcl _ HL3.out)
          clear HG3 HCL hcl
          have hkc : (k : Int) ≤ (c : Int) := by omega
          have hkl : (k : Int) ≤ (bs.length : Int) := by omega
          go_wp2_with fail
          refine HC.out.mono ?_
          rintro e w5 ⟨X, d, rfl, hrx, hb5⟩
          have hdl : (bs.drop k).length = bs.length - k := List.length_drop
          rw [hdl] at hrx ⊢
          have hk5 := HK3.out.below hb5
          have HK6 : Hid (Blk (w5.setCell ⟨w.heap.size, 8, none⟩ (.slice X (bs.length - k) d)) w.heap.size #[.string ⟨#[]⟩, .string ⟨#[]⟩, .int .i64 0, .slice none 0 0, .int .i64 s, .string r, .int .i64 v, .slice A1 fs.length c1, .slice X (bs.length - k) d, .slice none 0 0] 29) := Lib.hid (hk5.set 8 (.slice X (bs.length - k) d))
          have HL6 := Lib.hid (below_set (below_then HL3.out.size HL3.out hb5) (Nat.le_refl _) 8 (.slice X (bs.length - k) d))
          have HR6 := Lib.hid ((HR3.out.below hb5).farT hk5 neM 8 (.slice X (bs.length - k) d))
          have HX6 := Lib.hid ((hrx.mono (base' := w.heap.size + 1) (by have := HK3.out.lt; omega)).farB (show w.heap.size < w.heap.size + 1 by omega) 8 (.slice X (bs.length - k) d))
          have f8 := hk5.free 8
          obtain ⟨a0, a1, a2, a3, a4, a5, a6, a7, a8, a9⟩ := hk5.cells10
          clear hb5 hrx hk5 HC HK3 HL3 HR3 HF3 y0 y1
          go_upto_region 15 with fail
          clear f8 a0 a1 a2 a3 a4 a5 a6 a7 a8 a9
          generalize w5.setCell ⟨w.heap.size, 8, none⟩ (.slice X (bs.length - k) d) = w6 at *
          obtain ⟨a0, a1, a2, a3, a4, a5, a6, a7, a8, a9⟩ := HK6.out.cells10
          obtain ⟨g0, g1, g2, g3, g4, g5, g6, g7, g8, g9⟩ := HK6.out.free10
          go_wp2
          obtain ⟨z0, z1, z2, z3, z4, z5, z6, z7, z8, z9⟩ := (HK6.out.set10 (.string ⟨#[]⟩) (.string ⟨#[]⟩) (.int .i64 0) (.slice none 0 0) (.int .i64 s) (.string r) (.int .i64 v) (.slice A1 fs.length c1) (.slice X (bs.length - k) d) (.slice none 0 0)).cells10
          unfold ten at z0 z1 z2 z3 z4 z5 z6 z7 z8 z9
          refine bodyPost_ret (v := .tuple #[.agg #[.string ⟨#[]⟩, .string ⟨#[]⟩, .int .i64 0, .slice none 0 0, .int .i64 s, .string r, .int .i64 v, .slice A1 fs.length c1, .slice X (bs.length - k) d, .slice none 0 0], .int .i64 bs.length, .int .i64 0]) (by simp [results, Tryz.results67, go_sem, z0, z1, z2, z3, z4, z5, z6, z7, z8, z9]) rfl ?_
          refine .inr ⟨by rw [HF.out], by rw [HF.out]; show (bs.length : Int) ≠ 0; omega, ?_⟩
          rw [HF.out]
          exact ⟨A1, c1, X, d, none, 0, by rw [hdl]; rfl, (HR6.out.farT10 HK6.out neM _ _ _ _ _ _ _ _ _ _).mono (by omega), by rw [hdl]; exact (HX6.out.far10 (by omega) _ _ _ _ _ _ _ _ _ _).mono (by omega), Row.none_ _ _ _ _, below_ten HL6.out (Nat.le_refl _) _ _ _ _ _ _ _ _ _ _⟩
    · have hk3b : (fk != 3) = true := by rw [bne_iff_ne]; exact hk3
      have HG3 : Hid (G = M.wholeR ⟨s, r, v, fs, (k : Int), 0⟩ (M.body bs k fk fn) (M.cutE ended)) := Lib.hid (HG2.out.trans ((if_neg (fun h => h rfl)).trans (if_neg hk3)))
      have hbn := M.body_n bs k fk fn
      have HFK := Lib.hid (HFI.out k hk0 hkn hk3 _ _ _ _ _ _ _ _ _ HL3.out HK3.out)
      clear HG2 HCL HFI hk3
      go_wp2_with fail
      refine HFK.out.mono ?_
      rintro e w6 ⟨rfl, hl6, D, d, T, j, hk6, hd6, ht6⟩
      have HK6 := Lib.hid hk6
      have HR6 := Lib.hid (hl6.row HR3.out HK3.out neM)
      have HD6 := Lib.hid hd6
      have HV6 := Lib.hid ht6
      have HL6 := Lib.hid (hl6.low HL3.out (by have := HK3.out.lt; omega) (Nat.le_refl _))
      clear hl6 hk6 hd6 ht6 HK3 HR3 HF3 HFK HL3 y0 y1
      obtain ⟨BB, hBB⟩ : ∃ BB, M.body bs k fk fn = BB := ⟨_, rfl⟩
      rw [hBB] at HG3 HK6 HD6 HV6 hbn ⊢
      clear hBB
      obtain ⟨bd, bf2, bn, be⟩ := BB
      replace HK6 : Hid (Blk w6 w.heap.size #[.string ⟨#[]⟩, .string ⟨#[]⟩, .int .i64 0, .slice none 0 0, .int .i64 s, .string r, .int .i64 v, .slice A1 fs.length c1, .slice D bd.length d, .slice T bf2.length j] 29) := HK6
      replace HD6 : Hid (CRow w6 (w.heap.size + 1) D bd.length d bd) := HD6
      replace HV6 : Hid (Row w6 (w.heap.size + 1) 148 2 T bf2.length j (fcells bf2)) := HV6
      replace HG3 : Hid (G = if be ≠ 0 then .bad be else if bn = 0 then .bad (M.cutE ended) else ⟨s, r, v, fs, bd, bf2, bn, 0⟩) := HG3
      replace hbn : be ≠ 0 → bn = 0 := hbn
      go_upto_region 9 with fail
      by_cases hbe : be = 0
      · subst hbe
        by_cases hbn : bn = 0
        · have HF : Hid (G = .bad (M.cutE ended)) := Lib.hid (HG3.out.trans ((if_neg (fun h => h rfl)).trans (if_pos hbn)))
          subst hbn
          clear HG3 HR6 HD6 HV6
          obtain ⟨a0, a1, a2, a3, a4, a5, a6, a7, a8, a9⟩ := HK6.out.cells10
          obtain ⟨g0, g1, g2, g3, g4, g5, g6, g7, g8, g9⟩ := HK6.out.free10
          go_wp2
          obtain ⟨z0, z1, z2, z3, z4, z5, z6, z7, z8, z9⟩ := (HK6.out.set10 (.string ⟨#[]⟩) (.string ⟨#[]⟩) (.int .i64 0) (.slice none 0 0) (.int .i64 s) (.string r) (.int .i64 v) (.slice A1 fs.length c1) (.slice D bd.length d) (.slice T bf2.length j)).cells10
          unfold ten at z0 z1 z2 z3 z4 z5 z6 z7 z8 z9
          refine bodyPost_ret (v := .tuple #[.agg #[.string ⟨#[]⟩, .string ⟨#[]⟩, .int .i64 0, .slice none 0 0, .int .i64 s, .string r, .int .i64 v, .slice A1 fs.length c1, .slice D bd.length d, .slice T bf2.length j], .int .i64 0, .int .i64 0]) (by simp [results, Tryz.results67, go_sem, z0, z1, z2, z3, z4, z5, z6, z7, z8, z9]) rfl ?_
          exact .inl ⟨_, _, _, _, _, _, _, _, _, _, _, _, _, rfl, .inr ⟨rfl, HF.out⟩, below_ten HL6.out (Nat.le_refl _) _ _ _ _ _ _ _ _ _ _⟩
        · have HF : Hid (G = ⟨s, r, v, fs, bd, bf2, bn, 0⟩) := Lib.hid (HG3.out.trans ((if_neg (fun h => h rfl)).trans (if_neg hbn)))
          clear HG3
          obtain ⟨a0, a1, a2, a3, a4, a5, a6, a7, a8, a9⟩ := HK6.out.cells10
          obtain ⟨g0, g1, g2, g3, g4, g5, g6, g7, g8, g9⟩ := HK6.out.free10
          go_wp2
          obtain ⟨z0, z1, z2, z3, z4, z5, z6, z7, z8, z9⟩ := (HK6.out.set10 (.string ⟨#[]⟩) (.string ⟨#[]⟩) (.int .i64 0) (.slice none 0 0) (.int .i64 s) (.string r) (.int .i64 v) (.slice A1 fs.length c1) (.slice D bd.length d) (.slice T bf2.length j)).cells10
          unfold ten at z0 z1 z2 z3 z4 z5 z6 z7 z8 z9
          refine bodyPost_ret (v := .tuple #[.agg #[.string ⟨#[]⟩, .string ⟨#[]⟩, .int .i64 0, .slice none 0 0, .int .i64 s, .string r, .int .i64 v, .slice A1 fs.length c1, .slice D bd.length d, .slice T bf2.length j], .int .i64 bn, .int .i64 0]) (by simp [results, Tryz.results67, go_sem, z0, z1, z2, z3, z4, z5, z6, z7, z8, z9]) rfl ?_
          refine .inr ⟨by rw [HF.out], by rw [HF.out]; exact hbn, ?_⟩
          rw [HF.out]
          exact ⟨A1, c1, D, d, T, j, rfl, (HR6.out.farT10 HK6.out neM _ _ _ _ _ _ _ _ _ _).mono (by omega), (HD6.out.far10 (by omega) _ _ _ _ _ _ _ _ _ _).mono (by omega), (HV6.out.farT10 HK6.out neM _ _ _ _ _ _ _ _ _ _).mono (by omega), below_ten HL6.out (Nat.le_refl _) _ _ _ _ _ _ _ _ _ _⟩
      · have HF : Hid (G = .bad be) := Lib.hid (HG3.out.trans (if_pos hbe))
        obtain rfl : bn = 0 := hbn hbe
        clear HG3 HR6 HD6 HV6
        obtain ⟨a0, a1, a2, a3, a4, a5, a6, a7, a8, a9⟩ := HK6.out.cells10
        obtain ⟨g0, g1, g2, g3, g4, g5, g6, g7, g8, g9⟩ := HK6.out.free10
        go_wp2
        obtain ⟨z0, z1, z2, z3, z4, z5, z6, z7, z8, z9⟩ := (HK6.out.set10 (.string ⟨#[]⟩) (.string ⟨#[]⟩) (.int .i64 0) (.slice none 0 0) (.int .i64 s) (.string r) (.int .i64 v) (.slice A1 fs.length c1) (.slice D bd.length d) (.slice T bf2.length j)).cells10
        unfold ten at z0 z1 z2 z3 z4 z5 z6 z7 z8 z9
        refine bodyPost_ret (v := .tuple #[.agg #[.string ⟨#[]⟩, .string ⟨#[]⟩, .int .i64 0, .slice none 0 0, .int .i64 s, .string r, .int .i64 v, .slice A1 fs.length c1, .slice D bd.length d, .slice T bf2.length j], .int .i64 0, .int .i64 be]) (by simp [results, Tryz.results67, go_sem, z0, z1, z2, z3, z4, z5, z6, z7, z8, z9]) rfl ?_
        exact .inl ⟨_, _, _, _, _, _, _, _, _, _, _, _, _, rfl, .inl ⟨hbe, HF.out⟩, below_ten HL6.out (Nat.le_refl _) _ _ _ _ _ _ _ _ _ _⟩
set_option maxHeartbeats 4000000 in
set_option maxRecDepth 100000 in
theorem inboxResponse_any (A : Option Addr) (n c : Nat) (bs : List UInt8) (method : ByteArray) (ended : Bool) (w : World) (hnm : n ≤ 268435456) (hnc : n ≤ c) (hA : A = none → n = 0 ∧ c = 0) (hpl : ∀ a, A = some a → a.spot = none ∨ c = 0) (hx : Rd w A n 1 (bcells bs)) (ht : LibOk w) (he : ErrOk w) :
    Calls Tryz.prog 13 #[.slice A n c, .string method, .bool ended] w (RetMsp w (M.response bs method ended)) := by
  have HI := Lib.hid (fun (u : World) (hu : Below w.heap.size w u) => innerR_any A n c bs method ended u hnm hnc hA hpl (hx.below hu) (ht.below hu) (he.below hu))
  have HK0 := Lib.hid (Blk.new w #[.string ⟨#[]⟩, .string ⟨#[]⟩, .int .i64 0, .slice none 0 0, .int .i64 0, .string ⟨#[]⟩, .int .i64 0, .slice none 0 0, .slice none 0 0, .slice none 0 0] 29)
  have HB0 := Lib.hid ((Below.refl w.heap.size w).alloc (Nat.le_refl _) (.cells #[.string ⟨#[]⟩, .string ⟨#[]⟩, .int .i64 0, .slice none 0 0, .int .i64 0, .string ⟨#[]⟩, .int .i64 0, .slice none 0 0, .slice none 0 0, .slice none 0 0] 29))
  have HZ0 : Hid ((w.alloc (.cells #[.string ⟨#[]⟩, .string ⟨#[]⟩, .int .i64 0, .slice none 0 0, .int .i64 0, .string ⟨#[]⟩, .int .i64 0, .slice none 0 0, .slice none 0 0, .slice none 0 0] 29)).heap.size = w.heap.size + 1) := Lib.hid (World.size_alloc ..)
  clear hx ht he hA hpl
  generalize M.response bs method ended = G at *
  go_enter Tryz.func13, Tryz.ntmps13
  go_upto_region 1 with fail
  generalize w.alloc (.cells #[.string ⟨#[]⟩, .string ⟨#[]⟩, .int .i64 0, .slice none 0 0, .int .i64 0, .string ⟨#[]⟩, .int .i64 0, .slice none 0 0, .slice none 0 0, .slice none 0 0] 29) = w0 at *
  go_wp2_with fail
  refine (HI.out _ HB0.out).mono ?_
  rintro e w1 (⟨s0, r0, v0, A0, n0, c0, D0, nd0, d0, T0, nt0, t0, code, rfl, hway, hb1⟩ | ⟨hg0, hg1, A1, c1, D, d, T, k, rfl, hr1, hd1, ht1, hb1⟩)
  · have HK2 := Lib.hid ((HK0.out.below hb1).alloc (.cells #[.string ⟨#[]⟩, .string ⟨#[]⟩, .int .i64 0, .slice none 0 0, .int .i64 s0, .string r0, .int .i64 v0, .slice A0 n0 c0, .slice D0 nd0 d0, .slice T0 nt0 t0] 29))
    have HL2 := Lib.hid ((below_then HB0.out.size HB0.out hb1).alloc (by have := HB0.out.size; have := hb1.size; omega) (.cells #[.string ⟨#[]⟩, .string ⟨#[]⟩, .int .i64 0, .slice none 0 0, .int .i64 s0, .string r0, .int .i64 v0, .slice A0 n0 c0, .slice D0 nd0 d0, .slice T0 nt0 t0] 29))
    have HO2 := Lib.hid (Blk.new w1 #[.string ⟨#[]⟩, .string ⟨#[]⟩, .int .i64 0, .slice none 0 0, .int .i64 s0, .string r0, .int .i64 v0, .slice A0 n0 c0, .slice D0 nd0 d0, .slice T0 nt0 t0] 29)
    clear hb1 HK0 HB0 HI
    go_upto_region 2 with fail
    generalize w1.alloc (.cells #[.string ⟨#[]⟩, .string ⟨#[]⟩, .int .i64 0, .slice none 0 0, .int .i64 s0, .string r0, .int .i64 v0, .slice A0 n0 c0, .slice D0 nd0 d0, .slice T0 nt0 t0] 29) = w2 at *
    rcases hway with ⟨hc, hG⟩ | ⟨rfl, hG⟩
    · have hcb : (code == 0) = false := beq_eq_false_iff_ne.2 hc
      have hcn : (code != 0) = true := by rw [bne_iff_ne]; exact hc
      have HF := Lib.hid hG
      clear hG hc
      obtain ⟨a0, a1, a2, a3, a4, a5, a6, a7, a8, a9⟩ := HK2.out.cells10
      obtain ⟨g0, g1, g2, g3, g4, g5, g6, g7, g8, g9⟩ := HK2.out.free10
      go_wp2
      obtain ⟨z0, z1, z2, z3, z4, z5, z6, z7, z8, z9⟩ := (HK2.out.set10 (.string ⟨#[]⟩) (.string ⟨#[]⟩) (.int .i64 0) (.slice none 0 0) (.int .i64 0) (.string ⟨#[]⟩) (.int .i64 0) (.slice none 0 0) (.slice none 0 0) (.slice none 0 0)).cells10
      unfold ten at z0 z1 z2 z3 z4 z5 z6 z7 z8 z9
      refine bodyPost_ret (v := .tuple #[.agg #[.string ⟨#[]⟩, .string ⟨#[]⟩, .int .i64 0, .slice none 0 0, .int .i64 0, .string ⟨#[]⟩, .int .i64 0, .slice none 0 0, .slice none 0 0, .slice none 0 0], .int .i64 0, .int .i64 code]) (by simp [results, Tryz.results13, go_sem, z0, z1, z2, z3, z4, z5, z6, z7, z8, z9]) rfl ?_
      exact RetMsp.bad (below_ten HL2.out (Nat.le_refl _) _ _ _ _ _ _ _ _ _ _) HF.out
    · cases ended with
      | false =>
        have HF := Lib.hid hG
        clear hG
        obtain ⟨a0, a1, a2, a3, a4, a5, a6, a7, a8, a9⟩ := HK2.out.cells10
        obtain ⟨g0, g1, g2, g3, g4, g5, g6, g7, g8, g9⟩ := HK2.out.free10
        go_wp2
        obtain ⟨z0, z1, z2, z3, z4, z5, z6, z7, z8, z9⟩ := (HK2.out.set10 (.string ⟨#[]⟩) (.string ⟨#[]⟩) (.int .i64 0) (.slice none 0 0) (.int .i64 0) (.string ⟨#[]⟩) (.int .i64 0) (.slice none 0 0) (.slice none 0 0) (.slice none 0 0)).cells10
        unfold ten at z0 z1 z2 z3 z4 z5 z6 z7 z8 z9
        refine bodyPost_ret (v := .tuple #[.agg #[.string ⟨#[]⟩, .string ⟨#[]⟩, .int .i64 0, .slice none 0 0, .int .i64 0, .string ⟨#[]⟩, .int .i64 0, .slice none 0 0, .slice none 0 0, .slice none 0 0], .int .i64 0, .int .i64 0]) (by simp [results, Tryz.results13, go_sem, z0, z1, z2, z3, z4, z5, z6, z7, z8, z9]) rfl ?_
        exact RetMsp.bad (below_ten HL2.out (Nat.le_refl _) _ _ _ _ _ _ _ _ _ _) HF.out
      | true =>
        have HF := Lib.hid hG
        clear hG
        obtain ⟨a0, a1, a2, a3, a4, a5, a6, a7, a8, a9⟩ := HK2.out.cells10
        obtain ⟨g0, g1, g2, g3, g4, g5, g6, g7, g8, g9⟩ := HK2.out.free10
        go_wp2
        obtain ⟨z0, z1, z2, z3, z4, z5, z6, z7, z8, z9⟩ := (HK2.out.set10 (.string ⟨#[]⟩) (.string ⟨#[]⟩) (.int .i64 0) (.slice none 0 0) (.int .i64 0) (.string ⟨#[]⟩) (.int .i64 0) (.slice none 0 0) (.slice none 0 0) (.slice none 0 0)).cells10
        unfold ten at z0 z1 z2 z3 z4 z5 z6 z7 z8 z9
        refine bodyPost_ret (v := .tuple #[.agg #[.string ⟨#[]⟩, .string ⟨#[]⟩, .int .i64 0, .slice none 0 0, .int .i64 0, .string ⟨#[]⟩, .int .i64 0, .slice none 0 0, .slice none 0 0, .slice none 0 0], .int .i64 0, .int .i64 80]) (by simp [results, Tryz.results13, go_sem, z0, z1, z2, z3, z4, z5, z6, z7, z8, z9]) rfl ?_
        exact RetMsp.bad (below_ten HL2.out (Nat.le_refl _) _ _ _ _ _ _ _ _ _ _) HF.out
  · obtain ⟨s, r, v, fs, bd, bf, bn, be⟩ := G
    replace hg0 : be = 0 := hg0
    replace hg1 : bn ≠ 0 := hg1
    subst hg0
    have hnb : (bn == 0) = false := beq_eq_false_iff_ne.2 hg1
    have HK2 := Lib.hid ((HK0.out.below hb1).alloc (.cells #[.string ⟨#[]⟩, .string ⟨#[]⟩, .int .i64 0, .slice none 0 0, .int .i64 s, .string r, .int .i64 v, .slice A1 fs.length c1, .slice D bd.length d, .slice T bf.length k] 29))
    have HL2 := Lib.hid ((below_then HB0.out.size HB0.out hb1).alloc (by have := HB0.out.size; have := hb1.size; omega) (.cells #[.string ⟨#[]⟩, .string ⟨#[]⟩, .int .i64 0, .slice none 0 0, .int .i64 s, .string r, .int .i64 v, .slice A1 fs.length c1, .slice D bd.length d, .slice T bf.length k] 29))
    have HO2 := Lib.hid (Blk.new w1 #[.string ⟨#[]⟩, .string ⟨#[]⟩, .int .i64 0, .slice none 0 0, .int .i64 s, .string r, .int .i64 v, .slice A1 fs.length c1, .slice D bd.length d, .slice T bf.length k] 29)
    have HR2 := Lib.hid ((hr1.mono (base' := w.heap.size + 1) (by have := HZ0.out; omega)).alloc (.cells #[.string ⟨#[]⟩, .string ⟨#[]⟩, .int .i64 0, .slice none 0 0, .int .i64 s, .string r, .int .i64 v, .slice A1 fs.length c1, .slice D bd.length d, .slice T bf.length k] 29))
    have HD2 := Lib.hid ((hd1.mono (base' := w.heap.size + 1) (by have := HZ0.out; omega)).alloc (.cells #[.string ⟨#[]⟩, .string ⟨#[]⟩, .int .i64 0, .slice none 0 0, .int .i64 s, .string r, .int .i64 v, .slice A1 fs.length c1, .slice D bd.length d, .slice T bf.length k] 29))
    have HT2 := Lib.hid ((ht1.mono (base' := w.heap.size + 1) (by have := HZ0.out; omega)).alloc (.cells #[.string ⟨#[]⟩, .string ⟨#[]⟩, .int .i64 0, .slice none 0 0, .int .i64 s, .string r, .int .i64 v, .slice A1 fs.length c1, .slice D bd.length d, .slice T bf.length k] 29))
    clear hb1 HK0 HB0 HI hr1 hd1 ht1
    go_upto_region 2 with fail
    generalize w1.alloc (.cells #[.string ⟨#[]⟩, .string ⟨#[]⟩, .int .i64 0, .slice none 0 0, .int .i64 s, .string r, .int .i64 v, .slice A1 fs.length c1, .slice D bd.length d, .slice T bf.length k] 29) = w2 at *
    obtain ⟨b0, b1, b2, b3, b4, b5, b6, b7, b8, b9⟩ := HO2.out.cells10
    obtain ⟨a0, a1, a2, a3, a4, a5, a6, a7, a8, a9⟩ := HK2.out.cells10
    obtain ⟨g0, g1, g2, g3, g4, g5, g6, g7, g8, g9⟩ := HK2.out.free10
    go_wp2
    obtain ⟨z0, z1, z2, z3, z4, z5, z6, z7, z8, z9⟩ := (HK2.out.set10 (.string ⟨#[]⟩) (.string ⟨#[]⟩) (.int .i64 0) (.slice none 0 0) (.int .i64 s) (.string r) (.int .i64 v) (.slice A1 fs.length c1) (.slice D bd.length d) (.slice T bf.length k)).cells10
    unfold ten at z0 z1 z2 z3 z4 z5 z6 z7 z8 z9
    refine bodyPost_ret (v := .tuple #[.agg #[.string ⟨#[]⟩, .string ⟨#[]⟩, .int .i64 0, .slice none 0 0, .int .i64 s, .string r, .int .i64 v, .slice A1 fs.length c1, .slice D bd.length d, .slice T bf.length k], .int .i64 bn, .int .i64 0]) (by simp [results, Tryz.results13, go_sem, z0, z1, z2, z3, z4, z5, z6, z7, z8, z9]) rfl ?_
    exact ⟨A1, c1, D, d, T, k, rfl, (HR2.out.farT10 HK2.out neM _ _ _ _ _ _ _ _ _ _).mono (by omega), (HD2.out.far10 (by omega) _ _ _ _ _ _ _ _ _ _).mono (by omega), (HT2.out.farT10 HK2.out neM _ _ _ _ _ _ _ _ _ _).mono (by omega), below_ten HL2.out (Nat.le_refl _) _ _ _ _ _ _ _ _ _ _⟩
end Go.Proofs.YteehjkfmlcfffaaGreatDoor

namespace Go.Proofs.YteehjkfmlcfffaaGreatDoor
open Go.RowKit

set_option maxHeartbeats 4000000 in
set_option maxRecDepth 100000 in
theorem refMessageR_any (A : Option Addr) (n c : Nat) (bs : List UInt8) (method : ByteArray) (ended : Bool) (w : World) (hnm : n ≤ 268435456) (hnc : n ≤ c) (hx : Rd w A n 1 (bcells bs)) :
    Calls Tryz.prog 15 #[.slice A n c, .string method, .bool ended] w (RetMsp w (M.response bs method ended)) := by
  have hll := rd_len hx
  subst hll
  have HQ := Lib.hid (fun (u : World) (hu : Below w.heap.size w u) => refHResponse_any A bs.length c bs u (by omega) hnc (hx.below hu))
  have hfb := (P.response_bulk bs).1
  have hw := P.resp_ways bs
  obtain ⟨G, hG⟩ : ∃ G, M.response bs method ended = G := ⟨_, rfl⟩
  have HG : Hid (G = if (P.response bs).e ≠ 0 then .bad (P.response bs).e else if (P.response bs).n = 0 then .bad (M.cutE ended) else M.framedR bs (P.response bs) (F.frameR (P.response bs).s (P.response bs).v (P.response bs).fs method) ended) := Lib.hid (by rw [← hG]; rfl)
  rw [hG]
  obtain ⟨Q, hQ⟩ : ∃ Q, P.response bs = Q := ⟨_, rfl⟩
  rw [hQ] at HQ hfb hw HG
  obtain ⟨s, r, v, fs, N, E⟩ := Q
  have hfb2 : F.bulk fs ≤ 1073741824 := by
    have : F.bulk fs ≤ bs.length := hfb
    omega
  replace hw : (E = 0 ∧ N = 0) ∨ (E ≠ 0 ∧ N = 0) ∨ (E = 0 ∧ ∃ k : Nat, 0 < k ∧ k ≤ bs.length ∧ N = (k : Int)) := by
    exact hw
  replace HG : Hid (G = if E ≠ 0 then .bad E else if N = 0 then .bad (M.cutE ended) else M.framedR bs ⟨s, r, v, fs, N, E⟩ (F.frameR s v fs method) ended) := HG
  have hlb := F.len_le_bulk fs
  have HFR := Lib.hid (fun (A1 : Option Addr) (c1 : Nat) (u : World) (hr : Rd u A1 fs.length 2 (fcells fs)) => refOfResponse_any s v r method A1 c1 fs u hfb2 hr)
  have hkd := F.frameR_kinds s v fs method
  have hkr := M.frameR_range s v fs method
  obtain ⟨FR, hFR⟩ : ∃ FR, F.frameR s v fs method = FR := ⟨_, rfl⟩
  rw [hFR] at HFR HG hkd hkr
  obtain ⟨fk, fn, fe⟩ := FR
  replace hkd : fk = 0 ∨ fk = 1 ∨ fk = 2 ∨ fk = 3 := hkd
  obtain ⟨hn0, hn1, hzk⟩ : 0 ≤ fn ∧ fn ≤ 65536 ∧ (fk ≠ 1 → fn = 0) := hkr
  have HFI := Lib.hid (fun (k : Nat) (h1 : 0 < k) (h2 : k ≤ bs.length) (h3 : fk ≠ 3) (u : World) (hu : Below w.heap.size w u) =>
    refBody_any A c bs k fk fn u hnm hnc h1 h2 (by omega) hn0 hn1 hzk (hx.below hu))
  have HCL := Lib.hid (fun (k : Nat) (h1 : 0 < k) (h2 : k ≤ bs.length) => show ∃ (b o : Nat) (a : Addr), A = some ⟨b, o, none⟩ ∧ (if c = k then some (⟨b, o, none⟩ : Addr) else some ⟨b, o + k, none⟩) = some a ∧ ∀ (u : World) (hu : Below w.heap.size w u), Calls Tryz.prog 21 #[.slice (some a) (bs.length - k) (c - k)] u (RetC u (bs.drop k)) from by
    obtain ⟨b, o, rfl, _, _⟩ := hx.2 (by omega)
    obtain ⟨a, ha, _⟩ := addA_some (b := b) (o := o) (c := c) (k := k)
    refine ⟨b, o, a, rfl, by rw [← ha, addA_ite], fun u hu => ?_⟩
    have := copyBytes_any (some a) (c - k) (bs.drop k) u (by rw [List.length_drop]; omega) (by rw [← ha, List.length_drop]; exact (hx.below hu).fromA hnc h2)
    rwa [List.length_drop] at this)
  have HK0 := Lib.hid (Blk.new w #[.string ⟨#[]⟩, .string ⟨#[]⟩, .int .i64 0, .slice none 0 0, .int .i64 0, .string ⟨#[]⟩, .int .i64 0, .slice none 0 0, .slice none 0 0, .slice none 0 0] 29)
  have HB0 := Lib.hid ((Below.refl w.heap.size w).alloc (Nat.le_refl _) (.cells #[.string ⟨#[]⟩, .string ⟨#[]⟩, .int .i64 0, .slice none 0 0, .int .i64 0, .string ⟨#[]⟩, .int .i64 0, .slice none 0 0, .slice none 0 0, .slice none 0 0] 29))
  clear hx hQ hG hFR hfb hzk
  go_enter Tryz.func15, Tryz.ntmps15
  go_upto_if 17 with fail
  generalize w.alloc (.cells #[.string ⟨#[]⟩, .string ⟨#[]⟩, .int .i64 0, .slice none 0 0, .int .i64 0, .string ⟨#[]⟩, .int .i64 0, .slice none 0 0, .slice none 0 0, .slice none 0 0] 29) = w0 at *
  go_cut [9] (fun s9 wx => s9 = .int .i64 (M.cutE ended) ∧ wx = w0)
  case first =>
    clear HG HFR HFI HCL hkd hw
    cases ended with
    | false =>
      go_wp2
      go_meet
      exact ⟨rfl, rfl⟩
    | true =>
      go_wp2
      go_meet
      exact ⟨rfl, rfl⟩
  case rest =>
  obtain ⟨rfl, rfl⟩ := hcut
  obtain ⟨CE, hCE⟩ : ∃ CE, M.cutE ended = CE := ⟨_, rfl⟩
  have HCE := Lib.hid hCE
  rw [hCE] at HG ⊢
  clear hCE
  go_wp2_with fail
  refine (HQ.out _ HB0.out).mono ?_
  rintro e w1 ⟨A1, c1, rfl, hr1, hb1⟩
  have HK2 := Lib.hid ((HK0.out.below hb1).alloc (.cells #[.int .i64 s, .string r, .int .i64 v, .slice A1 fs.length c1] 27))
  have HL2 := Lib.hid ((below_then HB0.out.size HB0.out hb1).alloc (by have := HB0.out.size; have := hb1.size; omega) (.cells #[.int .i64 s, .string r, .int .i64 v, .slice A1 fs.length c1] 27))
  have HO2 := Lib.hid (Blk.new w1 #[.int .i64 s, .string r, .int .i64 v, .slice A1 fs.length c1] 27)
  have HR2 := Lib.hid ((hr1.mono (base' := w.heap.size + 1) (by have := HK0.out.lt; omega)).alloc (.cells #[.int .i64 s, .string r, .int .i64 v, .slice A1 fs.length c1] 27))
  have hne : w.heap.size < w1.heap.size := by have := HK0.out.lt; have := hb1.size; omega
  clear hb1 hr1 HQ HK0 HB0
  go_upto_region 5 with fail
  generalize w1.alloc (.cells #[.int .i64 s, .string r, .int .i64 v, .slice A1 fs.length c1] 27) = w2 at *
  generalize w1.heap.size = b10 at *
  rcases hw with ⟨rfl, rfl⟩ | ⟨hE, rfl⟩ | ⟨rfl, k, hk0, hkn, rfl⟩
  · have HF : Hid (G = .bad CE) := Lib.hid (HG.out.trans ((if_neg (fun h => h rfl)).trans (if_pos rfl)))
    clear HG HFR HFI hkd HCL HR2
    obtain ⟨a0, a1, a2, a3, a4, a5, a6, a7, a8, a9⟩ := HK2.out.cells10
    obtain ⟨g0, g1, g2, g3, g4, g5, g6, g7, g8, g9⟩ := HK2.out.free10
    go_wp2
    obtain ⟨z0, z1, z2, z3, z4, z5, z6, z7, z8, z9⟩ := (HK2.out.set10 (.string ⟨#[]⟩) (.string ⟨#[]⟩) (.int .i64 0) (.slice none 0 0) (.int .i64 0) (.string ⟨#[]⟩) (.int .i64 0) (.slice none 0 0) (.slice none 0 0) (.slice none 0 0)).cells10
    unfold ten at z0 z1 z2 z3 z4 z5 z6 z7 z8 z9
    refine bodyPost_ret (v := .tuple #[.agg #[.string ⟨#[]⟩, .string ⟨#[]⟩, .int .i64 0, .slice none 0 0, .int .i64 0, .string ⟨#[]⟩, .int .i64 0, .slice none 0 0, .slice none 0 0, .slice none 0 0], .int .i64 0, .int .i64 CE]) (by simp [results, Tryz.results15, go_sem, z0, z1, z2, z3, z4, z5, z6, z7, z8, z9]) rfl ?_
    exact RetMsp.bad (below_ten HL2.out (Nat.le_refl _) _ _ _ _ _ _ _ _ _ _) HF.out
  · have HF := Lib.hid (HG.out.trans (if_pos hE))
    have hEb : (E != 0) = true := by rw [bne_iff_ne]; exact hE
    clear HG HFR HFI hkd HCL HR2
    obtain ⟨a0, a1, a2, a3, a4, a5, a6, a7, a8, a9⟩ := HK2.out.cells10
    obtain ⟨g0, g1, g2, g3, g4, g5, g6, g7, g8, g9⟩ := HK2.out.free10
    go_wp2
    obtain ⟨z0, z1, z2, z3, z4, z5, z6, z7, z8, z9⟩ := (HK2.out.set10 (.string ⟨#[]⟩) (.string ⟨#[]⟩) (.int .i64 0) (.slice none 0 0) (.int .i64 0) (.string ⟨#[]⟩) (.int .i64 0) (.slice none 0 0) (.slice none 0 0) (.slice none 0 0)).cells10
    unfold ten at z0 z1 z2 z3 z4 z5 z6 z7 z8 z9
    refine bodyPost_ret (v := .tuple #[.agg #[.string ⟨#[]⟩, .string ⟨#[]⟩, .int .i64 0, .slice none 0 0, .int .i64 0, .string ⟨#[]⟩, .int .i64 0, .slice none 0 0, .slice none 0 0, .slice none 0 0], .int .i64 0, .int .i64 E]) (by simp [results, Tryz.results15, go_sem, z0, z1, z2, z3, z4, z5, z6, z7, z8, z9]) rfl ?_
    exact RetMsp.bad (below_ten HL2.out (Nat.le_refl _) _ _ _ _ _ _ _ _ _ _) HF.out
  · have hNi : ¬ (k : Int) = 0 := by omega
    have hNb : ((k : Int) == 0) = false := beq_eq_false_iff_ne.2 hNi
    have HG2 : Hid (G = M.framedR bs ⟨s, r, v, fs, (k : Int), 0⟩ ⟨fk, fn, fe⟩ ended) := Lib.hid (HG.out.trans ((if_neg (fun h => h rfl)).trans (if_neg hNi)))
    clear HG
    obtain ⟨q0, q1, q2, q3⟩ := HO2.out.cells4
    go_wp2_with fail
    refine (HFR.out A1 c1 _ HR2.out.rd).mono ?_
    rintro e w3 ⟨rfl, hb3⟩
    have HK3 := Lib.hid ((HK2.out.below hb3).alloc (.cells #[.int .i64 fk, .int .i64 fn] 130))
    have HL3 := Lib.hid ((below_then HL2.out.size HL2.out hb3).alloc (by have := HL2.out.size; have := hb3.size; omega) (.cells #[.int .i64 fk, .int .i64 fn] 130))
    have HO3 := Lib.hid ((HO2.out.below hb3).alloc (.cells #[.int .i64 fk, .int .i64 fn] 130))
    have HF3 := Lib.hid (Blk.new w3 #[.int .i64 fk, .int .i64 fn] 130)
    have HR3 := Lib.hid ((HR2.out.below hb3).alloc (.cells #[.int .i64 fk, .int .i64 fn] 130))
    clear hb3 HK2 HL2 HR2 HFR HO2 q0 q1 q2 q3
    go_upto_region 10 with fail
    generalize w3.alloc (.cells #[.int .i64 fk, .int .i64 fn] 130) = w4 at *
    generalize w3.heap.size = bf at *
    by_cases hfe : fe = 0
    rotate_left
    · have HF : Hid (G = .bad fe) := Lib.hid (HG2.out.trans (if_pos hfe))
      have hfb : (fe != 0) = true := by rw [bne_iff_ne]; exact hfe
      clear HG2 HFI hkd HCL HR3 HF3
      obtain ⟨a0, a1, a2, a3, a4, a5, a6, a7, a8, a9⟩ := HK3.out.cells10
      obtain ⟨g0, g1, g2, g3, g4, g5, g6, g7, g8, g9⟩ := HK3.out.free10
      go_wp2
      obtain ⟨z0, z1, z2, z3, z4, z5, z6, z7, z8, z9⟩ := (HK3.out.set10 (.string ⟨#[]⟩) (.string ⟨#[]⟩) (.int .i64 0) (.slice none 0 0) (.int .i64 0) (.string ⟨#[]⟩) (.int .i64 0) (.slice none 0 0) (.slice none 0 0) (.slice none 0 0)).cells10
      unfold ten at z0 z1 z2 z3 z4 z5 z6 z7 z8 z9
      refine bodyPost_ret (v := .tuple #[.agg #[.string ⟨#[]⟩, .string ⟨#[]⟩, .int .i64 0, .slice none 0 0, .int .i64 0, .string ⟨#[]⟩, .int .i64 0, .slice none 0 0, .slice none 0 0, .slice none 0 0], .int .i64 0, .int .i64 fe]) (by simp [results, Tryz.results15, go_sem, z0, z1, z2, z3, z4, z5, z6, z7, z8, z9]) rfl ?_
      exact RetMsp.bad (below_ten HL3.out (Nat.le_refl _) _ _ _ _ _ _ _ _ _ _) HF.out
    subst hfe
    obtain ⟨y0, y1⟩ := HF3.out.cells2
    by_cases hk3 : fk = 3
    · subst hk3
      have HG3 : Hid (G = M.closed bs ⟨s, r, v, fs, (k : Int), 0⟩ ended) := Lib.hid (HG2.out.trans ((if_neg (fun h => h rfl)).trans (if_pos rfl)))
      clear HG2 HFI hkd
      by_cases hbig : (65536 : Int) < (bs.length : Int) - (k : Int)
      · have HF : Hid (G = .bad 71) := Lib.hid (HG3.out.trans (if_pos hbig))
        clear HG3 HCL HR3
        obtain ⟨a0, a1, a2, a3, a4, a5, a6, a7, a8, a9⟩ := HK3.out.cells10
        obtain ⟨g0, g1, g2, g3, g4, g5, g6, g7, g8, g9⟩ := HK3.out.free10
        go_wp2
        obtain ⟨z0, z1, z2, z3, z4, z5, z6, z7, z8, z9⟩ := (HK3.out.set10 (.string ⟨#[]⟩) (.string ⟨#[]⟩) (.int .i64 0) (.slice none 0 0) (.int .i64 0) (.string ⟨#[]⟩) (.int .i64 0) (.slice none 0 0) (.slice none 0 0) (.slice none 0 0)).cells10
        unfold ten at z0 z1 z2 z3 z4 z5 z6 z7 z8 z9
        refine bodyPost_ret (v := .tuple #[.agg #[.string ⟨#[]⟩, .string ⟨#[]⟩, .int .i64 0, .slice none 0 0, .int .i64 0, .string ⟨#[]⟩, .int .i64 0, .slice none 0 0, .slice none 0 0, .slice none 0 0], .int .i64 0, .int .i64 71]) (by simp [results, Tryz.results15, go_sem, z0, z1, z2, z3, z4, z5, z6, z7, z8, z9]) rfl ?_
        exact RetMsp.bad (below_ten HL3.out (Nat.le_refl _) _ _ _ _ _ _ _ _ _ _) HF.out
      · cases ended with
        | false =>
          have HF : Hid (G = .bad 0) := Lib.hid (HG3.out.trans ((if_neg hbig).trans (if_neg (by decide))))
          clear HG3 HCL HR3
          obtain ⟨a0, a1, a2, a3, a4, a5, a6, a7, a8, a9⟩ := HK3.out.cells10
          obtain ⟨g0, g1, g2, g3, g4, g5, g6, g7, g8, g9⟩ := HK3.out.free10
          go_wp2
          obtain ⟨z0, z1, z2, z3, z4, z5, z6, z7, z8, z9⟩ := (HK3.out.set10 (.string ⟨#[]⟩) (.string ⟨#[]⟩) (.int .i64 0) (.slice none 0 0) (.int .i64 0) (.string ⟨#[]⟩) (.int .i64 0) (.slice none 0 0) (.slice none 0 0) (.slice none 0 0)).cells10
          unfold ten at z0 z1 z2 z3 z4 z5 z6 z7 z8 z9
          refine bodyPost_ret (v := .tuple #[.agg #[.string ⟨#[]⟩, .string ⟨#[]⟩, .int .i64 0, .slice none 0 0, .int .i64 0, .string ⟨#[]⟩, .int .i64 0, .slice none 0 0, .slice none 0 0, .slice none 0 0], .int .i64 0, .int .i64 0]) (by simp [results, Tryz.results15, go_sem, z0, z1, z2, z3, z4, z5, z6, z7, z8, z9]) rfl ?_
          exact RetMsp.bad (below_ten HL3.out (Nat.le_refl _) _ _ _ _ _ _ _ _ _ _) HF.out
        | true =>
          have HF : Hid (G = ⟨s, r, v, fs, bs.drop k, [], bs.length, 0⟩) := Lib.hid (HG3.out.trans ((if_neg hbig).trans (if_pos rfl)))
          obtain ⟨b, o, a, rfl, hAI, hcl⟩ := HCL.out k hk0 hkn
          have HC := Lib.hid hcl
          clear HG3 HCL hcl
          have hkc : (k : Int) ≤ (c : Int) := by omega
          have hkl : (k : Int) ≤ (bs.length : Int) := by omega
          have hdl : (bs.drop k).length = bs.length - k := List.length_drop
          go_upto_region 17 with fail
          have hS0 : (fun u => Below w.heap.size w u ∧ (∃ x0 x1 x2 x3 x4 x5 x6 x7 x8 x9, Blk u w.heap.size #[x0, x1, x2, x3, x4, x5, x6, x7, x8, x9] 29) ∧ Blk u b10 #[.int .i64 s, .string r, .int .i64 v, .slice A1 fs.length c1] 27 ∧ Row u (w.heap.size + 1) 148 2 A1 fs.length c1 (fcells fs)) w4.drew := ⟨HL3.out.drew, ⟨_, _, _, _, _, _, _, _, _, _, HK3.out.drew⟩, HO3.out.drew, HR3.out.drew⟩
          clear HK3 HL3 HO3 HR3 HF3 y0 y1
          refine wp_region_noPanic ?_
          refine HT.begin (n := 9) (S := (fun u => Below w.heap.size w u ∧ (∃ x0 x1 x2 x3 x4 x5 x6 x7 x8 x9, Blk u w.heap.size #[x0, x1, x2, x3, x4, x5, x6, x7, x8, x9] 29) ∧ Blk u b10 #[.int .i64 s, .string r, .int .i64 v, .slice A1 fs.length c1] 27 ∧ Row u (w.heap.size + 1) 148 2 A1 fs.length c1 (fcells fs))) (by kernel_rfl) hS0 ?_
          refine HT.take 0 (.agg #[.int .i64 s, .string r, .int .i64 v, .slice A1 fs.length c1]) rfl (by kernel_rfl) (fun _ _ _ h => h) (Or.inl ⟨by rfl, ?_⟩) (?_ : HT _ _ _ _ _ _ _ ⟨#[_, _, _, _, _, _, _, _, _, _, _, _, _, _, _, _, _, _, _, _, _, _, _, _, _, _, _, _, _, _, _, _, _, _, _, _, _, _, _, _, _, _, _, _, _, _, _, _, _, _, _, _, _, _, .agg #[.int .i64 s, .string r, .int .i64 v, .slice A1 fs.length c1], _, _, _, _, _, _, _, _, _, _, _, _, _, _, _, _, _, _, _, _, _, _, _, _, _, _, _, _, _], []⟩ _)
          · intro u hu
            obtain ⟨q0, q1, q2, q3⟩ := hu.2.2.1.cells4
            go_simp
          refine HT.take 1 (.slice (some ⟨b, o, none⟩) bs.length c) rfl (by kernel_rfl) (fun _ _ _ h => h) (Or.inl ⟨by rfl, ?_⟩) (?_ : HT _ _ _ _ _ _ _ ⟨#[_, _, _, _, _, _, _, _, _, _, _, _, _, _, _, _, _, _, _, _, _, _, _, _, _, _, _, _, _, _, _, _, _, _, _, _, _, _, _, _, _, _, _, _, _, _, _, _, _, _, _, _, _, _, .agg #[.int .i64 s, .string r, .int .i64 v, .slice A1 fs.length c1], .slice (some ⟨b, o, none⟩) bs.length c, _, _, _, _, _, _, _, _, _, _, _, _, _, _, _, _, _, _, _, _, _, _, _, _, _, _, _, _], []⟩ _)
          · intro u hu
            go_simp
          refine HT.take 2 (.int .i64 k) rfl (by kernel_rfl) (fun _ _ _ h => h) (Or.inl ⟨by rfl, ?_⟩) (?_ : HT _ _ _ _ _ _ _ ⟨#[_, _, _, _, _, _, _, _, _, _, _, _, _, _, _, _, _, _, _, _, _, _, _, _, _, _, _, _, _, _, _, _, _, _, _, _, _, _, _, _, _, _, _, _, _, _, _, _, _, _, _, _, _, _, .agg #[.int .i64 s, .string r, .int .i64 v, .slice A1 fs.length c1], .slice (some ⟨b, o, none⟩) bs.length c, .int .i64 k, _, _, _, _, _, _, _, _, _, _, _, _, _, _, _, _, _, _, _, _, _, _, _, _, _, _, _], []⟩ _)
          · intro u hu
            go_simp
          refine HT.take 3 (.slice (some a) (bs.length - k) (c - k)) rfl (by kernel_rfl) (fun _ _ _ h => h) (Or.inl ⟨by rfl, ?_⟩) (?_ : HT _ _ _ _ _ _ _ ⟨#[_, _, _, _, _, _, _, _, _, _, _, _, _, _, _, _, _, _, _, _, _, _, _, _, _, _, _, _, _, _, _, _, _, _, _, _, _, _, _, _, _, _, _, _, _, _, _, _, _, _, _, _, _, _, .agg #[.int .i64 s, .string r, .int .i64 v, .slice A1 fs.length c1], .slice (some ⟨b, o, none⟩) bs.length c, .int .i64 k, .slice (some a) (bs.length - k) (c - k), _, _, _, _, _, _, _, _, _, _, _, _, _, _, _, _, _, _, _, _, _, _, _, _, _, _], []⟩ _)
          · intro u hu
            go_simp
          refine HT.take 6 (.slice (some ⟨b, o, none⟩) bs.length c) rfl (by kernel_rfl) (fun _ _ _ h => h) (Or.inl ⟨by rfl, ?_⟩) (?_ : HT _ _ _ _ _ _ _ ⟨#[_, _, _, _, _, _, _, _, _, _, _, _, _, _, _, _, _, _, _, _, _, _, _, _, _, _, _, _, _, _, _, _, _, _, _, _, _, _, _, _, _, _, _, _, _, _, _, _, _, _, _, _, _, _, .agg #[.int .i64 s, .string r, .int .i64 v, .slice A1 fs.length c1], .slice (some ⟨b, o, none⟩) bs.length c, .int .i64 k, .slice (some a) (bs.length - k) (c - k), _, _, .slice (some ⟨b, o, none⟩) bs.length c, _, _, _, _, _, _, _, _, _, _, _, _, _, _, _, _, _, _, _, _, _, _, _], []⟩ _)
          · intro u hu
            go_simp
          refine HT.take 7 (.int .i64 bs.length) rfl (by kernel_rfl) (fun _ _ _ h => h) (Or.inl ⟨by rfl, ?_⟩) (?_ : HT _ _ _ _ _ _ _ ⟨#[_, _, _, _, _, _, _, _, _, _, _, _, _, _, _, _, _, _, _, _, _, _, _, _, _, _, _, _, _, _, _, _, _, _, _, _, _, _, _, _, _, _, _, _, _, _, _, _, _, _, _, _, _, _, .agg #[.int .i64 s, .string r, .int .i64 v, .slice A1 fs.length c1], .slice (some ⟨b, o, none⟩) bs.length c, .int .i64 k, .slice (some a) (bs.length - k) (c - k), _, _, .slice (some ⟨b, o, none⟩) bs.length c, .int .i64 bs.length, _, _, _, _, _, _, _, _, _, _, _, _, _, _, _, _, _, _, _, _, _, _], []⟩ _)
          · intro u hu
            go_simp
          refine HT.step 4 rfl (by kernel_rfl) (fun hS K hK => ?_)
          go_simp
          refine (HC.out _ hS.1).mono ?_
          rintro e w5 ⟨X, d, rfl, hrx, hb5⟩
          rw [hdl] at hrx ⊢
          have HX5 := Lib.hid (hrx.mono (base' := w.heap.size + 1) (by obtain ⟨_, ⟨_, _, _, _, _, _, _, _, _, _, h⟩, _⟩ := hS; exact h.lt))
          refine hK.out _ _ ⟨below_then hS.1.size hS.1 hb5, (by obtain ⟨_, ⟨_, _, _, _, _, _, _, _, _, _, h⟩, _⟩ := hS; exact ⟨_, _, _, _, _, _, _, _, _, _, h.below hb5⟩), hS.2.2.1.below hb5, hS.2.2.2.below hb5⟩ ?_
          clear hK hS hS0 hrx hb5
          refine HT.take 5 (.agg #[.string ⟨#[]⟩, .string ⟨#[]⟩, .int .i64 0, .slice none 0 0, .int .i64 s, .string r, .int .i64 v, .slice A1 fs.length c1, .slice X (bs.length - k) d, .slice none 0 0]) rfl (by kernel_rfl) (fun _ _ _ h => h) (Or.inl ⟨by rfl, ?_⟩) (?_ : HT _ _ _ _ _ _ _ ⟨#[_, _, _, _, _, _, _, _, _, _, _, _, _, _, _, _, _, _, _, _, _, _, _, _, _, _, _, _, _, _, _, _, _, _, _, _, _, _, _, _, _, _, _, _, _, _, _, _, _, _, _, _, _, _, .agg #[.int .i64 s, .string r, .int .i64 v, .slice A1 fs.length c1], .slice (some ⟨b, o, none⟩) bs.length c, .int .i64 k, .slice (some a) (bs.length - k) (c - k), .slice X (bs.length - k) d, .agg #[.string ⟨#[]⟩, .string ⟨#[]⟩, .int .i64 0, .slice none 0 0, .int .i64 s, .string r, .int .i64 v, .slice A1 fs.length c1, .slice X (bs.length - k) d, .slice none 0 0], .slice (some ⟨b, o, none⟩) bs.length c, .int .i64 bs.length, _, _, _, _, _, _, _, _, _, _, _, _, _, _, _, _, _, _, _, _, _, _], []⟩ _)
          · intro u hu
            go_simp
          refine HT.step 8 rfl (by kernel_rfl) (fun hS K hK => ?_)
          go_simp
          obtain ⟨hs1, ⟨x0, x1, x2, x3, x4, x5, x6, x7, x8, x9, hs2⟩, hs3, hs4⟩ := hS
          obtain ⟨a0, a1, a2, a3, a4, a5, a6, a7, a8, a9⟩ := hs2.cells10
          obtain ⟨g0, g1, g2, g3, g4, g5, g6, g7, g8, g9⟩ := hs2.free10
          go_simp
          refine hK.out _ _ ⟨below_ten hs1 (Nat.le_refl _) (.string ⟨#[]⟩) (.string ⟨#[]⟩) (.int .i64 0) (.slice none 0 0) (.int .i64 s) (.string r) (.int .i64 v) (.slice A1 fs.length c1) (.slice X (bs.length - k) d) (.slice none 0 0), ⟨_, _, _, _, _, _, _, _, _, _, hs2.set10 (.string ⟨#[]⟩) (.string ⟨#[]⟩) (.int .i64 0) (.slice none 0 0) (.int .i64 s) (.string r) (.int .i64 v) (.slice A1 fs.length c1) (.slice X (bs.length - k) d) (.slice none 0 0)⟩, hs3.far10 (show w.heap.size ≠ b10 by omega) (.string ⟨#[]⟩) (.string ⟨#[]⟩) (.int .i64 0) (.slice none 0 0) (.int .i64 s) (.string r) (.int .i64 v) (.slice A1 fs.length c1) (.slice X (bs.length - k) d) (.slice none 0 0), hs4.farT10 hs2 neM (.string ⟨#[]⟩) (.string ⟨#[]⟩) (.int .i64 0) (.slice none 0 0) (.int .i64 s) (.string r) (.int .i64 v) (.slice A1 fs.length c1) (.slice X (bs.length - k) d) (.slice none 0 0)⟩ ?_
          have HS := Lib.hid hs2
          have HW := Lib.hid hs1
          have HV := Lib.hid hs4
          clear hK a0 a1 a2 a3 a4 a5 a6 a7 a8 a9 g0 g1 g2 g3 g4 g5 g6 g7 g8 g9 hs1 hs3 hs4
          refine HT.tail _ rfl rfl (by kernel_rfl) (fun hS => ?_)
          clear hS
          go_wp2
          refine NoPanic.normal ?_
          go_wp2
          obtain ⟨z0, z1, z2, z3, z4, z5, z6, z7, z8, z9⟩ := (HS.out.set10 (.string ⟨#[]⟩) (.string ⟨#[]⟩) (.int .i64 0) (.slice none 0 0) (.int .i64 s) (.string r) (.int .i64 v) (.slice A1 fs.length c1) (.slice X (bs.length - k) d) (.slice none 0 0)).cells10
          unfold ten at z0 z1 z2 z3 z4 z5 z6 z7 z8 z9
          refine bodyPost_ret (v := .tuple #[.agg #[.string ⟨#[]⟩, .string ⟨#[]⟩, .int .i64 0, .slice none 0 0, .int .i64 s, .string r, .int .i64 v, .slice A1 fs.length c1, .slice X (bs.length - k) d, .slice none 0 0], .int .i64 bs.length, .int .i64 0]) (by simp [results, Tryz.results15, go_sem, z0, z1, z2, z3, z4, z5, z6, z7, z8, z9]) rfl ?_
          rw [HF.out]
          exact ⟨A1, c1, X, d, none, 0, by rw [hdl]; rfl, (HV.out.farT10 HS.out neM _ _ _ _ _ _ _ _ _ _).mono (by omega), by rw [hdl]; exact (HX5.out.far10 (by omega) _ _ _ _ _ _ _ _ _ _).mono (by omega), Row.none_ _ _ _ _, below_ten HW.out (Nat.le_refl _) _ _ _ _ _ _ _ _ _ _⟩
    · have hk3b : (fk == 3) = false := beq_eq_false_iff_ne.2 hk3
      have HG3 : Hid (G = M.wholeR ⟨s, r, v, fs, (k : Int), 0⟩ (M.body bs k fk fn) CE) := Lib.hid ((HG2.out.trans ((if_neg (fun h => h rfl)).trans (if_neg hk3))).trans (by rw [HCE.out]; rfl))
      have HFK := Lib.hid (HFI.out k hk0 hkn hk3 _ HL3.out)
      clear HG2 HCL HFI hk3
      go_wp2_with fail
      refine HFK.out.mono ?_
      rintro e w6 ⟨D, d, T, j, rfl, hd6, ht6, hb6⟩
      have HK6 := Lib.hid (HK3.out.below hb6)
      have HO6 := Lib.hid (HO3.out.below hb6)
      have HR6 := Lib.hid (HR3.out.below hb6)
      have HD6 := Lib.hid (hd6.mono (base' := w.heap.size + 1) (by have := HK3.out.lt; omega))
      have HV6 := Lib.hid (ht6.mono (base' := w.heap.size + 1) (by have := HK3.out.lt; omega))
      have HL6 := Lib.hid (below_then HL3.out.size HL3.out hb6)
      clear hb6 hd6 ht6 HK3 HR3 HF3 HFK HL3 HO3 y0 y1
      obtain ⟨BB, hBB⟩ : ∃ BB, M.body bs k fk fn = BB := ⟨_, rfl⟩
      rw [hBB] at HG3 HD6 HV6 ⊢
      clear hBB
      obtain ⟨bd, bf2, bn, be⟩ := BB
      replace HD6 : Hid (CRow w6 (w.heap.size + 1) D bd.length d bd) := HD6
      replace HV6 : Hid (Row w6 (w.heap.size + 1) 148 2 T bf2.length j (fcells bf2)) := HV6
      replace HG3 : Hid (G = if be ≠ 0 then .bad be else if bn = 0 then .bad CE else ⟨s, r, v, fs, bd, bf2, bn, 0⟩) := HG3
      go_upto_region 19 with fail
      by_cases hbe : be = 0
      · subst hbe
        by_cases hbn : bn = 0
        · have HF : Hid (G = .bad CE) := Lib.hid (HG3.out.trans ((if_neg (fun h => h rfl)).trans (if_pos hbn)))
          subst hbn
          clear HG3 HR6 HD6 HV6 HO6
          obtain ⟨a0, a1, a2, a3, a4, a5, a6, a7, a8, a9⟩ := HK6.out.cells10
          obtain ⟨g0, g1, g2, g3, g4, g5, g6, g7, g8, g9⟩ := HK6.out.free10
          go_wp2
          obtain ⟨z0, z1, z2, z3, z4, z5, z6, z7, z8, z9⟩ := (HK6.out.set10 (.string ⟨#[]⟩) (.string ⟨#[]⟩) (.int .i64 0) (.slice none 0 0) (.int .i64 0) (.string ⟨#[]⟩) (.int .i64 0) (.slice none 0 0) (.slice none 0 0) (.slice none 0 0)).cells10
          unfold ten at z0 z1 z2 z3 z4 z5 z6 z7 z8 z9
          refine bodyPost_ret (v := .tuple #[.agg #[.string ⟨#[]⟩, .string ⟨#[]⟩, .int .i64 0, .slice none 0 0, .int .i64 0, .string ⟨#[]⟩, .int .i64 0, .slice none 0 0, .slice none 0 0, .slice none 0 0], .int .i64 0, .int .i64 CE]) (by simp [results, Tryz.results15, go_sem, z0, z1, z2, z3, z4, z5, z6, z7, z8, z9]) rfl ?_
          exact RetMsp.bad (below_ten HL6.out (Nat.le_refl _) _ _ _ _ _ _ _ _ _ _) HF.out
        · have HF : Hid (G = ⟨s, r, v, fs, bd, bf2, bn, 0⟩) := Lib.hid (HG3.out.trans ((if_neg (fun h => h rfl)).trans (if_neg hbn)))
          have hbb : (bn == 0) = false := beq_eq_false_iff_ne.2 hbn
          clear HG3
          obtain ⟨q0, q1, q2, q3⟩ := HO6.out.cells4
          obtain ⟨a0, a1, a2, a3, a4, a5, a6, a7, a8, a9⟩ := HK6.out.cells10
          obtain ⟨g0, g1, g2, g3, g4, g5, g6, g7, g8, g9⟩ := HK6.out.free10
          go_wp2
          obtain ⟨z0, z1, z2, z3, z4, z5, z6, z7, z8, z9⟩ := (HK6.out.set10 (.string ⟨#[]⟩) (.string ⟨#[]⟩) (.int .i64 0) (.slice none 0 0) (.int .i64 s) (.string r) (.int .i64 v) (.slice A1 fs.length c1) (.slice D bd.length d) (.slice T bf2.length j)).cells10
          unfold ten at z0 z1 z2 z3 z4 z5 z6 z7 z8 z9
          refine bodyPost_ret (v := .tuple #[.agg #[.string ⟨#[]⟩, .string ⟨#[]⟩, .int .i64 0, .slice none 0 0, .int .i64 s, .string r, .int .i64 v, .slice A1 fs.length c1, .slice D bd.length d, .slice T bf2.length j], .int .i64 bn, .int .i64 0]) (by simp [results, Tryz.results15, go_sem, z0, z1, z2, z3, z4, z5, z6, z7, z8, z9]) rfl ?_
          rw [HF.out]
          exact ⟨A1, c1, D, d, T, j, rfl, (HR6.out.farT10 HK6.out neM _ _ _ _ _ _ _ _ _ _).mono (by omega), (HD6.out.far10 (by omega) _ _ _ _ _ _ _ _ _ _).mono (by omega), (HV6.out.farT10 HK6.out neM _ _ _ _ _ _ _ _ _ _).mono (by omega), below_ten HL6.out (Nat.le_refl _) _ _ _ _ _ _ _ _ _ _⟩
      · have HF : Hid (G = .bad be) := Lib.hid (HG3.out.trans (if_pos hbe))
        have hbb : (be != 0) = true := by rw [bne_iff_ne]; exact hbe
        clear HG3 HR6 HD6 HV6 HO6
        obtain ⟨a0, a1, a2, a3, a4, a5, a6, a7, a8, a9⟩ := HK6.out.cells10
        obtain ⟨g0, g1, g2, g3, g4, g5, g6, g7, g8, g9⟩ := HK6.out.free10
        go_wp2
        obtain ⟨z0, z1, z2, z3, z4, z5, z6, z7, z8, z9⟩ := (HK6.out.set10 (.string ⟨#[]⟩) (.string ⟨#[]⟩) (.int .i64 0) (.slice none 0 0) (.int .i64 0) (.string ⟨#[]⟩) (.int .i64 0) (.slice none 0 0) (.slice none 0 0) (.slice none 0 0)).cells10
        unfold ten at z0 z1 z2 z3 z4 z5 z6 z7 z8 z9
        refine bodyPost_ret (v := .tuple #[.agg #[.string ⟨#[]⟩, .string ⟨#[]⟩, .int .i64 0, .slice none 0 0, .int .i64 0, .string ⟨#[]⟩, .int .i64 0, .slice none 0 0, .slice none 0 0, .slice none 0 0], .int .i64 0, .int .i64 be]) (by simp [results, Tryz.results15, go_sem, z0, z1, z2, z3, z4, z5, z6, z7, z8, z9]) rfl ?_
        exact RetMsp.bad (below_ten HL6.out (Nat.le_refl _) _ _ _ _ _ _ _ _ _ _) HF.out
end Go.Proofs.YteehjkfmlcfffaaGreatDoor
