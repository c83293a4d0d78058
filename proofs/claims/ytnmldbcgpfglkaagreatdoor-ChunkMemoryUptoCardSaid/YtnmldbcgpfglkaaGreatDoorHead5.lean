/- The walk of head.Request. Conditions: a row of at most 2^30 bytes; the library's two tables of UTF-8 as its text lays them; internal/bytealg.MaxLen holds some number. -/
import Derived.Test.YtnmldbcgpfglkaaGreatDoorHeadB
import Derived.Test.YtnmldbcgpfglkaaGreatDoorHeadA
import Derived.Test.YtnmldbcgpfglkaaGreatDoorFldA
import Derived.Deep.CutBlock
namespace Go.Proofs.YtnmldbcgpfglkaaGreatDoor
open Go.RowKit

namespace P
theorem skip_step {l : List UInt8} (h : ([13, 10] : List UInt8).isPrefixOf l = true) : skip l = skip (l.drop 2) + 2 ∧ 2 ≤ l.length := by
  rw [List.isPrefixOf_iff_prefix] at h
  obtain ⟨r, rfl⟩ := h
  refine ⟨?_, by simp⟩
  show skip (13 :: 10 :: r) = skip r + 2
  rw [skip]
theorem skip_stop {l : List UInt8} (h : ([13, 10] : List UInt8).isPrefixOf l = false) : skip l = 0 := by
  unfold skip
  split
  · rename_i r
    have : ([13, 10] : List UInt8).isPrefixOf (13 :: 10 :: r) = true := by simp
    rw [this] at h
    cases h
  · rfl
theorem skip_le : ∀ (k : Nat) (l : List UInt8), l.length ≤ k → skip l ≤ l.length
  | 0, l, h => by
    have : l = [] := List.eq_nil_of_length_eq_zero (by omega)
    subst this
    exact Nat.le_refl _
  | k + 1, l, h => by
    rcases tf (([13, 10] : List UInt8).isPrefixOf l) with hp | hp
    · obtain ⟨h1, h2⟩ := skip_step hp
      have := skip_le k (l.drop 2) (by rw [List.length_drop]; omega)
      rw [List.length_drop] at this
      omega
    · rw [skip_stop hp]; exact Nat.zero_le _
theorem upto_le (p : UInt8 → Bool) (l : List UInt8) : (upto p l).length ≤ l.length := by have := upto_len p l; omega
theorem methodOf_le (l : List UInt8) : (methodOf l).length ≤ l.length := upto_le _ _
theorem behind_le (l : List UInt8) : (behind l).length ≤ l.length := by
  unfold behind
  rw [List.length_drop]
  have := upto_len sp l
  omega
theorem hLine_le (b : List UInt8) (s : Nat) : (hLine b s).length ≤ b.length := by
  unfold hLine hText
  rw [List.length_take, List.length_take, List.length_drop]
  omega
end P

/-- A request's head, its length and an error, answered. -/
def RetReq (w : World) (r : P.RQ) (e : Ending) (w' : World) : Prop :=
  ∃ A c, e = .returned (.tuple #[.agg #[.string r.m, .string r.t, .int .i64 r.v, .slice A r.fs.length c], .int .i64 r.n, .int .i64 r.e]) ∧ Row w' w.heap.size 72 2 A r.fs.length c (fcells r.fs) ∧ Below w.heap.size w w'
theorem RetReq.bad {w w' : World} {r : P.RQ} {code : Int} (hb : Below w.heap.size w w') (h : r = .bad code) : RetReq w r (.returned (.tuple #[.agg #[.string ⟨#[]⟩, .string ⟨#[]⟩, .int .i64 0, .slice none 0 0], .int .i64 0, .int .i64 code])) w' := by
  subst h
  exact ⟨none, 0, rfl, Row.empty _ _ _ _ _, hb⟩

end Go.Proofs.YtnmldbcgpfglkaaGreatDoor
