/- The walk of the law HeadRequests. Conditions: a row of at most 2^30 bytes; the library's two tables of UTF-8 as its text lays them; internal/bytealg.MaxLen holds some number. -/
import Derived.Test.YteehjkfmlcfffaaGreatDoorHeadRA
import Derived.Test.YteehjkfmlcfffaaGreatDoorCopyB
import Derived.Test.YteehjkfmlcfffaaGreatDoorSameQ
namespace Go.Proofs.YteehjkfmlcfffaaGreatDoor
open Go.RowKit

theorem rd_frontH {w : World} {A : Option Addr} {xs ys : List UInt8} (h : Rd w A (xs.length + ys.length) 1 (bcells (xs ++ ys))) : Rd w A xs.length 1 (bcells xs) := by
  have := h.upto (show xs.length ≤ xs.length + ys.length by omega)
  rwa [List.take_left] at this
/-- What a request's head answers: within bounds. -/
theorem request_facts (bs : List UInt8) : (P.request bs).fs.length ≤ 100 ∧ ((P.request bs).e ≠ 0 ∨ (P.request bs).n = 0 → (P.request bs).n = 0 ∧ (P.request bs).fs = []) ∧
    ((P.request bs).e = 0 → (P.request bs).n ≠ 0 → (P.request bs).n ≤ 8192 ∧ (P.request bs).n ≤ bs.length ∧ (P.request bs).m ≠ ⟨#[]⟩ ∧ (P.request bs).t ≠ ⟨#[]⟩ ∧ P.hostsOf (P.request bs).fs ≤ 1 ∧ (P.hostsOf (P.request bs).fs = 1 ∨ (P.request bs).v = 0) ∧ ((P.request bs).v = 0 ∨ (P.request bs).v = 1)) := by
  have hbadF : ∀ e : Int, (P.RQ.bad e).fs.length ≤ 100 ∧ ((P.RQ.bad e).e ≠ 0 ∨ (P.RQ.bad e).n = 0 → (P.RQ.bad e).n = 0 ∧ (P.RQ.bad e).fs = []) ∧ ((P.RQ.bad e).e = 0 → (P.RQ.bad e).n ≠ 0 → (P.RQ.bad e).n ≤ 8192 ∧ (P.RQ.bad e).n ≤ bs.length ∧ (P.RQ.bad e).m ≠ ⟨#[]⟩ ∧ (P.RQ.bad e).t ≠ ⟨#[]⟩ ∧ P.hostsOf (P.RQ.bad e).fs ≤ 1 ∧ (P.hostsOf (P.RQ.bad e).fs = 1 ∨ (P.RQ.bad e).v = 0) ∧ ((P.RQ.bad e).v = 0 ∨ (P.RQ.bad e).v = 1)) := fun e =>
    ⟨Nat.zero_le _, fun _ => ⟨rfl, rfl⟩, fun _ h => absurd rfl h⟩
  unfold P.request
  split
  · exact hbadF _
  · rename_i h1
    unfold P.reqOf
    split
    · exact hbadF _
    · rename_i h2
      split
      · exact hbadF _
      · split
        · exact hbadF _
        · split
          · exact hbadF _
          · rename_i h5
            have hp := P.parse_facts (P.hBlock bs (P.skip bs)).length [] (P.hBlock bs (P.skip bs)) (Nat.le_refl _) (by simp)
            have hN : P.hN bs (P.skip bs) ≠ 0 := fun h => h1 (.inr h)
            refine ⟨hp.2.1, fun h => ?_, fun _ _ => ?_⟩
            · rcases h with h | h
              · exact absurd rfl h
              · exact absurd h hN
            · have hnn : 0 ≤ P.hIdx bs (P.skip bs) := by
                rcases (by omega : P.hIdx bs (P.skip bs) < 0 ∨ 0 ≤ P.hIdx bs (P.skip bs)) with h | h
                · exact absurd (if_pos (.inl h)) hN
                · exact h
              obtain ⟨i, j, hi, hroom, _⟩ := P.hText_facts bs (P.skip bs) hnn
              have hc : ¬ (P.hIdx bs (P.skip bs) < 0 ∨ 8192 < P.skip bs + P.hIdx bs (P.skip bs) + 4) := fun h => hN (if_pos h)
              have hNe : P.hN bs (P.skip bs) = P.skip bs + P.hIdx bs (P.skip bs) + 4 := if_neg hc
              have hv : P.verN (P.behind (P.behind (P.hLine bs (P.skip bs)))) = 0 ∨ P.verN (P.behind (P.behind (P.hLine bs (P.skip bs)))) = 1 := by
                unfold P.verN
                split
                · exact .inr rfl
                · exact .inl rfl
              have hho : 0 ≤ P.hostsOf (P.parse [] (P.hBlock bs (P.skip bs))).1 := by unfold P.hostsOf; omega
              refine ⟨?_, ?_, ?_, ?_, ?_, ?_, hv⟩
              · show P.hN bs (P.skip bs) ≤ 8192
                rw [hNe]; omega
              · show P.hN bs (P.skip bs) ≤ bs.length
                rw [hNe, hi]; omega
              · intro h
                have h' : P.methodOf (P.hLine bs (P.skip bs)) = [] := by
                  have := congrArg L h
                  exact this
                exact h2 (.inl (by rw [h']; rfl))
              · intro h
                have h' : P.methodOf (P.behind (P.hLine bs (P.skip bs))) = [] := by
                  have := congrArg L h
                  exact this
                exact h2 (.inr (by rw [h']; rfl))
              · show P.hostsOf (P.parse [] (P.hBlock bs (P.skip bs))).1 ≤ 1
                omega
              · show P.hostsOf (P.parse [] (P.hBlock bs (P.skip bs))).1 = 1 ∨ _
                rcases hv with h | h
                · exact .inr h
                · left; omega

end Go.Proofs.YteehjkfmlcfffaaGreatDoor
