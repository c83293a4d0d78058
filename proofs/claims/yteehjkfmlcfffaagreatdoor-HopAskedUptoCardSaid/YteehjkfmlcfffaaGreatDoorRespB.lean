/- What a response's reading tells of sizes, and its three ways. No program here. -/
import Derived.Test.YteehjkfmlcfffaaGreatDoorRespP
namespace Go.Proofs.YteehjkfmlcfffaaGreatDoor
namespace P
open T (Bs)
theorem block_lenR (bs : Bs) (s : Nat) : (hBlock bs s).length ≤ bs.length := by
  unfold hBlock hText
  rw [List.length_drop, List.length_take, List.length_drop]
  omega
theorem response_bulk (bs : Bs) : F.bulk (response bs).fs ≤ bs.length ∧ (response bs).r.size ≤ bs.length := by
  have hp := (parse_facts _ [] (hBlock bs 0) (Nat.le_refl _) (Nat.zero_le _)).1
  have hb := block_lenR bs 0
  have hl := hLine_le bs 0
  have h0 : F.bulk [] = 0 := rfl
  have hz : ∀ e : Int, F.bulk (RS.bad e).fs ≤ bs.length ∧ (RS.bad e).r.size ≤ bs.length := fun e => ⟨Nat.zero_le _, Nat.zero_le _⟩
  unfold response
  split
  · exact hz _
  · unfold respOf
    split
    · exact hz _
    · split
      · exact hz _
      · split
        · exact hz _
        · split
          · exact hz _
          · refine ⟨?_, ?_⟩
            · show F.bulk (parse [] (hBlock bs 0)).1 ≤ _
              omega
            · show (B (behind (behind (hLine bs 0)))).size ≤ _
              rw [B_size']
              have h1 := behind_le (behind (hLine bs 0))
              have h2 := behind_le (hLine bs 0)
              omega
theorem respOf_e (line block : Bs) (n : Int) : ((respOf line block n).e = 0 → respOf line block n = ⟨stat (methodOf (behind line)), B (behind (behind line)), verN (methodOf line), (parse [] block).1, n, 0⟩) ∧ ((respOf line block n).e ≠ 0 → ∃ e, respOf line block n = .bad e) := by
  unfold respOf
  split
  · exact ⟨fun h => (by cases h), fun _ => ⟨_, rfl⟩⟩
  · split
    · exact ⟨fun h => (by cases h), fun _ => ⟨_, rfl⟩⟩
    · split
      · rename_i h
        exact ⟨fun h' => absurd h' h, fun _ => ⟨_, rfl⟩⟩
      · split
        · rename_i h
          exact ⟨fun h' => absurd h' h, fun _ => ⟨_, rfl⟩⟩
        · exact ⟨fun _ => rfl, fun h => absurd rfl h⟩
theorem stat_range (l : Bs) (h : ¬ (stat l < 100 ∨ 599 < stat l)) : 0 ≤ stat l ∧ stat l ≤ 599 := by omega
theorem response_stat (bs : Bs) : 0 ≤ (response bs).s ∧ (response bs).s ≤ 599 := by
  have hz : ∀ e : Int, 0 ≤ (RS.bad e).s ∧ (RS.bad e).s ≤ 599 := fun e => ⟨(by decide : (0 : Int) ≤ 0), (by decide : (0 : Int) ≤ 599)⟩
  unfold response
  split
  · exact hz _
  · unfold respOf
    split
    · exact hz _
    · split
      · exact hz _
      · rename_i h1
        split
        · exact hz _
        · rename_i h2
          split
          · exact hz _
          · exact stat_range _ fun h => h1 ⟨Classical.not_not.1 h2, h⟩
/-- The three ways that a response's head ends. -/
theorem resp_ways (bs : Bs) : ((response bs).e = 0 ∧ (response bs).n = 0) ∨ ((response bs).e ≠ 0 ∧ (response bs).n = 0) ∨ ((response bs).e = 0 ∧ ∃ k : Nat, 0 < k ∧ k ≤ bs.length ∧ (response bs).n = (k : Int)) := by
  by_cases hn : (response bs).n = 0
  · by_cases he : (response bs).e = 0
    · exact .inl ⟨he, hn⟩
    · exact .inr (.inl ⟨he, hn⟩)
  · obtain ⟨i, h1, h2, h3⟩ := response_n hn
    have he : (response bs).e = 0 := by
      by_cases he : (response bs).e = 0
      · exact he
      · exfalso
        refine hn ?_
        unfold response at he ⊢
        split
        · rfl
        · rename_i hc
          rw [if_neg hc] at he
          obtain ⟨e, h⟩ := (respOf_e _ _ _).2 he
          rw [h]
          rfl
    exact .inr (.inr ⟨he, i + 4, by omega, by omega, h3⟩)
end P
end Go.Proofs.YteehjkfmlcfffaaGreatDoor
