/- What head.Response computes, told as the document tells it. No program here. -/
import Derived.Test.YteehjkfmlcfffaaGreatDoorGrow
namespace Go.Proofs.YteehjkfmlcfffaaGreatDoor
namespace P
open T (Bs)
/-- As the document's Response tells a line and its fields' bytes. -/
def respRef (line block : Bs) (n : Int) : RS :=
  if line.length < 12 ∨ line.getD 8 0 ≠ 32 then .bad 50
  else if ((line.drop 9).take 3).all dig = false then .bad 50
  else if 12 < line.length ∧ (line.getD 12 0 ≠ 32 ∨ F.text (B (line.drop 13)) = false) then .bad 50
  else if verE (line.take 8) ≠ 0 then .bad (verE (line.take 8))
  else if stat ((line.drop 9).take 3) < 100 ∨ 599 < stat ((line.drop 9).take 3) then .bad 53
  else if (parse [] block).2 ≠ 0 then .bad (parse [] block).2
  else ⟨stat ((line.drop 9).take 3), B (line.drop 13), verN (line.take 8), (parse [] block).1, n, 0⟩

theorem shape_nosp {l : Bs} (h : verShape l = true) : l.length = 8 ∧ ∀ x ∈ l, sp x = false := by
  unfold verShape at h
  simp only [Bool.and_eq_true, decide_eq_true_eq] at h
  obtain ⟨⟨⟨⟨h1, h2⟩, h3⟩, h4⟩, h5⟩ := h
  refine ⟨h1, ?_⟩
  match l, h1 with
  | [a, b, c, d, e, f, g, i], _ =>
    simp only [List.take_succ_cons, List.take_zero, List.cons.injEq, and_true] at h2
    obtain ⟨rfl, rfl, rfl, rfl, rfl⟩ := h2
    simp only [List.getD_cons_succ, List.getD_cons_zero] at h3 h4 h5
    subst h4
    have key : ∀ y : UInt8, dig y = true → sp y = false := fun y hy => by
      unfold sp
      rw [beq_eq_false_iff_ne]
      rintro rfl
      exact absurd hy (by decide)
    intro x hx
    simp only [List.mem_cons, List.not_mem_nil, or_false] at hx
    rcases hx with rfl | rfl | rfl | rfl | rfl | rfl | rfl | rfl
    · decide
    · decide
    · decide
    · decide
    · decide
    · exact key _ h3
    · decide
    · exact key _ h5
theorem verE_shape {l : Bs} (h : verE l ≠ 50) : verShape l = true := by
  unfold verE at h
  cases hs : verShape l with
  | true => rfl
  | false => rw [if_pos hs] at h; exact absurd rfl h
theorem sp_iff (x : UInt8) : sp x = true ↔ x = 32 := by
  unfold sp
  rw [beq_iff_eq]
/-- The first word, where a blank stands at k and none ahead of it. -/
theorem word_at {l : Bs} {k : Nat} (hk : k < l.length) (hall : ∀ x ∈ l.take k, sp x = false) (hb : l.getD k 0 = 32) : methodOf l = l.take k ∧ behind l = l.drop (k + 1) := by
  have h := upto_eq (p := sp) (l := l) (k := k) (by omega) (fun j hj hjk => hall _ (by
      rw [List.mem_iff_getElem?]
      exact ⟨j, by rw [List.getElem?_take, if_pos hjk, List.getElem?_eq_getElem hj]⟩)) (fun h => by
      rw [sp_iff, ← hb, List.getD_eq_getElem?_getD, List.getElem?_eq_getElem h]
      rfl)
  refine ⟨h.1, ?_⟩
  unfold behind
  rw [h.2, List.drop_drop]
theorem word_none {l : Bs} (hall : ∀ x ∈ l, sp x = false) : methodOf l = l ∧ behind l = [] := by
  have h := upto_eq (p := sp) (l := l) (k := l.length) (Nat.le_refl _) (fun j hj _ => hall _ (List.getElem_mem hj)) (fun h => absurd h (Nat.lt_irrefl _))
  refine ⟨h.1.trans List.take_length, ?_⟩
  unfold behind
  rw [h.2, List.drop_length]
  rfl
theorem text_nil : F.text (B []) = true := rfl
/-- A line whose first word is a version and whose second one a status is as the document wants it. -/
theorem line_shape {l : Bs} (h1 : verE (methodOf l) ≠ 50) (h2 : code3 (methodOf (behind l)) = true) : 12 ≤ l.length ∧ l.getD 8 0 = 32 ∧ methodOf l = l.take 8 ∧ behind l = l.drop 9 ∧ methodOf (behind l) = (l.drop 9).take 3 := by
  obtain ⟨g1, g2⟩ := shape_nosp (verE_shape h1)
  have hc := h2
  unfold code3 at hc
  rw [Bool.and_eq_true, decide_eq_true_eq, List.all_eq_true] at hc
  have hu := upto_from sp l
  have hu2 := upto_from sp (behind l)
  cases hf : from_ sp l with
  | nil =>
    have hb : behind l = [] := by unfold behind; rw [hf]; rfl
    rw [hb] at hc
    exact absurd hc.1 (by decide)
  | cons x r =>
    have hx : x = 32 := (sp_iff x).1 (from_head hf)
    subst hx
    have hb : behind l = r := by unfold behind; rw [hf]; rfl
    rw [hf] at hu
    have hm : upto sp l = methodOf l := rfl
    rw [hm] at hu
    rw [hb] at hc hu2 ⊢
    have hm2 : upto sp r = methodOf r := rfl
    rw [hm2] at hu2
    generalize methodOf l = M at *
    generalize methodOf r = CD at *
    generalize from_ sp r = R at *
    subst hu2
    subst hu
    refine ⟨?_, ?_, ?_, ?_, ?_⟩
    · simp only [List.length_append, List.length_cons]; omega
    · rw [List.getD_eq_getElem?_getD, List.getElem?_append_right (by omega), g1]
      rfl
    · rw [List.take_left' g1]
    · have e : M ++ 32 :: (CD ++ R) = (M ++ [32]) ++ (CD ++ R) := by simp
      rw [e, List.drop_left' (by simp [g1])]
    · have e : M ++ 32 :: (CD ++ R) = (M ++ [32]) ++ (CD ++ R) := by simp
      rw [e, List.drop_left' (by simp [g1]), List.take_left' hc.1]
theorem dig_sp {x : UInt8} (h : dig x = true) : sp x = false := by
  unfold sp
  rw [beq_eq_false_iff_ne]
  rintro rfl
  exact absurd h (by decide)
theorem resp_eq (line block : Bs) (n : Int) : respOf line block n = respRef line block n := by
  by_cases hbad : verE (methodOf line) = 50 ∨ code3 (methodOf (behind line)) = false ∨ F.text (B (behind (behind line))) = false
  · have h1 : respOf line block n = .bad 50 := if_pos hbad
    rw [h1]
    unfold respRef
    split
    · rfl
    · rename_i c1
      split
      · rfl
      · rename_i c2
        split
        · rfl
        · rename_i c3
          have k1 : 12 ≤ line.length := by
            rcases Nat.lt_or_ge line.length 12 with h | h
            · exact absurd (.inl h) c1
            · exact h
          have k2 : line.getD 8 0 = 32 := by
            by_cases h : line.getD 8 0 = 32
            · exact h
            · exact absurd (.inr h) c1
          have k3 : ((line.drop 9).take 3).all dig = true := by
            cases h : ((line.drop 9).take 3).all dig with
            | true => rfl
            | false => exact absurd h c2
          by_cases hv : verE (line.take 8) = 50
          · rw [if_pos (by rw [hv]; decide), hv]
          · exfalso
            obtain ⟨g1, g2⟩ := shape_nosp (verE_shape hv)
            obtain ⟨w1, w2⟩ := word_at (k := 8) (by omega) g2 k2
            have hdl : (line.drop 9).length = line.length - 9 := List.length_drop
            have hc : methodOf (line.drop 9) = (line.drop 9).take 3 ∧ F.text (B (behind (line.drop 9))) = true := by
              rw [List.all_eq_true] at k3
              by_cases hlen : 12 < line.length
              · have h12 : line.getD 12 0 = 32 := by
                  by_cases h : line.getD 12 0 = 32
                  · exact h
                  · exact absurd ⟨hlen, .inl h⟩ c3
                have htx : F.text (B (line.drop 13)) = true := by
                  cases h : F.text (B (line.drop 13)) with
                  | true => rfl
                  | false => exact absurd ⟨hlen, .inr h⟩ c3
                have hg : (line.drop 9).getD 3 0 = 32 := by
                  rw [List.getD_eq_getElem?_getD, List.getElem?_drop] at *
                  exact h12
                obtain ⟨v1, v2⟩ := word_at (l := line.drop 9) (k := 3) (by omega) (fun x hx => dig_sp (k3 x hx)) hg
                refine ⟨v1, ?_⟩
                rw [v2, List.drop_drop]
                exact htx
              · have ht : (line.drop 9).take 3 = line.drop 9 := List.take_of_length_le (by omega)
                rw [ht] at k3
                obtain ⟨v1, v2⟩ := word_none (l := line.drop 9) (fun x hx => dig_sp (k3 x hx))
                rw [v1, v2, ht]
                exact ⟨rfl, text_nil⟩
            rw [w1, w2, hc.1] at hbad
            rcases hbad with h | h | h
            · exact hv h
            · unfold code3 at h
              rw [k3, Bool.and_true, decide_eq_false_iff_not, List.length_take] at h
              omega
            · rw [hc.2] at h
              cases h
  · have h1 : verE (methodOf line) ≠ 50 := fun h => hbad (.inl h)
    have h2 : code3 (methodOf (behind line)) = true := by
      cases h : code3 (methodOf (behind line)) with
      | true => rfl
      | false => exact absurd (.inr (.inl h)) hbad
    have h3 : F.text (B (behind (behind line))) = true := by
      cases h : F.text (B (behind (behind line))) with
      | true => rfl
      | false => exact absurd (.inr (.inr h)) hbad
    obtain ⟨k1, k2, w1, w2, w3⟩ := line_shape h1 h2
    have h2' := h2
    rw [w3] at h2'
    unfold code3 at h2'
    rw [Bool.and_eq_true, decide_eq_true_eq] at h2'
    have hdl : (line.drop 9).length = line.length - 9 := List.length_drop
    have hb2 : behind (behind line) = line.drop 13 ∧ (12 < line.length → line.getD 12 0 = 32) := by
      rw [w2] at w3 ⊢
      have hu := upto_from sp (line.drop 9)
      have hm : upto sp (line.drop 9) = methodOf (line.drop 9) := rfl
      rw [hm, w3] at hu
      have h4 : (line.drop 9).take 3 ++ (line.drop 9).drop 3 = line.drop 9 := List.take_append_drop 3 _
      have h5 : from_ sp (line.drop 9) = (line.drop 9).drop 3 := List.append_cancel_left (hu.trans h4.symm)
      rw [List.drop_drop] at h5
      refine ⟨?_, fun hlen => ?_⟩
      · unfold behind
        rw [h5, List.drop_drop]
      · have h6 : line.drop (9 + 3) = line.getD 12 0 :: line.drop 13 := by
          rw [List.drop_eq_getElem_cons (by omega : 9 + 3 < line.length), List.getD_eq_getElem?_getD, List.getElem?_eq_getElem (by omega : 12 < line.length)]
          rfl
        rw [h6] at h5
        exact (sp_iff _).1 (from_head h5)
    have e1 : respOf line block n = if verE (line.take 8) = 0 ∧ (stat ((line.drop 9).take 3) < 100 ∨ 599 < stat ((line.drop 9).take 3)) then .bad 53
        else if verE (line.take 8) ≠ 0 then .bad (verE (line.take 8))
        else if (parse [] block).2 ≠ 0 then .bad (parse [] block).2
        else ⟨stat ((line.drop 9).take 3), B (line.drop 13), verN (line.take 8), (parse [] block).1, n, 0⟩ := by
      rw [← w1, ← w3, ← hb2.1]
      exact if_neg hbad
    have c1 : ¬ (line.length < 12 ∨ line.getD 8 0 ≠ 32) := by
      rintro (h | h)
      · omega
      · exact h k2
    have c2 : ¬ (((line.drop 9).take 3).all dig = false) := fun h => by
      have h4 := h2'.2
      rw [h] at h4
      exact Bool.noConfusion h4
    have c3 : ¬ (12 < line.length ∧ (line.getD 12 0 ≠ 32 ∨ F.text (B (line.drop 13)) = false)) := by
      rintro ⟨g1, g2 | g2⟩
      · exact g2 (hb2.2 g1)
      · rw [← hb2.1, h3] at g2
        exact Bool.noConfusion g2
    have e2 : respRef line block n = if verE (line.take 8) ≠ 0 then .bad (verE (line.take 8))
        else if stat ((line.drop 9).take 3) < 100 ∨ 599 < stat ((line.drop 9).take 3) then .bad 53
        else if (parse [] block).2 ≠ 0 then .bad (parse [] block).2
        else ⟨stat ((line.drop 9).take 3), B (line.drop 13), verN (line.take 8), (parse [] block).1, n, 0⟩ := (if_neg c1).trans ((if_neg c2).trans (if_neg c3))
    rw [e1, e2]
    by_cases hv : verE (line.take 8) = 0
    · have hv' : ¬ verE (line.take 8) ≠ 0 := fun h => h hv
      rw [if_neg hv', if_neg hv']
      by_cases hs : stat ((line.drop 9).take 3) < 100 ∨ 599 < stat ((line.drop 9).take 3)
      · have hc : verE (line.take 8) = 0 ∧ (stat ((line.drop 9).take 3) < 100 ∨ 599 < stat ((line.drop 9).take 3)) := ⟨hv, hs⟩
        rw [if_pos hc, if_pos hs]
      · have hc : ¬ (verE (line.take 8) = 0 ∧ (stat ((line.drop 9).take 3) < 100 ∨ 599 < stat ((line.drop 9).take 3))) := fun h => hs h.2
        rw [if_neg hc, if_neg hs]
    · have hc : ¬ (verE (line.take 8) = 0 ∧ (stat ((line.drop 9).take 3) < 100 ∨ 599 < stat ((line.drop 9).take 3))) := fun h => hv h.1
      have hv' : verE (line.take 8) ≠ 0 := hv
      rw [if_neg hc, if_pos hv', if_pos hv']
theorem stat_snoc (l : Bs) (x : UInt8) : stat (l ++ [x]) = stat l * 10 + ((x.toNat : Int) - 48) := by
  unfold stat
  rw [List.foldl_append]
  rfl
theorem stat_three {l : Bs} (hl : l.length ≤ 3) (h : ∀ x ∈ l, dig x = true) : 0 ≤ stat l ∧ stat l < 1000 := by
  have key : ∀ y : UInt8, dig y = true → 48 ≤ y.toNat ∧ y.toNat ≤ 57 := fun y hy => by
    unfold dig at hy
    rwa [Bool.and_eq_true, decide_eq_true_eq, decide_eq_true_eq] at hy
  match l, hl, h with
  | [], _, _ => exact ⟨by decide, by decide⟩
  | [a], _, h =>
    have := key a (h a (by simp))
    simp only [stat, List.foldl_cons, List.foldl_nil]
    omega
  | [a, b], _, h =>
    have := key a (h a (by simp))
    have := key b (h b (by simp))
    simp only [stat, List.foldl_cons, List.foldl_nil]
    omega
  | [a, b, c], _, h =>
    have := key a (h a (by simp))
    have := key b (h b (by simp))
    have := key c (h c (by simp))
    simp only [stat, List.foldl_cons, List.foldl_nil]
    omega
end P
end Go.Proofs.YteehjkfmlcfffaaGreatDoor
