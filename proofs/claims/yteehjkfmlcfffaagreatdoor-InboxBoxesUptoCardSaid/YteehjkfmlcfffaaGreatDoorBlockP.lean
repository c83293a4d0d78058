/- A block of operations of a drawn region, of which some are pure: these may come up at any time behind what they read; what is left of them when the world's changes are done is taken first. No condition: plain lemmas on the model's regions. -/
import Derived.Test.YteehjkfmlcfffaaGreatDoorRegionA
namespace Go.Proofs.YteehjkfmlcfffaaGreatDoor
open Go Go.RowKit

section
variable {P : Program} {ops : Array Oper} {Q : Exit → Act → World → Prop} {S : World → Prop}
/-- Until all of W have come up, nothing comes up but W and Z; behind them what is left of Z is ready, and free. -/
def blockPB (ops : Array Oper) (W Z : List Nat) : Nat → Array Bool → Bool
  | 0, listed => (W ++ Z).all fun j => listed.getD j false
  | k + 1, listed =>
    if (W.all fun j => listed.getD j false) = true then
      match Z.find? fun j => !listed.getD j false with
      | none => false
      | some p => Region.free .any ops listed p && (Region.ready .any ops listed).contains p && blockPB ops W Z k (listed.setIfInBounds p true)
    else !(Region.ready .any ops listed).isEmpty && (Region.ready .any ops listed).all fun i => (W ++ Z).contains i && blockPB ops W Z k (listed.setIfInBounds i true)
/-- What is to be shown of a pure operation: what it yields, whatever world meets S. -/
def PureStep (P : Program) (ops : Array Oper) (S : World → Prop) (R : Nat → Value → World → Prop) (M : List Nat) (lit : (Nat → Value) → Act) (i : Nat) (oi : Oper) : Prop :=
  ∀ (vs : Nat → Value) (w : World), S w → (∀ j ∈ M, (oi.after.any fun e => Region.binds .any e && e.on == j) = true → R j (vs j) w) →
    ∃ v, R i v w ∧ YieldsIf P ops S oi v (lit vs)

theorem block_goP {R : Nat → Value → World → Prop} {n f0 : Nat} {a0 : Act} {listed0 : Array Bool} {W Z : List Nat} {lit : (Nat → Value) → Act} (hlit : ∀ vs, fillAct ops a0 (W ++ Z) vs = lit vs)
    (hn : (W ++ Z).Nodup) (ha : apartB ops (W ++ Z) = true) (hMn : ∀ j ∈ W ++ Z, j < n) (hnS : n < ops.size) (hsel : Region.noSelect ops = true) (hsk : Region.sinkB .any ops n = true) (hch : Region.chainB .any ops n = true)
    (hQ : ∀ (p : Nat) (oi : Oper), ops[p]? = some oi → ∀ v c a w, Q (.panic c) (a.put oi.dst v) w → Q (.panic c) a w)
    (hSB : ∀ w w', Below w.heap.size w w' → S w → S w') (hRB : ∀ j v w w', Below w.heap.size w w' → R j v w → R j v w')
    (hs : ∀ i ∈ W, ∃ oi, ops[i]? = some oi ∧ BlockStep P ops Q S R (W ++ Z) lit i oi) (hp : ∀ i ∈ Z, ∃ oi, ops[i]? = some oi ∧ PureStep P ops S R (W ++ Z) lit i oi)
    (hend : ∀ vs w, S w → (∀ j ∈ W ++ Z, R j (vs j) w) → HT P ops Q S n f0 (allListed (W ++ Z) listed0) (lit vs) w) :
    ∀ (k : Nat) (listed : Array Bool) (vs : Nat → Value) (w : World), blockPB ops W Z k listed = true → HeadInv .any ops n listed → listed.size = listed0.size →
      (∀ j, j ∉ W ++ Z → listed.getD j false = listed0.getD j false) → (∀ j ∈ W ++ Z, listed0.getD j false = true → listed.getD j false = true) →
      (∀ j ∈ W ++ Z, listed.getD j false = true → R j (vs j) w) → S w → wpT P .any ops Q S n (f0 + k) listed (lit vs) w := by
  intro k
  induction k with
  | zero =>
    intro listed vs w hb inv hsz hout _ hR hS
    have hall : ∀ j ∈ W ++ Z, listed.getD j false = true := fun j hj => by
      simp only [blockPB] at hb
      exact List.all_eq_true.1 hb j hj
    have heq : listed = allListed (W ++ Z) listed0 := by
      apply Array.ext
      · rw [size_allListed, hsz]
      · intro i h1 h2
        have e1 : listed[i] = listed.getD i false := by simp [Array.getD, h1]
        have e2 : (allListed (W ++ Z) listed0)[i] = (allListed (W ++ Z) listed0).getD i false := by simp [Array.getD, h2]
        rw [e1, e2, mem_allListed]
        by_cases hi : i ∈ W ++ Z
        · rw [hall i hi]
          have : i < listed0.size := by rw [← hsz]; exact h1
          have hc : (W ++ Z).contains i = true := List.contains_iff_mem.2 hi
          rw [hc]
          simp [this]
        · rw [hout i hi]
          have hc : (W ++ Z).contains i = false := by
            rw [Bool.eq_false_iff]
            exact fun h => hi (List.contains_iff_mem.1 h)
          rw [hc]
          simp
    subst heq
    exact hend vs w hS (fun j hj => hR j hj (hall j hj)) inv hS
  | succ k ih =>
    intro listed vs w hb inv hsz hout hin hR hS
    -- one of them comes up: what is known behind it
    have hnext : ∀ (i : Nat) (oi : Oper), i ∈ W ++ Z → ops[i]? = some oi → i ∈ Region.ready .any ops listed → blockPB ops W Z k (listed.setIfInBounds i true) = true → ∀ v w', R i v w' → Below w.heap.size w w' →
        wpT P .any ops Q S n (f0 + k) (listed.setIfInBounds i true) ((lit vs).put oi.dst v) w' := by
      intro i oi' hiM hoi hi hbk v w' hRv hbel
      have hilt : i < listed.size := by
        rw [inv.size]
        exact (Array.getElem?_eq_some_iff.1 hoi).1
      have hd : dstAt ops i = oi'.dst := by unfold dstAt; rw [hoi]; rfl
      rw [← hlit vs, ← hd, fill_put vs v (W ++ Z) a0 i hiM hn ha, hlit]
      refine ih (listed.setIfInBounds i true) (upd vs i v) w' hbk (inv.set hi (hMn i hiM)) (by simpa using hsz) (fun j hj => ?_) (fun j hj h0 => getD_set_true (hin j hj h0)) (fun j hj hl => ?_) (hSB _ _ hbel hS)
      · rw [getD_set_ne false (fun (e : i = j) => hj (by rw [← e]; exact hiM))]; exact hout j hj
      · by_cases hji : j = i
        · subst hji
          rw [show upd vs j v j = v from if_pos rfl]; exact hRv
        · rw [show upd vs i v j = vs j from if_neg hji]
          rw [getD_set_ne false (Ne.symm hji)] at hl
          exact hRB j _ _ _ hbel (hR j hj hl)
    by_cases hW : (W.all fun j => listed.getD j false) = true
    · simp only [blockPB, hW, if_true] at hb
      cases hf : Z.find? fun j => !listed.getD j false with
      | none => rw [hf] at hb; cases hb
      | some p =>
        rw [hf] at hb
        simp only [Bool.and_eq_true] at hb
        obtain ⟨⟨hfree, hrd⟩, hbk⟩ := hb
        have hpZ : p ∈ Z := List.mem_of_find?_eq_some hf
        have hpM : p ∈ W ++ Z := List.mem_append.2 (.inr hpZ)
        have hr : p ∈ Region.ready .any ops listed := by simpa using hrd
        obtain ⟨oi, hoi, hpure⟩ := hp p hpZ
        obtain ⟨_, oi', hoi', hdeps⟩ := mem_ready.1 hr
        have : oi' = oi := Option.some.inj (hoi'.symm.trans hoi)
        subst this
        obtain ⟨v, hRv, hy⟩ := hpure vs w hS (fun j hj he => by
          rw [Array.any_eq_true'] at he
          obtain ⟨e, he, h2⟩ := he
          rw [Bool.and_eq_true, beq_iff_eq] at h2
          exact hR j hj (by rw [← h2.2]; exact hdeps e he h2.1))
        exact wpT_first hoi (Region.noSelect_spec hsel) hsk hch hnS (hMn p hpM) (hQ p oi' hoi v) (f0 + k) listed (lit vs) w inv (Region.free_spec hoi hfree) hr hy hS (hnext p oi' hpM hoi hr hbk v w hRv (Below.refl _ _))
    · simp only [blockPB, if_neg hW, Bool.and_eq_true, Bool.not_eq_true', List.isEmpty_eq_false_iff] at hb
      refine ⟨fun h0 => absurd h0 hb.1, fun i hi => ?_⟩
      have hbi := List.all_eq_true.1 hb.2 i hi
      rw [Bool.and_eq_true, List.contains_iff_mem] at hbi
      obtain ⟨hiM, hbk⟩ := hbi
      obtain ⟨_, oi', hoi', hdeps⟩ := mem_ready.1 hi
      have hdp : ∀ j ∈ W ++ Z, (oi'.after.any fun e => Region.binds .any e && e.on == j) = true → R j (vs j) w := fun j hj he => by
        rw [Array.any_eq_true'] at he
        obtain ⟨e, he, h2⟩ := he
        rw [Bool.and_eq_true, beq_iff_eq] at h2
        exact hR j hj (by rw [← h2.2]; exact hdeps e he h2.1)
      rcases List.mem_append.1 hiM with hiW | hiZ
      · obtain ⟨oi, hoi, hstep⟩ := hs i hiW
        have : oi' = oi := Option.some.inj (hoi'.symm.trans hoi)
        subst this
        refine wpOp_step hoi (fun K' hK => hstep vs w hS hdp K' ?_)
        intro v w' hRv hbel
        exact hK _ _ ⟨fun _ => hSB _ _ hbel hS, hnext i oi' hiM hoi hi hbk v w' hRv hbel⟩
      · obtain ⟨oi, hoi, hpure⟩ := hp i hiZ
        have : oi' = oi := Option.some.inj (hoi'.symm.trans hoi)
        subst this
        obtain ⟨v, hRv, hy⟩ := hpure vs w hS hdp
        exact hy.wpOp hoi hS ⟨fun _ => hS, hnext i oi' hiM hoi hi hbk v w hRv (Below.refl _ _)⟩

theorem HT.blockP {n f0 : Nat} {listed : Array Bool} {a0 : Act} {w : World} (W Z : List Nat) (R : Nat → Value → World → Prop) (lit : (Nat → Value) → Act) (hlit : ∀ vs, fillAct ops a0 (W ++ Z) vs = lit vs)
    (hM : (decide (W ++ Z).Nodup && apartB ops (W ++ Z) && (W ++ Z).all (fun j => decide (j < n)) && (W ++ Z).all (fun j => !listed.getD j false) && blockPB ops W Z (W ++ Z).length listed && Region.noSelect ops && Region.sinkB .any ops n && Region.chainB .any ops n && decide (n < ops.size)) = true)
    (hQ : ∀ (p : Nat) (oi : Oper), ops[p]? = some oi → ∀ v c a w, Q (.panic c) (a.put oi.dst v) w → Q (.panic c) a w)
    (hSB : ∀ w w', Below w.heap.size w w' → S w → S w') (hRB : ∀ j v w w', Below w.heap.size w w' → R j v w → R j v w')
    (hs : ∀ i ∈ W, ∃ oi, ops[i]? = some oi ∧ BlockStep P ops Q S R (W ++ Z) lit i oi) (hp : ∀ i ∈ Z, ∃ oi, ops[i]? = some oi ∧ PureStep P ops S R (W ++ Z) lit i oi)
    (hend : ∀ vs w, S w → (∀ j ∈ W ++ Z, R j (vs j) w) → HT P ops Q S n f0 (allListed (W ++ Z) listed) (lit vs) w) :
    HT P ops Q S n (f0 + (W ++ Z).length) listed a0 w := by
  intro inv hS
  simp only [Bool.and_eq_true, decide_eq_true_eq] at hM
  obtain ⟨⟨⟨⟨⟨⟨⟨⟨hn, ha⟩, hMn⟩, hl⟩, hb⟩, hsel⟩, hsk⟩, hch⟩, hnS⟩ := hM
  obtain ⟨vs, hvs⟩ := fill_start ops a0 (W ++ Z)
  rw [← hvs, hlit]
  refine block_goP hlit hn ha (fun j hj => of_decide_eq_true (List.all_eq_true.1 hMn j hj)) hnS hsel hsk hch hQ hSB hRB hs hp hend (W ++ Z).length listed vs w hb inv rfl (fun _ _ => rfl) (fun _ _ h => h) (fun j hj h => ?_) hS
  have := List.all_eq_true.1 hl j hj
  rw [h] at this
  cases this
end
end Go.Proofs.YteehjkfmlcfffaaGreatDoor
