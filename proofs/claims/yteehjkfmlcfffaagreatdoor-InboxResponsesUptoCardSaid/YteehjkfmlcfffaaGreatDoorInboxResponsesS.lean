/- InboxResponses holds wherever what it reads is of at most 1,048,576 bytes: every Response answers the message, the length or the error of the document, and the bytes are left as they were. Conditions: the bound of the row and its list of tables. -/
import Derived.Test.YteehjkfmlcfffaaGreatDoorCards
import Derived.Test.YteehjkfmlcfffaaGreatDoorTie
import Derived.Test.YteehjkfmlcfffaaGreatDoorInbR
import Derived.Test.YteehjkfmlcfffaaGreatDoorLaidU
import Derived.Test.YteehjkfmlcfffaaGreatDoorOpenA
import Derived.Test.YteehjkfmlcfffaaGreatDoorLaid
import Derived.Carry
import Derived.ChangeMaps
namespace Go.Proofs.YteehjkfmlcfffaaGreatDoor
open Go.ChangeShapes Go.WideShapes Go.ChangeAt Go.RowKit

set_option maxRecDepth 100000 in
theorem inboxResponses_contract (H : Type) (enc : TypeId × Value → H) (W : World) (base : Nat) (args : Array Value) (ds gs : List (DataW H)) (before : List MemPlace)
    (hval : ∀ (j : Nat) t v, Tryz.f3.params[j]? = some t → args[j]? = some v → Value.okWide Tryz.prog W .any base t v)
    (hW : DataW.Whole enc Tryz.prog Tryz.f3.params.toList Rows.inboxResponsesSpec.vars false W args.toList ds gs before) (hk : Rows.uptoSmall H (ds ++ gs) = true) (hL : laidMetH Tryz.prog Rows.inboxResponsesUptoRow.laid W) (hsh : W.ShapedOpen Tryz.prog) :
    Calls Tryz.prog 3 args W fun e W' => ∃ v, e = .returned v ∧ Rows.inboxResponsesSpec.post enc Tryz.prog Tryz.f3 false true false false W args v W' := by
  have hW' := hW
  obtain ⟨p, q, hA0, hV, rfl, hfz, hnd⟩ := hW
  have hA : DataW.TrodAll enc Tryz.prog W 0 (fun _ => true) true Tryz.f3.params.toList args.toList ds p := hA0
  rw [Tryz.params3] at hA hval
  obtain ⟨v0, v1, v2, d0, d1, d2, p0, p1, p2, rfl, rfl, rfl, h0, h1, h2⟩ := trodAll_three hA
  obtain ⟨rfl, rfl⟩ := trodVars_none hV
  obtain ⟨A0, n0, c0, bs0, rfl, hl0, hx0, hc0, hbk0, hnil0, hspot0⟩ := open_bytes (hval 0 22 v0 rfl rfl) h0
  have h1k := h1
  obtain ⟨s1, rfl, rfl, rfl, _⟩ := Go.ChangeMaps.open_string Tryz.underlying9 (hval 1 9 v1 rfl rfl) h1
  have h2k := h2
  obtain ⟨b2, rfl, rfl, rfl⟩ := open_bool Tryz.underlying4 (hval 2 4 v2 rfl rfl) h2
  subst hl0
  clear hA0
  simp only [List.append_nil] at hW' hk
  have hlt : ∀ x ∈ p0, x.block < W.heap.size := fun x hx => by simpa using hW'.lt x (by simpa using hx)
  have hb : bs0.length ≤ 1048576 ∧ s1.size ≤ 1048576 := by
    have h : Rows.uptoBulkAll [d0, DataW.lit (.string s1.data.toList), DataW.lit (.bool b2)] ≤ 1048576 := of_decide_eq_true hk
    simp only [Rows.uptoBulkAll, Rows.uptoBulk, Array.length_toList] at h
    have : s1.size = s1.data.size := rfl
    omega
  obtain ⟨hb0, hb1⟩ := hb
  have ht : LibOk W := lib_of hL hsh (by kernel_rfl)
  have he : ErrOk W := err_of hL (by kernel_rfl) (by kernel_rfl)
  refine (inboxResponses_any A0 bs0.length c0 bs0 s1 b2 W (by omega) rfl hc0 hx0 ht he).mono fun e W' ⟨he, hw⟩ => ?_
  subst he
  exact ⟨_, rfl, post_of_below (pa := p0) (pv := []) hW' (fun _ _ _ => trodAll_mk1 (shut_bool Tryz.underlying4 true))
    (fun sp hsp => by
      have k0 := again (by kernel_rfl) (of_decide_eq_true (by kernel_rfl)) h0 hw (fun x hx => hlt x (by simp [hx])) sp (fun x hx => hsp x (by simp [hx]))
      have k1 := again (by kernel_rfl) (of_decide_eq_true (by kernel_rfl)) h1k hw (fun x hx => by cases hx) sp (fun x hx => by cases hx)
      have k2 := again (by kernel_rfl) (of_decide_eq_true (by kernel_rfl)) h2k hw (fun x hx => by cases hx) sp (fun x hx => by cases hx)
      have := trodAll_mk3 k0 k1 k2
      simp only [List.append_nil] at this
      exact this) (fun _ _ => rfl) (by simp)
    hw (ok_one (by kernel_rfl) rfl (okWide_bool_mk Tryz.underlying4 true))⟩

theorem inboxResponses_met (os : Os) : laidMet Tryz.prog Rows.inboxResponsesUptoRow.laid ((World.laidAll Tryz.prog os Rows.inboxResponsesUptoRow.laid).forCall (fun _ _ => 0) ⟨#[], #[.slice none 0 0, .string ⟨#[]⟩, .bool false], []⟩).memory :=
  laidMet_laidAll _ (by kernel_rfl) (by kernel_rfl)
theorem inboxResponses_reads (os : Os) {H : Type} (enc : TypeId × Value → H) : ∃ places, DataW.whole enc Tryz.prog ((World.laidAll Tryz.prog os Rows.inboxResponsesUptoRow.laid).forCall (fun _ _ => 0) ⟨#[], #[.slice none 0 0, .string ⟨#[]⟩, .bool false], []⟩).memory Tryz.f3.params.toList Rows.inboxResponsesSpec.vars false #[Value.slice none 0 0, .string ⟨#[]⟩, .bool false].toList 8 = some ([.nil, .lit (.string []), .lit (.bool false)], [], places) :=
  ⟨[], by kernel_rfl⟩

set_option maxRecDepth 100000 in
theorem inboxResponses_lifted (os : Os) (started : os.Started) (H : Type) (enc : TypeId × Value → H) (F : Stop.Interp) :
    ReturnsInHanded {} Tryz.checked os 3 .any ((Rows.OpenSpec.upto Rows.inboxResponsesSpec).preRow enc Tryz.prog Tryz.f3 Rows.inboxResponsesUptoRow.domain false Rows.inboxResponsesUptoRow.laid) (((Rows.OpenSpec.upto Rows.inboxResponsesSpec).at F).post enc Tryz.prog Tryz.f3 false true false false) := by
  obtain ⟨places, hx⟩ := inboxResponses_reads os enc
  refine returnsInHanded_of_row (C := Tryz.checked) (s := Rows.OpenSpec.upto Rows.inboxResponsesSpec) own_ started (by kernel_rfl) Tryz.func3
    (witness_row_at (enc := enc) (C := Tryz.checked) false (World.laidAll Tryz.prog os Rows.inboxResponsesUptoRow.laid) #[.slice none 0 0, .string ⟨#[]⟩, .bool false] (World.laidAll_os _ _ _) (by kernel_rfl) (by kernel_rfl) (by kernel_rfl)
      (OpenSpec.preRow_of_cond 8 hx (by kernel_rfl) (fun k hk => by cases hk; kernel_rfl) (by kernel_rfl) (inboxResponses_met os))) ?_
  intro W base args ds gs before hval hW _ hcond _ hL hsh _
  exact inboxResponses_contract H enc W base args ds gs before hval hW (hcond _ rfl) hL hsh

theorem inboxResponses_inPlace : (Rows.inboxResponsesUptoRow.inPlace == Tryz.pinned.checked.prog.inPlace 3) = true := by kernel_rfl
theorem inboxResponses_follows : (Rows.inboxResponsesUptoRow.unfollowed == Tryz.pinned.checked.prog.unfollowed 3) = true := by kernel_rfl
theorem inboxResponses_rings : (Rows.inboxResponsesUptoRow.recurses == Tryz.pinned.checked.prog.recurses 3) = true := by kernel_rfl
theorem inboxResponses_names : (Rows.inboxResponsesUptoRow.named == Tryz.pinned.checked.prog.varsNamed 3) = true := by kernel_rfl
theorem inboxResponses_closed : joinedFacts Tryz.pinned.checked.prog 3 Tryz.f3 (Rows.OpenSpec.upto Rows.inboxResponsesSpec).bare Rows.inboxResponsesUptoRow = true := by 
  unfold joinedFacts
  rw [inboxResponses_inPlace, inboxResponses_follows, inboxResponses_rings, inboxResponses_names]
  kernel_rfl
theorem inboxResponses_inst : Tryz.f3.isInstance Tryz.pinned.checked.prog Rows.inboxResponsesUptoRow.origin Rows.inboxResponsesUptoRow.targs := of_decide_eq_true (by kernel_rfl)
theorem inboxResponses_wrap : Tryz.f3.isWrapper Tryz.pinned.checked.prog Rows.inboxResponsesUptoRow.wrapper Rows.inboxResponsesUptoRow.mainSum := by unfold Func.isWrapper; first | (rw [if_pos (by decide +kernel)]; kernel_rfl) | (rw [if_neg (by decide +kernel)]; exact ⟨rfl, rfl⟩)
theorem inboxResponses_name : Tryz.pinned.checked.prog.funcNamed Rows.inboxResponsesUptoRow.func = some 3 := by kernel_rfl
theorem inboxResponses_said : Rows.InboxResponsesUptoSaid :=
  OpenClaim.holds_of_cond 3 Tryz.f3 rfl rfl rfl rfl rfl rfl rfl ⟨rfl, rfl, rfl, rfl, rfl⟩ rfl rfl rfl rfl rfl inboxResponses_name Tryz.func3 inboxResponses_closed inboxResponses_inst inboxResponses_wrap
    (fun os started H enc _ F => by rw [OpenClaim.pre_eq_preRow]; exact inboxResponses_lifted os started H enc F)
end Go.Proofs.YteehjkfmlcfffaaGreatDoor
