/- InboxEnds holds wherever what it reads is of at most 1,048,576 bytes: a response that is told while more may come is told at the end, too, and more is needed only where the end would cut it, or where it goes on to the close. Conditions: the bound of the row and its list of tables. -/
import Derived.Test.YtcdbppoohlabnaaGreatDoorCards
import Derived.Test.YtcdbppoohlabnaaGreatDoorTie
import Derived.Test.YtcdbppoohlabnaaGreatDoorInbE
import Derived.Test.YtcdbppoohlabnaaGreatDoorLaidU
import Derived.Test.YtcdbppoohlabnaaGreatDoorOpenA
import Derived.Test.YtcdbppoohlabnaaGreatDoorLaid
import Derived.Carry
import Derived.ChangeMaps
namespace Go.Proofs.YtcdbppoohlabnaaGreatDoor
open Go.ChangeShapes Go.WideShapes Go.ChangeAt Go.RowKit

set_option maxRecDepth 100000 in
theorem inboxEnds_contract (H : Type) (enc : TypeId × Value → H) (W : World) (base : Nat) (args : Array Value) (ds gs : List (DataW H)) (before : List MemPlace)
    (hval : ∀ (j : Nat) t v, Tryz.f10.params[j]? = some t → args[j]? = some v → Value.okWide Tryz.prog W .any base t v)
    (hW : DataW.Whole enc Tryz.prog Tryz.f10.params.toList Rows.inboxEndsSpec.vars false W args.toList ds gs before) (hk : Rows.uptoSmall H (ds ++ gs) = true) (hL : laidMetH Tryz.prog Rows.inboxEndsUptoRow.laid W) (hsh : W.ShapedOpen Tryz.prog) :
    Calls Tryz.prog 10 args W fun e W' => ∃ v, e = .returned v ∧ Rows.inboxEndsSpec.post enc Tryz.prog Tryz.f10 false true false false W args v W' := by
  have hW' := hW
  obtain ⟨p, q, hA0, hV, rfl, hfz, hnd⟩ := hW
  have hA : DataW.TrodAll enc Tryz.prog W 0 (fun _ => true) true Tryz.f10.params.toList args.toList ds p := hA0
  rw [Tryz.params10] at hA hval
  obtain ⟨v0, v1, d0, d1, p0, p1, rfl, rfl, rfl, h0, h1⟩ := trodAll_two hA
  obtain ⟨rfl, rfl⟩ := trodVars_none hV
  obtain ⟨A0, n0, c0, bs0, rfl, hl0, hx0, hc0, hbk0, hnil0, hspot0⟩ := open_bytes (hval 0 22 v0 rfl rfl) h0
  have h1k := h1
  obtain ⟨s1, rfl, rfl, rfl, _⟩ := Go.ChangeMaps.open_string Tryz.underlying9 (hval 1 9 v1 rfl rfl) h1
  subst hl0
  clear hA0
  simp only [List.append_nil] at hW' hk
  have hlt : ∀ x ∈ p0, x.block < W.heap.size := fun x hx => by simpa using hW'.lt x (by simpa using hx)
  have hb : bs0.length ≤ 1048576 ∧ s1.size ≤ 1048576 := by
    have h : Rows.uptoBulkAll [d0, DataW.lit (.string s1.data.toList)] ≤ 1048576 := of_decide_eq_true hk
    simp only [Rows.uptoBulkAll, Rows.uptoBulk, Array.length_toList] at h
    have : s1.size = s1.data.size := rfl
    omega
  obtain ⟨hb0, hb1⟩ := hb
  have ht : LibOk W := lib_of hL hsh (by kernel_rfl)
  have he : ErrOk W := err_of hL (by kernel_rfl) (by kernel_rfl)
  refine (inboxEnds_any A0 bs0.length c0 bs0 s1 W (by omega) rfl hx0 ht he).mono fun e W' ⟨he, hw⟩ => ?_
  subst he
  exact ⟨_, rfl, post_of_below (pa := p0) (pv := []) hW' (fun _ _ _ => trodAll_mk1 (shut_bool Tryz.underlying4 true))
    (fun sp hsp => by
      have k0 := again (by kernel_rfl) (of_decide_eq_true (by kernel_rfl)) h0 hw (fun x hx => hlt x (by simp [hx])) sp (fun x hx => hsp x (by simp [hx]))
      have k1 := again (by kernel_rfl) (of_decide_eq_true (by kernel_rfl)) h1k hw (fun x hx => by cases hx) sp (fun x hx => by cases hx)
      have := trodAll_mk2 k0 k1
      simp only [List.append_nil] at this
      exact this) (fun _ _ => rfl) (by simp)
    hw (ok_one (by kernel_rfl) rfl (okWide_bool_mk Tryz.underlying4 true))⟩

theorem inboxEnds_met (os : Os) : laidMet Tryz.prog Rows.inboxEndsUptoRow.laid ((World.laidAll Tryz.prog os Rows.inboxEndsUptoRow.laid).forCall (fun _ _ => 0) ⟨#[], #[.slice none 0 0, .string ⟨#[]⟩], []⟩).memory :=
  laidMet_laidAll _ (by kernel_rfl) (by kernel_rfl)
theorem inboxEnds_reads (os : Os) {H : Type} (enc : TypeId × Value → H) : ∃ places, DataW.whole enc Tryz.prog ((World.laidAll Tryz.prog os Rows.inboxEndsUptoRow.laid).forCall (fun _ _ => 0) ⟨#[], #[.slice none 0 0, .string ⟨#[]⟩], []⟩).memory Tryz.f10.params.toList Rows.inboxEndsSpec.vars false #[Value.slice none 0 0, .string ⟨#[]⟩].toList 8 = some ([.nil, .lit (.string [])], [], places) :=
  ⟨[], by kernel_rfl⟩

set_option maxRecDepth 100000 in
theorem inboxEnds_lifted (os : Os) (started : os.Started) (H : Type) (enc : TypeId × Value → H) (F : Stop.Interp) :
    ReturnsInHanded {} Tryz.checked os 10 .any ((Rows.OpenSpec.upto Rows.inboxEndsSpec).preRow enc Tryz.prog Tryz.f10 Rows.inboxEndsUptoRow.domain false Rows.inboxEndsUptoRow.laid) (((Rows.OpenSpec.upto Rows.inboxEndsSpec).at F).post enc Tryz.prog Tryz.f10 false true false false) := by
  obtain ⟨places, hx⟩ := inboxEnds_reads os enc
  refine returnsInHanded_of_row (C := Tryz.checked) (s := Rows.OpenSpec.upto Rows.inboxEndsSpec) own_ started (by kernel_rfl) Tryz.func10
    (witness_row_at (enc := enc) (C := Tryz.checked) false (World.laidAll Tryz.prog os Rows.inboxEndsUptoRow.laid) #[.slice none 0 0, .string ⟨#[]⟩] (World.laidAll_os _ _ _) (by kernel_rfl) (by kernel_rfl) (by kernel_rfl)
      (OpenSpec.preRow_of_cond 8 hx (by kernel_rfl) (fun k hk => by cases hk; kernel_rfl) (by kernel_rfl) (inboxEnds_met os))) ?_
  intro W base args ds gs before hval hW _ hcond _ hL hsh _
  exact inboxEnds_contract H enc W base args ds gs before hval hW (hcond _ rfl) hL hsh

theorem inboxEnds_closed : joinedFacts Tryz.pinned.checked.prog 10 Tryz.f10 (Rows.OpenSpec.upto Rows.inboxEndsSpec).bare Rows.inboxEndsUptoRow = true := by kernel_rfl
theorem inboxEnds_inst : Tryz.f10.isInstance Tryz.pinned.checked.prog Rows.inboxEndsUptoRow.origin Rows.inboxEndsUptoRow.targs := of_decide_eq_true (by kernel_rfl)
theorem inboxEnds_wrap : Tryz.f10.isWrapper Tryz.pinned.checked.prog Rows.inboxEndsUptoRow.wrapper Rows.inboxEndsUptoRow.mainSum := by unfold Func.isWrapper; first | (rw [if_pos (by decide +kernel)]; kernel_rfl) | (rw [if_neg (by decide +kernel)]; exact ⟨rfl, rfl⟩)
theorem inboxEnds_name : Tryz.pinned.checked.prog.funcNamed Rows.inboxEndsUptoRow.func = some 10 := by kernel_rfl
theorem inboxEnds_said : Rows.InboxEndsUptoSaid :=
  OpenClaim.holds_of_cond 10 Tryz.f10 rfl rfl rfl rfl rfl rfl rfl ⟨rfl, rfl, rfl, rfl, rfl⟩ rfl rfl rfl rfl rfl inboxEnds_name Tryz.func10 inboxEnds_closed inboxEnds_inst inboxEnds_wrap
    (fun os started H enc _ F => by rw [OpenClaim.pre_eq_preRow]; exact inboxEnds_lifted os started H enc F)

theorem inboxEnds_plain (f : FuncId) (fn : Func) (hf : Tryz.pinned.checked.prog.funcNamed "conduit/conduitlaw08.InboxEnds" = some f) (hfn : Tryz.pinned.checked.prog.funcs[f]? = some fn) :
    true = Tryz.pinned.checked.prog.looks [] ∧ ∀ (j : Nat) t, fn.params[j]? = some t → Tryz.pinned.checked.prog.wantsStandIn t = false := by
  obtain rfl : f = 10 := Option.some.inj ((show Tryz.prog.funcNamed "conduit/conduitlaw08.InboxEnds" = some 10 by kernel_rfl).symm.trans hf) |>.symm
  obtain rfl : fn = Tryz.f10 := (Option.some.inj (Tryz.func10.symm.trans hfn)).symm
  refine ⟨by kernel_rfl, fun j t ht => ?_⟩
  rw [Tryz.params10] at ht
  have hm := Array.mem_of_getElem? ht
  simp only [List.mem_toArray, List.mem_cons, List.mem_nil_iff, or_false] at hm
  rcases hm with rfl | rfl
  · exact (show Tryz.prog.wantsStandIn 22 = false by kernel_rfl)
  · exact (show Tryz.prog.wantsStandIn 9 = false by kernel_rfl)

theorem inboxEnds_holds : Rows.InboxEndsUptoCardSaid :=
  Claim7.holds_tied_plain_at .later [] _ _ _ _ inboxEnds_said (fun _ h => by cases h) (by kernel_rfl) (fun _ h => by cases h) inboxEndsUpto_row_tie rfl ⟨rfl, rfl⟩ (by kernel_rfl) rfl inboxEnds_plain (by kernel_rfl)
end Go.Proofs.YtcdbppoohlabnaaGreatDoor
