/- ObjectDecodes holds wherever what it reads is of at most 1,048,576 bytes: every Decode answers the entry or the error of the document, and the bytes are left as they were. Conditions: the bound of the row and its list of tables. -/
import Derived.Test.YtcdbppoohlabnaaGreatDoorCards
import Derived.Test.YtcdbppoohlabnaaGreatDoorTie
import Derived.Test.YtcdbppoohlabnaaGreatDoorObjX
import Derived.Test.YtcdbppoohlabnaaGreatDoorLaidU
import Derived.Test.YtcdbppoohlabnaaGreatDoorOpenA
import Derived.Test.YtcdbppoohlabnaaGreatDoorLaid
import Derived.Carry
import Derived.ChangeMaps
namespace Go.Proofs.YtcdbppoohlabnaaGreatDoor
open Go.ChangeShapes Go.WideShapes Go.ChangeAt Go.RowKit

set_option maxRecDepth 100000 in
theorem objectDecodes_contract (H : Type) (enc : TypeId × Value → H) (W : World) (base : Nat) (args : Array Value) (ds gs : List (DataW H)) (before : List MemPlace)
    (hval : ∀ (j : Nat) t v, Tryz.f3.params[j]? = some t → args[j]? = some v → Value.okWide Tryz.prog W .any base t v)
    (hW : DataW.Whole enc Tryz.prog Tryz.f3.params.toList Rows.objectDecodesSpec.vars false W args.toList ds gs before) (hk : Rows.uptoSmall H (ds ++ gs) = true) (hL : laidMetH Tryz.prog Rows.objectDecodesUptoRow.laid W) (hsh : W.ShapedOpen Tryz.prog) :
    Calls Tryz.prog 3 args W fun e W' => ∃ v, e = .returned v ∧ Rows.objectDecodesSpec.post enc Tryz.prog Tryz.f3 false true false false W args v W' := by
  have hW' := hW
  obtain ⟨p, q, hA0, hV, rfl, hfz, hnd⟩ := hW
  have hA : DataW.TrodAll enc Tryz.prog W 0 (fun _ => true) true Tryz.f3.params.toList args.toList ds p := hA0
  rw [Tryz.params3] at hA hval
  obtain ⟨v0, d0, rfl, rfl, h0⟩ := trodAll_one hA
  obtain ⟨p0, rfl⟩ : ∃ p0, p0 = p := ⟨p, rfl⟩
  obtain ⟨rfl, rfl⟩ := trodVars_none hV
  obtain ⟨A0, n0, c0, bs0, rfl, hl0, hx0, hc0, hbk0, hnil0, hspot0⟩ := open_bytes (hval 0 22 v0 rfl rfl) h0
  subst hl0
  clear hA0
  simp only [List.append_nil] at hW' hk
  have hlt : ∀ x ∈ p0, x.block < W.heap.size := fun x hx => by simpa using hW'.lt x (by simpa using hx)
  have hb : bs0.length ≤ 1048576 := by
    have h : Rows.uptoBulkAll [d0] ≤ 1048576 := of_decide_eq_true hk
    simp only [Rows.uptoBulkAll] at h
    omega
  obtain hb0 := hb
  have ht : TabOk W := tab_of hL (by kernel_rfl)
  have hlib : LibOk W := lib_of hL hsh (by kernel_rfl)
  have he : ErrOk W := err_of hL (by kernel_rfl) (by kernel_rfl)
  refine (objectDecodes_any A0 bs0.length c0 bs0 W (by omega) rfl hc0 hx0 hlib he ht).mono fun e W' ⟨he, hw⟩ => ?_
  subst he
  exact ⟨_, rfl, post_of_below (pa := p0) (pv := []) hW' (fun _ _ _ => trodAll_mk1 (shut_bool Tryz.underlying4 true))
    (fun sp hsp => by
      have k0 := again (by kernel_rfl) (of_decide_eq_true (by kernel_rfl)) h0 hw (fun x hx => hlt x (by simp [hx])) sp (fun x hx => hsp x (by simp [hx]))
      have := trodAll_mk1 k0
      exact this) (fun _ _ => rfl) (by simp)
    hw (ok_one (by kernel_rfl) rfl (okWide_bool_mk Tryz.underlying4 true))⟩

theorem objectDecodes_met (os : Os) : laidMet Tryz.prog Rows.objectDecodesUptoRow.laid ((World.laidAll Tryz.prog os Rows.objectDecodesUptoRow.laid).forCall (fun _ _ => 0) ⟨#[], #[.slice none 0 0], []⟩).memory :=
  laidMet_laidAll _ (by kernel_rfl) (by kernel_rfl)
theorem objectDecodes_reads (os : Os) {H : Type} (enc : TypeId × Value → H) : ∃ places, DataW.whole enc Tryz.prog ((World.laidAll Tryz.prog os Rows.objectDecodesUptoRow.laid).forCall (fun _ _ => 0) ⟨#[], #[.slice none 0 0], []⟩).memory Tryz.f3.params.toList Rows.objectDecodesSpec.vars false #[Value.slice none 0 0].toList 8 = some ([.nil], [], places) :=
  ⟨[], by kernel_rfl⟩

set_option maxRecDepth 100000 in
theorem objectDecodes_lifted (os : Os) (started : os.Started) (H : Type) (enc : TypeId × Value → H) (F : Stop.Interp) :
    ReturnsInHanded {} Tryz.checked os 3 .any ((Rows.OpenSpec.upto Rows.objectDecodesSpec).preRow enc Tryz.prog Tryz.f3 Rows.objectDecodesUptoRow.domain false Rows.objectDecodesUptoRow.laid) (((Rows.OpenSpec.upto Rows.objectDecodesSpec).at F).post enc Tryz.prog Tryz.f3 false true false false) := by
  obtain ⟨places, hx⟩ := objectDecodes_reads os enc
  refine returnsInHanded_of_row (C := Tryz.checked) (s := Rows.OpenSpec.upto Rows.objectDecodesSpec) own_ started (by kernel_rfl) Tryz.func3
    (witness_row_at (enc := enc) (C := Tryz.checked) false (World.laidAll Tryz.prog os Rows.objectDecodesUptoRow.laid) #[.slice none 0 0] (World.laidAll_os _ _ _) (by kernel_rfl) (by kernel_rfl) (by kernel_rfl)
      (OpenSpec.preRow_of_cond 8 hx (by kernel_rfl) (fun k hk => by cases hk; kernel_rfl) (by kernel_rfl) (objectDecodes_met os))) ?_
  intro W base args ds gs before hval hW _ hcond _ hL hsh _
  exact objectDecodes_contract H enc W base args ds gs before hval hW (hcond _ rfl) hL hsh

theorem objectDecodes_closed : joinedFacts Tryz.pinned.checked.prog 3 Tryz.f3 (Rows.OpenSpec.upto Rows.objectDecodesSpec).bare Rows.objectDecodesUptoRow = true := by kernel_rfl
theorem objectDecodes_inst : Tryz.f3.isInstance Tryz.pinned.checked.prog Rows.objectDecodesUptoRow.origin Rows.objectDecodesUptoRow.targs := of_decide_eq_true (by kernel_rfl)
theorem objectDecodes_wrap : Tryz.f3.isWrapper Tryz.pinned.checked.prog Rows.objectDecodesUptoRow.wrapper Rows.objectDecodesUptoRow.mainSum := by unfold Func.isWrapper; first | (rw [if_pos (by decide +kernel)]; kernel_rfl) | (rw [if_neg (by decide +kernel)]; exact ⟨rfl, rfl⟩)
theorem objectDecodes_name : Tryz.pinned.checked.prog.funcNamed Rows.objectDecodesUptoRow.func = some 3 := by kernel_rfl
theorem objectDecodes_said : Rows.ObjectDecodesUptoSaid :=
  OpenClaim.holds_of_cond 3 Tryz.f3 rfl rfl rfl rfl rfl rfl rfl ⟨rfl, rfl, rfl, rfl, rfl⟩ rfl rfl rfl rfl rfl objectDecodes_name Tryz.func3 objectDecodes_closed objectDecodes_inst objectDecodes_wrap
    (fun os started H enc _ F => by rw [OpenClaim.pre_eq_preRow]; exact objectDecodes_lifted os started H enc F)

theorem objectDecodes_plain (f : FuncId) (fn : Func) (hf : Tryz.pinned.checked.prog.funcNamed "conduit/conduitlaw12.ObjectDecodes" = some f) (hfn : Tryz.pinned.checked.prog.funcs[f]? = some fn) :
    true = Tryz.pinned.checked.prog.looks [] ∧ ∀ (j : Nat) t, fn.params[j]? = some t → Tryz.pinned.checked.prog.wantsStandIn t = false := by
  obtain rfl : f = 3 := Option.some.inj ((show Tryz.prog.funcNamed "conduit/conduitlaw12.ObjectDecodes" = some 3 by kernel_rfl).symm.trans hf) |>.symm
  obtain rfl : fn = Tryz.f3 := (Option.some.inj (Tryz.func3.symm.trans hfn)).symm
  refine ⟨by kernel_rfl, fun j t ht => ?_⟩
  rw [Tryz.params3] at ht
  have hm := Array.mem_of_getElem? ht
  simp only [List.mem_toArray, List.mem_cons, List.mem_nil_iff, or_false] at hm
  subst hm
  · exact (show Tryz.prog.wantsStandIn 22 = false by kernel_rfl)

theorem objectDecodes_holds : Rows.ObjectDecodesUptoCardSaid :=
  Claim7.holds_tied_plain_at .later [] _ _ _ _ objectDecodes_said (fun _ h => by cases h) (by kernel_rfl) (fun _ h => by cases h) objectDecodesUpto_row_tie rfl ⟨rfl, rfl⟩ (by kernel_rfl) rfl objectDecodes_plain (by kernel_rfl)
end Go.Proofs.YtcdbppoohlabnaaGreatDoor
