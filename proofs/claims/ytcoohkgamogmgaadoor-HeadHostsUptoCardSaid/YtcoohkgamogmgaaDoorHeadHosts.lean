/- HeadHosts holds wherever what it reads is of at most 1,048,576 bytes: no request is told without a method and a target, one host at most, and within the bounds, and the bytes are left as they were. Conditions: the bound of the row and its list of tables. -/
import Derived.Test.YtcoohkgamogmgaaDoorCards
import Derived.Test.YtcoohkgamogmgaaDoorTie
import Derived.Test.YtcoohkgamogmgaaDoorHosts
import Derived.Test.YtcoohkgamogmgaaDoorLaidU
import Derived.Test.YtcoohkgamogmgaaDoorOpen3
import Derived.Carry
import Derived.ChangeMaps
namespace Go.Proofs.YtcoohkgamogmgaaDoor
open Go.ChangeShapes Go.WideShapes Go.ChangeAt Go.RowKit

set_option maxRecDepth 100000 in
theorem headHosts_contract (H : Type) (enc : TypeId × Value → H) (W : World) (base : Nat) (args : Array Value) (ds gs : List (DataW H)) (before : List MemPlace)
    (hval : ∀ (j : Nat) t v, Tryd.f11.params[j]? = some t → args[j]? = some v → Value.okWide Tryd.prog W .any base t v)
    (hW : DataW.Whole enc Tryd.prog Tryd.f11.params.toList Rows.headHostsSpec.vars false W args.toList ds gs before) (hk : Rows.uptoSmall H (ds ++ gs) = true) (hL : laidMetH Tryd.prog Rows.headHostsUptoRow.laid W) (hsh : W.ShapedOpen Tryd.prog) :
    Calls Tryd.prog 11 args W fun e W' => ∃ v, e = .returned v ∧ Rows.headHostsSpec.post enc Tryd.prog Tryd.f11 false true false false W args v W' := by
  have hW' := hW
  obtain ⟨p, q, hA0, hV, rfl, hfz, hnd⟩ := hW
  have hA : DataW.TrodAll enc Tryd.prog W 0 (fun _ => true) true Tryd.f11.params.toList args.toList ds p := hA0
  rw [Tryd.params11] at hA hval
  obtain ⟨v0, d0, rfl, rfl, h0⟩ := trodAll_one hA
  obtain ⟨p0, rfl⟩ : ∃ p0, p0 = p := ⟨p, rfl⟩
  obtain ⟨rfl, rfl⟩ := trodVars_none hV
  obtain ⟨A0, n0, c0, bs0, rfl, hl0, hx0, hc0, hbk0, hnil0⟩ := open_bytes (hval 0 29 v0 rfl rfl) h0
  subst hl0
  clear hA0
  simp only [List.append_nil] at hW' hk
  have hlt : ∀ x ∈ p0, x.block < W.heap.size := fun x hx => by simpa using hW'.lt x (by simpa using hx)
  have hb : bs0.length ≤ 1048576 := by
    have h : Rows.uptoBulkAll [d0] ≤ 1048576 := of_decide_eq_true hk
    simp only [Rows.uptoBulkAll] at h
    omega
  obtain hb0 := hb
  have ht : LibOk W := lib_of hL hsh (by kernel_rfl)
  refine (headHosts_any A0 bs0.length c0 bs0 W (by omega) rfl hc0 hx0 ht).mono fun e W' ⟨he, hw⟩ => ?_
  subst he
  exact ⟨_, rfl, post_of_below (pa := p0) (pv := []) hW' (fun _ _ _ => trodAll_mk1 (shut_bool Tryd.underlying4 true))
    (fun sp hsp => by
      have k0 := again (by kernel_rfl) (of_decide_eq_true (by kernel_rfl)) h0 hw (fun x hx => hlt x (by simp [hx])) sp (fun x hx => hsp x (by simp [hx]))
      have := trodAll_mk1 k0
      exact this) (fun _ _ => rfl) (by simp)
    hw (ok_one (by kernel_rfl) rfl (okWide_bool_mk Tryd.underlying4 true))⟩

theorem headHosts_met (os : Os) : laidMet Tryd.prog Rows.headHostsUptoRow.laid ((World.laidAll Tryd.prog os Rows.headHostsUptoRow.laid).forCall (fun _ _ => 0) ⟨#[], #[.slice none 0 0], []⟩).memory :=
  laidMet_laidAll _ (by kernel_rfl) (by kernel_rfl)
theorem headHosts_reads (os : Os) {H : Type} (enc : TypeId × Value → H) : ∃ places, DataW.whole enc Tryd.prog ((World.laidAll Tryd.prog os Rows.headHostsUptoRow.laid).forCall (fun _ _ => 0) ⟨#[], #[.slice none 0 0], []⟩).memory Tryd.f11.params.toList Rows.headHostsSpec.vars false #[Value.slice none 0 0].toList 8 = some ([.nil], [], places) :=
  ⟨[], by kernel_rfl⟩

set_option maxRecDepth 100000 in
theorem headHosts_lifted (os : Os) (started : os.Started) (H : Type) (enc : TypeId × Value → H) (F : Stop.Interp) :
    ReturnsInHanded {} Tryd.checked os 11 .any ((Rows.OpenSpec.upto Rows.headHostsSpec).preRow enc Tryd.prog Tryd.f11 Rows.headHostsUptoRow.domain false Rows.headHostsUptoRow.laid) (((Rows.OpenSpec.upto Rows.headHostsSpec).at F).post enc Tryd.prog Tryd.f11 false true false false) := by
  obtain ⟨places, hx⟩ := headHosts_reads os enc
  refine returnsInHanded_of_row (C := Tryd.checked) (s := Rows.OpenSpec.upto Rows.headHostsSpec) own_ started (by kernel_rfl) Tryd.func11
    (witness_row_at (enc := enc) (C := Tryd.checked) false (World.laidAll Tryd.prog os Rows.headHostsUptoRow.laid) #[.slice none 0 0] (World.laidAll_os _ _ _) (by kernel_rfl) (by kernel_rfl) (by kernel_rfl)
      (OpenSpec.preRow_of_cond 8 hx (by kernel_rfl) (fun k hk => by cases hk; kernel_rfl) (by kernel_rfl) (headHosts_met os))) ?_
  intro W base args ds gs before hval hW _ hcond _ hL hsh _
  exact headHosts_contract H enc W base args ds gs before hval hW (hcond _ rfl) hL hsh

theorem headHosts_said : Rows.HeadHostsUptoSaid :=
  OpenClaim.holds_of_cond 11 Tryd.f11 rfl rfl rfl rfl rfl rfl rfl ⟨rfl, rfl, rfl, rfl, rfl⟩ rfl rfl rfl rfl rfl (by kernel_rfl) Tryd.func11 (by kernel_rfl)
    (of_decide_eq_true (by kernel_rfl)) (by unfold Func.isWrapper; first | (rw [if_pos (by decide +kernel)]; kernel_rfl) | (rw [if_neg (by decide +kernel)]; exact ⟨rfl, rfl⟩))
    (fun os started H enc _ F => by rw [OpenClaim.pre_eq_preRow]; exact headHosts_lifted os started H enc F)

theorem headHosts_plain (f : FuncId) (fn : Func) (hf : Tryd.pinned.checked.prog.funcNamed "conduit/conduitlaw05.HeadHosts" = some f) (hfn : Tryd.pinned.checked.prog.funcs[f]? = some fn) :
    false = Tryd.pinned.checked.prog.looks [] ∧ ∀ (j : Nat) t, fn.params[j]? = some t → Tryd.pinned.checked.prog.wantsStandIn t = false := by
  obtain rfl : f = 11 := Option.some.inj ((show Tryd.prog.funcNamed "conduit/conduitlaw05.HeadHosts" = some 11 by kernel_rfl).symm.trans hf) |>.symm
  obtain rfl : fn = Tryd.f11 := (Option.some.inj (Tryd.func11.symm.trans hfn)).symm
  refine ⟨by kernel_rfl, fun j t ht => ?_⟩
  rw [Tryd.params11] at ht
  have hm := Array.mem_of_getElem? ht
  simp only [List.mem_toArray, List.mem_cons, List.mem_nil_iff, or_false] at hm
  subst hm
  · exact (show Tryd.prog.wantsStandIn 29 = false by kernel_rfl)

theorem headHosts_holds : Rows.HeadHostsUptoCardSaid :=
  Claim7.holds_tied_plain_at .later [] _ _ _ _ headHosts_said (fun _ h => by cases h) (by kernel_rfl) (fun _ h => by cases h) headHostsUpto_row_tie rfl ⟨rfl, rfl⟩ (by kernel_rfl) rfl headHosts_plain (by kernel_rfl)
end Go.Proofs.YtcoohkgamogmgaaDoor
