/- ObjectMemory holds wherever what it reads is of bulk at most 1,048,576: what is answered is new memory, each time. Conditions: the bound of the row and its list of tables. -/
import Derived.Test.YtcdbppoohlabnaaGreatDoorCards
import Derived.Test.YtcdbppoohlabnaaGreatDoorTie
import Derived.Test.YtcdbppoohlabnaaGreatDoorObjM
import Derived.Test.YtcdbppoohlabnaaGreatDoorLaidU
import Derived.Test.YtcdbppoohlabnaaGreatDoorOpenA
import Derived.Test.YtcdbppoohlabnaaGreatDoorLaid
import Derived.Carry
import Derived.ChangeMaps
namespace Go.Proofs.YtcdbppoohlabnaaGreatDoor
open Go.ChangeShapes Go.WideShapes Go.ChangeAt Go.RowKit

set_option maxRecDepth 100000 in
theorem objectMemory_contract (H : Type) (enc : TypeId × Value → H) (W : World) (base : Nat) (args : Array Value) (ds gs : List (DataW H)) (before : List MemPlace)
    (hval : ∀ (j : Nat) t v, Tryz.f6.params[j]? = some t → args[j]? = some v → Value.okWide Tryz.prog W .any base t v)
    (hW : DataW.Whole enc Tryz.prog Tryz.f6.params.toList Rows.objectMemorySpec.vars false W args.toList ds gs before) (hk : Rows.uptoSmall H (ds ++ gs) = true) (hL : laidMetH Tryz.prog Rows.objectMemoryUptoRow.laid W) (hsh : W.ShapedOpen Tryz.prog) :
    Calls Tryz.prog 6 args W fun e W' => ∃ v, e = .returned v ∧ Rows.objectMemorySpec.post enc Tryz.prog Tryz.f6 false true false false W args v W' := by
  have hW' := hW
  obtain ⟨p, q, hA0, hV, rfl, hfz, hnd⟩ := hW
  have hA : DataW.TrodAll enc Tryz.prog W 0 (fun _ => true) true Tryz.f6.params.toList args.toList ds p := hA0
  rw [Tryz.params6] at hA hval
  obtain ⟨v0, d0, rfl, rfl, h0⟩ := trodAll_one hA
  obtain ⟨p0, rfl⟩ : ∃ p0, p0 = p := ⟨p, rfl⟩
  obtain ⟨rfl, rfl⟩ := trodVars_none hV
  obtain ⟨k0, u0, s0, r0, m0, A0, n0, c0, fs0, X0, nb0, cb0, body0, a0, g0, rfl, hl0, hx0, hlb0, hX0, hbk0⟩ := open_entry (hval 0 29 v0 rfl rfl) h0
  subst hlb0
  subst hl0
  clear hA0
  simp only [List.append_nil] at hW' hk
  have hlt : ∀ x ∈ p0, x.block < W.heap.size := fun x hx => by simpa using hW'.lt x (by simpa using hx)
  have hb : F.bulk fs0 + k0.size + u0.size + r0.size + body0.length ≤ 1048576 := by
    have h : Rows.uptoBulkAll [d0] ≤ 1048576 := of_decide_eq_true hk
    simp only [Rows.uptoBulkAll] at h
    omega
  obtain hb0 := hb
  have ht : TabOk W := tab_of hL (by kernel_rfl)
  have hlib : LibOk W := lib_of hL hsh (by kernel_rfl)
  have he : ErrOk W := err_of hL (by kernel_rfl) (by kernel_rfl)
  refine (objectMemory_any k0 u0 s0 r0 m0 A0 c0 fs0 X0 cb0 body0 a0 g0 W (by omega) (by omega) (by omega) (by omega) (by omega) hx0 hX0 hlib he ht).mono fun e W' ⟨he, hw⟩ => ?_
  subst he
  exact ⟨_, rfl, post_of_below (pa := p0) (pv := []) hW' (fun _ _ _ => trodAll_mk1 (shut_bool Tryz.underlying4 true))
    (fun sp hsp => by
      have k0 := again (by kernel_rfl) (of_decide_eq_true (by kernel_rfl)) h0 hw (fun x hx => hlt x (by simp [hx])) sp (fun x hx => hsp x (by simp [hx]))
      have := trodAll_mk1 k0
      exact this) (fun _ _ => rfl) (by simp)
    hw (ok_one (by kernel_rfl) rfl (okWide_bool_mk Tryz.underlying4 true))⟩

theorem objectMemory_met (os : Os) : laidMet Tryz.prog Rows.objectMemoryUptoRow.laid ((World.laidAll Tryz.prog os Rows.objectMemoryUptoRow.laid).forCall (fun _ _ => 0) ⟨#[], #[.agg #[.string ⟨#[]⟩, .string ⟨#[]⟩, .int .i64 0, .string ⟨#[]⟩, .int .i64 0, .slice none 0 0, .slice none 0 0, .int .i64 0, .int .i64 0]], []⟩).memory :=
  laidMet_laidAll _ (by kernel_rfl) (by kernel_rfl)
theorem objectMemory_reads (os : Os) {H : Type} (enc : TypeId × Value → H) : ∃ places, DataW.whole enc Tryz.prog ((World.laidAll Tryz.prog os Rows.objectMemoryUptoRow.laid).forCall (fun _ _ => 0) ⟨#[], #[.agg #[.string ⟨#[]⟩, .string ⟨#[]⟩, .int .i64 0, .string ⟨#[]⟩, .int .i64 0, .slice none 0 0, .slice none 0 0, .int .i64 0, .int .i64 0]], []⟩).memory Tryz.f6.params.toList Rows.objectMemorySpec.vars false #[Value.agg #[.string ⟨#[]⟩, .string ⟨#[]⟩, .int .i64 0, .string ⟨#[]⟩, .int .i64 0, .slice none 0 0, .slice none 0 0, .int .i64 0, .int .i64 0]].toList 8 = some ([.agg [.lit (.string []), .lit (.string []), .agg [.lit (.int .i64 0), .lit (.string []), .lit (.int .i64 0), .nil], .nil, .lit (.int .i64 0), .lit (.int .i64 0)]], [], places) :=
  ⟨[], by kernel_rfl⟩

set_option maxRecDepth 100000 in
theorem objectMemory_lifted (os : Os) (started : os.Started) (H : Type) (enc : TypeId × Value → H) (F : Stop.Interp) :
    ReturnsInHanded {} Tryz.checked os 6 .any ((Rows.OpenSpec.upto Rows.objectMemorySpec).preRow enc Tryz.prog Tryz.f6 Rows.objectMemoryUptoRow.domain false Rows.objectMemoryUptoRow.laid) (((Rows.OpenSpec.upto Rows.objectMemorySpec).at F).post enc Tryz.prog Tryz.f6 false true false false) := by
  obtain ⟨places, hx⟩ := objectMemory_reads os enc
  refine returnsInHanded_of_row (C := Tryz.checked) (s := Rows.OpenSpec.upto Rows.objectMemorySpec) own_ started (by kernel_rfl) Tryz.func6
    (witness_row_at (enc := enc) (C := Tryz.checked) false (World.laidAll Tryz.prog os Rows.objectMemoryUptoRow.laid) #[.agg #[.string ⟨#[]⟩, .string ⟨#[]⟩, .int .i64 0, .string ⟨#[]⟩, .int .i64 0, .slice none 0 0, .slice none 0 0, .int .i64 0, .int .i64 0]] (World.laidAll_os _ _ _) (by kernel_rfl) (by kernel_rfl) (by kernel_rfl)
      (OpenSpec.preRow_of_cond 8 hx (by kernel_rfl) (fun k hk => by cases hk; kernel_rfl) (by kernel_rfl) (objectMemory_met os))) ?_
  intro W base args ds gs before hval hW _ hcond _ hL hsh _
  exact objectMemory_contract H enc W base args ds gs before hval hW (hcond _ rfl) hL hsh

theorem objectMemory_closed : joinedFacts Tryz.pinned.checked.prog 6 Tryz.f6 (Rows.OpenSpec.upto Rows.objectMemorySpec).bare Rows.objectMemoryUptoRow = true := by kernel_rfl
theorem objectMemory_inst : Tryz.f6.isInstance Tryz.pinned.checked.prog Rows.objectMemoryUptoRow.origin Rows.objectMemoryUptoRow.targs := of_decide_eq_true (by kernel_rfl)
theorem objectMemory_wrap : Tryz.f6.isWrapper Tryz.pinned.checked.prog Rows.objectMemoryUptoRow.wrapper Rows.objectMemoryUptoRow.mainSum := by unfold Func.isWrapper; first | (rw [if_pos (by decide +kernel)]; kernel_rfl) | (rw [if_neg (by decide +kernel)]; exact ⟨rfl, rfl⟩)
theorem objectMemory_name : Tryz.pinned.checked.prog.funcNamed Rows.objectMemoryUptoRow.func = some 6 := by kernel_rfl
theorem objectMemory_said : Rows.ObjectMemoryUptoSaid :=
  OpenClaim.holds_of_cond 6 Tryz.f6 rfl rfl rfl rfl rfl rfl rfl ⟨rfl, rfl, rfl, rfl, rfl⟩ rfl rfl rfl rfl rfl objectMemory_name Tryz.func6 objectMemory_closed objectMemory_inst objectMemory_wrap
    (fun os started H enc _ F => by rw [OpenClaim.pre_eq_preRow]; exact objectMemory_lifted os started H enc F)

theorem objectMemory_plain (f : FuncId) (fn : Func) (hf : Tryz.pinned.checked.prog.funcNamed "conduit/conduitlaw12.ObjectMemory" = some f) (hfn : Tryz.pinned.checked.prog.funcs[f]? = some fn) :
    true = Tryz.pinned.checked.prog.looks [] ∧ ∀ (j : Nat) t, fn.params[j]? = some t → Tryz.pinned.checked.prog.wantsStandIn t = false := by
  obtain rfl : f = 6 := Option.some.inj ((show Tryz.prog.funcNamed "conduit/conduitlaw12.ObjectMemory" = some 6 by kernel_rfl).symm.trans hf) |>.symm
  obtain rfl : fn = Tryz.f6 := (Option.some.inj (Tryz.func6.symm.trans hfn)).symm
  refine ⟨by kernel_rfl, fun j t ht => ?_⟩
  rw [Tryz.params6] at ht
  have hm := Array.mem_of_getElem? ht
  simp only [List.mem_toArray, List.mem_cons, List.mem_nil_iff, or_false] at hm
  subst hm
  · exact (show Tryz.prog.wantsStandIn 29 = false by kernel_rfl)

theorem objectMemory_holds : Rows.ObjectMemoryUptoCardSaid :=
  Claim7.holds_tied_plain_at .later [] _ _ _ _ objectMemory_said (fun _ h => by cases h) (by kernel_rfl) (fun _ h => by cases h) objectMemoryUpto_row_tie rfl ⟨rfl, rfl⟩ (by kernel_rfl) rfl objectMemory_plain (by kernel_rfl)
end Go.Proofs.YtcdbppoohlabnaaGreatDoor
