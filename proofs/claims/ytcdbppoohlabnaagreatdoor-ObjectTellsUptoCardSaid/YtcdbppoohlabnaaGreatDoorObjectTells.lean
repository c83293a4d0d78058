/- ObjectTells holds wherever what it reads is of bulk at most 1,048,576: bytes of an entry of which one is turned, or that are cut or longer, are no entry's. Conditions: the bound of the row and its list of tables. -/
import Derived.Test.YtcdbppoohlabnaaGreatDoorCards
import Derived.Test.YtcdbppoohlabnaaGreatDoorTie
import Derived.Test.YtcdbppoohlabnaaGreatDoorObjZ
import Derived.Test.YtcdbppoohlabnaaGreatDoorLaidU
import Derived.Test.YtcdbppoohlabnaaGreatDoorOpenA
import Derived.Test.YtcdbppoohlabnaaGreatDoorLaid
import Derived.Carry
import Derived.ChangeMaps
namespace Go.Proofs.YtcdbppoohlabnaaGreatDoor
open Go.ChangeShapes Go.WideShapes Go.ChangeAt Go.RowKit

set_option maxRecDepth 100000 in
theorem objectTells_contract (H : Type) (enc : TypeId × Value → H) (W : World) (base : Nat) (args : Array Value) (ds gs : List (DataW H)) (before : List MemPlace)
    (hval : ∀ (j : Nat) t v, Tryz.f5.params[j]? = some t → args[j]? = some v → Value.okWide Tryz.prog W .any base t v)
    (hW : DataW.Whole enc Tryz.prog Tryz.f5.params.toList Rows.objectTellsSpec.vars false W args.toList ds gs before) (hk : Rows.uptoSmall H (ds ++ gs) = true) (hL : laidMetH Tryz.prog Rows.objectTellsUptoRow.laid W) (hsh : W.ShapedOpen Tryz.prog) :
    Calls Tryz.prog 5 args W fun e W' => ∃ v, e = .returned v ∧ Rows.objectTellsSpec.post enc Tryz.prog Tryz.f5 false true false false W args v W' := by
  have hW' := hW
  obtain ⟨p, q, hA0, hV, rfl, hfz, hnd⟩ := hW
  have hA : DataW.TrodAll enc Tryz.prog W 0 (fun _ => true) true Tryz.f5.params.toList args.toList ds p := hA0
  rw [Tryz.params5] at hA hval
  obtain ⟨v0, v1, v2, v3, d0, d1, d2, d3, p0, p1, p2, p3, rfl, rfl, rfl, h0, h1, h2, h3⟩ := trodAll_four hA
  obtain ⟨rfl, rfl⟩ := trodVars_none hV
  obtain ⟨k0, u0, s0, r0, m0, A0, n0, c0, fs0, X0, nb0, cb0, body0, a0, g0, rfl, hl0, hx0, hlb0, hX0, hbk0⟩ := open_entry (hval 0 29 v0 rfl rfl) h0
  subst hlb0
  have h1k := h1
  obtain ⟨m1, rfl, rfl, rfl, wm1⟩ := open_int Tryz.underlying3 (hval 1 3 v1 rfl rfl) h1
  have hm1 := int_bounds wm1
  have h2k := h2
  obtain ⟨m2, rfl, rfl, rfl, wm2⟩ := open_int Tryz.underlying5 (hval 2 5 v2 rfl rfl) h2
  obtain ⟨y2, rfl⟩ := u8_byte wm2
  obtain ⟨A3, n3, c3, bs3, rfl, hl3, hx3, hc3, hbk3, hnil3, hspot3⟩ := open_bytes (hval 3 22 v3 rfl rfl) h3
  subst hl0
  subst hl3
  clear hA0
  simp only [List.append_nil] at hW' hk
  have hlt : ∀ x ∈ p0 ++ (p3), x.block < W.heap.size := fun x hx => by simpa using hW'.lt x (by simpa using hx)
  have hb : F.bulk fs0 + k0.size + u0.size + r0.size + body0.length ≤ 1048576 ∧ bs3.length ≤ 1048576 := by
    have h : Rows.uptoBulkAll [d0, DataW.lit (.int .i64 m1), DataW.lit (.int .u8 y2.toNat), d3] ≤ 1048576 := of_decide_eq_true hk
    simp only [Rows.uptoBulkAll, Rows.uptoBulk] at h
    omega
  obtain ⟨hb0, hb3⟩ := hb
  have ht : TabOk W := tab_of hL (by kernel_rfl)
  have hlib : LibOk W := lib_of hL hsh (by kernel_rfl)
  have he : ErrOk W := err_of hL (by kernel_rfl) (by kernel_rfl)
  refine (objectTells_any k0 u0 s0 r0 m0 A0 c0 fs0 X0 cb0 body0 a0 g0 m1 y2 A3 bs3.length c3 bs3 W (by omega) (by omega) (by omega) (by omega) (by omega) hx0 hX0 (by omega) rfl hx3 hlib he ht).mono fun e W' ⟨he, hw⟩ => ?_
  subst he
  exact ⟨_, rfl, post_of_below (pa := p0 ++ (p3)) (pv := []) hW' (fun _ _ _ => trodAll_mk1 (shut_bool Tryz.underlying4 true))
    (fun sp hsp => by
      have k0 := again (by kernel_rfl) (of_decide_eq_true (by kernel_rfl)) h0 hw (fun x hx => hlt x (by simp [hx])) sp (fun x hx => hsp x (by simp [hx]))
      have k1 := again (by kernel_rfl) (of_decide_eq_true (by kernel_rfl)) h1k hw (fun x hx => by cases hx) sp (fun x hx => by cases hx)
      have k2 := again (by kernel_rfl) (of_decide_eq_true (by kernel_rfl)) h2k hw (fun x hx => by cases hx) sp (fun x hx => by cases hx)
      have k3 := again (by kernel_rfl) (of_decide_eq_true (by kernel_rfl)) h3 hw (fun x hx => hlt x (by simp [hx])) sp (fun x hx => hsp x (by simp [hx]))
      have := trodAll_mk4 k0 k1 k2 k3
      simp only [List.nil_append] at this
      exact this) (fun _ _ => rfl) (by simp)
    hw (ok_one (by kernel_rfl) rfl (okWide_bool_mk Tryz.underlying4 true))⟩

theorem objectTells_met (os : Os) : laidMet Tryz.prog Rows.objectTellsUptoRow.laid ((World.laidAll Tryz.prog os Rows.objectTellsUptoRow.laid).forCall (fun _ _ => 0) ⟨#[], #[.agg #[.string ⟨#[]⟩, .string ⟨#[]⟩, .int .i64 0, .string ⟨#[]⟩, .int .i64 0, .slice none 0 0, .slice none 0 0, .int .i64 0, .int .i64 0], .int .i64 0, .int .u8 0, .slice none 0 0], []⟩).memory :=
  laidMet_laidAll _ (by kernel_rfl) (by kernel_rfl)
theorem objectTells_reads (os : Os) {H : Type} (enc : TypeId × Value → H) : ∃ places, DataW.whole enc Tryz.prog ((World.laidAll Tryz.prog os Rows.objectTellsUptoRow.laid).forCall (fun _ _ => 0) ⟨#[], #[.agg #[.string ⟨#[]⟩, .string ⟨#[]⟩, .int .i64 0, .string ⟨#[]⟩, .int .i64 0, .slice none 0 0, .slice none 0 0, .int .i64 0, .int .i64 0], .int .i64 0, .int .u8 0, .slice none 0 0], []⟩).memory Tryz.f5.params.toList Rows.objectTellsSpec.vars false #[Value.agg #[.string ⟨#[]⟩, .string ⟨#[]⟩, .int .i64 0, .string ⟨#[]⟩, .int .i64 0, .slice none 0 0, .slice none 0 0, .int .i64 0, .int .i64 0], .int .i64 0, .int .u8 0, .slice none 0 0].toList 8 = some ([.agg [.lit (.string []), .lit (.string []), .agg [.lit (.int .i64 0), .lit (.string []), .lit (.int .i64 0), .nil], .nil, .lit (.int .i64 0), .lit (.int .i64 0)], .lit (.int .i64 0), .lit (.int .u8 0), .nil], [], places) :=
  ⟨[], by kernel_rfl⟩

set_option maxRecDepth 100000 in
theorem objectTells_lifted (os : Os) (started : os.Started) (H : Type) (enc : TypeId × Value → H) (F : Stop.Interp) :
    ReturnsInHanded {} Tryz.checked os 5 .any ((Rows.OpenSpec.upto Rows.objectTellsSpec).preRow enc Tryz.prog Tryz.f5 Rows.objectTellsUptoRow.domain false Rows.objectTellsUptoRow.laid) (((Rows.OpenSpec.upto Rows.objectTellsSpec).at F).post enc Tryz.prog Tryz.f5 false true false false) := by
  obtain ⟨places, hx⟩ := objectTells_reads os enc
  refine returnsInHanded_of_row (C := Tryz.checked) (s := Rows.OpenSpec.upto Rows.objectTellsSpec) own_ started (by kernel_rfl) Tryz.func5
    (witness_row_at (enc := enc) (C := Tryz.checked) false (World.laidAll Tryz.prog os Rows.objectTellsUptoRow.laid) #[.agg #[.string ⟨#[]⟩, .string ⟨#[]⟩, .int .i64 0, .string ⟨#[]⟩, .int .i64 0, .slice none 0 0, .slice none 0 0, .int .i64 0, .int .i64 0], .int .i64 0, .int .u8 0, .slice none 0 0] (World.laidAll_os _ _ _) (by kernel_rfl) (by kernel_rfl) (by kernel_rfl)
      (OpenSpec.preRow_of_cond 8 hx (by kernel_rfl) (fun k hk => by cases hk; kernel_rfl) (by kernel_rfl) (objectTells_met os))) ?_
  intro W base args ds gs before hval hW _ hcond _ hL hsh _
  exact objectTells_contract H enc W base args ds gs before hval hW (hcond _ rfl) hL hsh

theorem objectTells_closed : joinedFacts Tryz.pinned.checked.prog 5 Tryz.f5 (Rows.OpenSpec.upto Rows.objectTellsSpec).bare Rows.objectTellsUptoRow = true := by kernel_rfl
theorem objectTells_inst : Tryz.f5.isInstance Tryz.pinned.checked.prog Rows.objectTellsUptoRow.origin Rows.objectTellsUptoRow.targs := of_decide_eq_true (by kernel_rfl)
theorem objectTells_wrap : Tryz.f5.isWrapper Tryz.pinned.checked.prog Rows.objectTellsUptoRow.wrapper Rows.objectTellsUptoRow.mainSum := by unfold Func.isWrapper; first | (rw [if_pos (by decide +kernel)]; kernel_rfl) | (rw [if_neg (by decide +kernel)]; exact ⟨rfl, rfl⟩)
theorem objectTells_name : Tryz.pinned.checked.prog.funcNamed Rows.objectTellsUptoRow.func = some 5 := by kernel_rfl
theorem objectTells_said : Rows.ObjectTellsUptoSaid :=
  OpenClaim.holds_of_cond 5 Tryz.f5 rfl rfl rfl rfl rfl rfl rfl ⟨rfl, rfl, rfl, rfl, rfl⟩ rfl rfl rfl rfl rfl objectTells_name Tryz.func5 objectTells_closed objectTells_inst objectTells_wrap
    (fun os started H enc _ F => by rw [OpenClaim.pre_eq_preRow]; exact objectTells_lifted os started H enc F)

theorem objectTells_plain (f : FuncId) (fn : Func) (hf : Tryz.pinned.checked.prog.funcNamed "conduit/conduitlaw12.ObjectTells" = some f) (hfn : Tryz.pinned.checked.prog.funcs[f]? = some fn) :
    true = Tryz.pinned.checked.prog.looks [] ∧ ∀ (j : Nat) t, fn.params[j]? = some t → Tryz.pinned.checked.prog.wantsStandIn t = false := by
  obtain rfl : f = 5 := Option.some.inj ((show Tryz.prog.funcNamed "conduit/conduitlaw12.ObjectTells" = some 5 by kernel_rfl).symm.trans hf) |>.symm
  obtain rfl : fn = Tryz.f5 := (Option.some.inj (Tryz.func5.symm.trans hfn)).symm
  refine ⟨by kernel_rfl, fun j t ht => ?_⟩
  rw [Tryz.params5] at ht
  have hm := Array.mem_of_getElem? ht
  simp only [List.mem_toArray, List.mem_cons, List.mem_nil_iff, or_false] at hm
  rcases hm with rfl | rfl | rfl | rfl
  · exact (show Tryz.prog.wantsStandIn 29 = false by kernel_rfl)
  · exact (show Tryz.prog.wantsStandIn 3 = false by kernel_rfl)
  · exact (show Tryz.prog.wantsStandIn 5 = false by kernel_rfl)
  · exact (show Tryz.prog.wantsStandIn 22 = false by kernel_rfl)

theorem objectTells_holds : Rows.ObjectTellsUptoCardSaid :=
  Claim7.holds_tied_plain_at .later [] _ _ _ _ objectTells_said (fun _ h => by cases h) (by kernel_rfl) (fun _ h => by cases h) objectTellsUpto_row_tie rfl ⟨rfl, rfl⟩ (by kernel_rfl) rfl objectTells_plain (by kernel_rfl)
end Go.Proofs.YtcdbppoohlabnaaGreatDoor
