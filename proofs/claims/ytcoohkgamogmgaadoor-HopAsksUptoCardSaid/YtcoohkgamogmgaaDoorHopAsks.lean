/- HopAsks holds wherever what it reads is of bulk at most 1,048,576: the bytes of a request that is asked are those of the document, and the request and the body are left as they were. Conditions: the bound of the row and its list of tables. -/
import Derived.Test.YtcoohkgamogmgaaDoorCards
import Derived.Test.YtcoohkgamogmgaaDoorTie
import Derived.Test.YtcoohkgamogmgaaDoorAsks
import Derived.Test.YtcoohkgamogmgaaDoorOpen3
import Derived.Carry
import Derived.ChangeMaps
namespace Go.Proofs.YtcoohkgamogmgaaDoor
open Go.ChangeShapes Go.WideShapes Go.ChangeAt Go.RowKit

set_option maxRecDepth 100000 in
theorem hopAsks_contract (H : Type) (enc : TypeId × Value → H) (W : World) (base : Nat) (args : Array Value) (ds gs : List (DataW H)) (before : List MemPlace)
    (hval : ∀ (j : Nat) t v, Tryd.f9.params[j]? = some t → args[j]? = some v → Value.okWide Tryd.prog W .any base t v)
    (hW : DataW.Whole enc Tryd.prog Tryd.f9.params.toList Rows.hopAsksSpec.vars false W args.toList ds gs before) (hk : Rows.uptoSmall H (ds ++ gs) = true) (hL : laidMetH Tryd.prog Rows.hopAsksUptoRow.laid W) :
    Calls Tryd.prog 9 args W fun e W' => ∃ v, e = .returned v ∧ Rows.hopAsksSpec.post enc Tryd.prog Tryd.f9 false true false false W args v W' := by
  have hW' := hW
  obtain ⟨p, q, hA0, hV, rfl, hfz, hnd⟩ := hW
  have hA : DataW.TrodAll enc Tryd.prog W 0 (fun _ => true) true Tryd.f9.params.toList args.toList ds p := hA0
  rw [Tryd.params9] at hA hval
  obtain ⟨v0, v1, d0, d1, p0, p1, rfl, rfl, rfl, h0, h1⟩ := trodAll_two hA
  obtain ⟨rfl, rfl⟩ := trodVars_none hV
  obtain ⟨s0, t0, m0, A0, n0, c0, fs0, rfl, wm0, hl0, hx0, hbk0, hnil0⟩ := open_req (hval 0 50 v0 rfl rfl) h0
  have hm0 := int_bounds wm0
  obtain ⟨A1, n1, c1, bs1, rfl, hl1, hx1, hc1, hbk1, hnil1⟩ := open_bytes (hval 1 29 v1 rfl rfl) h1
  subst hl0
  subst hl1
  clear hA0
  simp only [List.append_nil] at hW' hk
  have hlt : ∀ x ∈ p0 ++ (p1), x.block < W.heap.size := fun x hx => by simpa using hW'.lt x (by simpa using hx)
  have hb : F.bulk fs0 + s0.size + t0.size ≤ 1048576 ∧ bs1.length ≤ 1048576 := by
    have h : Rows.uptoBulkAll [d0, d1] ≤ 1048576 := of_decide_eq_true hk
    simp only [Rows.uptoBulkAll] at h
    omega
  obtain ⟨hb0, hb1⟩ := hb
  have ht : TabOk W := tab_of hL (by kernel_rfl)
  refine (hopAsks_any s0 t0 m0 A0 c0 fs0 A1 c1 bs1 W (by omega) (by omega) hm0.1 hm0.2 (by omega) hx0 (by omega) hx1 ht).mono fun e W' ⟨he, hw⟩ => ?_
  subst he
  exact ⟨_, rfl, post_of_below (pa := p0 ++ (p1)) (pv := []) hW' (fun _ _ _ => trodAll_mk1 (shut_bool Tryd.underlying4 true))
    (fun sp hsp => by
      have k0 := again (by kernel_rfl) (of_decide_eq_true (by kernel_rfl)) h0 hw (fun x hx => hlt x (by simp [hx])) sp (fun x hx => hsp x (by simp [hx]))
      have k1 := again (by kernel_rfl) (of_decide_eq_true (by kernel_rfl)) h1 hw (fun x hx => hlt x (by simp [hx])) sp (fun x hx => hsp x (by simp [hx]))
      have := trodAll_mk2 k0 k1
      exact this) (fun _ _ => rfl) (by simp)
    hw (ok_one (by kernel_rfl) rfl (okWide_bool_mk Tryd.underlying4 true))⟩

theorem hopAsks_met (os : Os) : laidMet Tryd.prog Rows.hopAsksUptoRow.laid ((World.laidAll Tryd.prog os Rows.hopAsksUptoRow.laid).forCall (fun _ _ => 0) ⟨#[], #[.agg #[.string ⟨#[]⟩, .string ⟨#[]⟩, .int .i64 0, .slice none 0 0], .slice none 0 0], []⟩).memory :=
  laidMet_laidAll _ (by kernel_rfl) (by kernel_rfl)
theorem hopAsks_reads (os : Os) {H : Type} (enc : TypeId × Value → H) : ∃ places, DataW.whole enc Tryd.prog ((World.laidAll Tryd.prog os Rows.hopAsksUptoRow.laid).forCall (fun _ _ => 0) ⟨#[], #[.agg #[.string ⟨#[]⟩, .string ⟨#[]⟩, .int .i64 0, .slice none 0 0], .slice none 0 0], []⟩).memory Tryd.f9.params.toList Rows.hopAsksSpec.vars false #[Value.agg #[.string ⟨#[]⟩, .string ⟨#[]⟩, .int .i64 0, .slice none 0 0], .slice none 0 0].toList 8 = some ([.agg [.lit (.string []), .lit (.string []), .lit (.int .i64 0), .nil], .nil], [], places) :=
  ⟨[], by kernel_rfl⟩

set_option maxRecDepth 100000 in
theorem hopAsks_lifted (os : Os) (started : os.Started) (H : Type) (enc : TypeId × Value → H) (F : Stop.Interp) :
    ReturnsInHanded {} Tryd.checked os 9 .any ((Rows.OpenSpec.upto Rows.hopAsksSpec).preRow enc Tryd.prog Tryd.f9 Rows.hopAsksUptoRow.domain false Rows.hopAsksUptoRow.laid) (((Rows.OpenSpec.upto Rows.hopAsksSpec).at F).post enc Tryd.prog Tryd.f9 false true false false) := by
  obtain ⟨places, hx⟩ := hopAsks_reads os enc
  refine returnsInHanded_of_row (C := Tryd.checked) (s := Rows.OpenSpec.upto Rows.hopAsksSpec) own_ started (by kernel_rfl) Tryd.func9
    (witness_row_at (enc := enc) (C := Tryd.checked) false (World.laidAll Tryd.prog os Rows.hopAsksUptoRow.laid) #[.agg #[.string ⟨#[]⟩, .string ⟨#[]⟩, .int .i64 0, .slice none 0 0], .slice none 0 0] (World.laidAll_os _ _ _) (by kernel_rfl) (by kernel_rfl) (by kernel_rfl)
      (OpenSpec.preRow_of_cond 8 hx (by kernel_rfl) (fun k hk => by cases hk; kernel_rfl) (by kernel_rfl) (hopAsks_met os))) ?_
  intro W base args ds gs before hval hW _ hcond _ hL _ _
  exact hopAsks_contract H enc W base args ds gs before hval hW (hcond _ rfl) hL

theorem hopAsks_said : Rows.HopAsksUptoSaid :=
  OpenClaim.holds_of_cond 9 Tryd.f9 rfl rfl rfl rfl rfl rfl rfl ⟨rfl, rfl, rfl, rfl, rfl⟩ rfl rfl rfl rfl rfl (by kernel_rfl) Tryd.func9 (by kernel_rfl)
    (of_decide_eq_true (by kernel_rfl)) (by unfold Func.isWrapper; first | (rw [if_pos (by decide +kernel)]; kernel_rfl) | (rw [if_neg (by decide +kernel)]; exact ⟨rfl, rfl⟩))
    (fun os started H enc _ F => by rw [OpenClaim.pre_eq_preRow]; exact hopAsks_lifted os started H enc F)

theorem hopAsks_plain (f : FuncId) (fn : Func) (hf : Tryd.pinned.checked.prog.funcNamed "conduit/conduitlaw22.HopAsks" = some f) (hfn : Tryd.pinned.checked.prog.funcs[f]? = some fn) :
    false = Tryd.pinned.checked.prog.looks [] ∧ ∀ (j : Nat) t, fn.params[j]? = some t → Tryd.pinned.checked.prog.wantsStandIn t = false := by
  obtain rfl : f = 9 := Option.some.inj ((show Tryd.prog.funcNamed "conduit/conduitlaw22.HopAsks" = some 9 by kernel_rfl).symm.trans hf) |>.symm
  obtain rfl : fn = Tryd.f9 := (Option.some.inj (Tryd.func9.symm.trans hfn)).symm
  refine ⟨by kernel_rfl, fun j t ht => ?_⟩
  rw [Tryd.params9] at ht
  have hm := Array.mem_of_getElem? ht
  simp only [List.mem_toArray, List.mem_cons, List.mem_nil_iff, or_false] at hm
  rcases hm with rfl | rfl
  · exact (show Tryd.prog.wantsStandIn 50 = false by kernel_rfl)
  · exact (show Tryd.prog.wantsStandIn 29 = false by kernel_rfl)

theorem hopAsks_holds : Rows.HopAsksUptoCardSaid :=
  Claim7.holds_tied_plain_at .later [] _ _ _ _ hopAsks_said (fun _ h => by cases h) (by kernel_rfl) (fun _ h => by cases h) hopAsksUpto_row_tie rfl ⟨rfl, rfl⟩ (by kernel_rfl) rfl hopAsks_plain (by kernel_rfl)
end Go.Proofs.YtcoohkgamogmgaaDoor
