/- HopBytes holds wherever what it reads is of bulk at most 1,048,576: the bytes of a response are those of the document, and the response and the body are left as they were. Conditions: the bound of the row and its list of tables. -/
import Derived.Test.YtcoohkgamogmgaaGreatDoorCards
import Derived.Test.YtcoohkgamogmgaaGreatDoorTie
import Derived.Test.YtcoohkgamogmgaaGreatDoorBytesL
import Derived.Test.YtcoohkgamogmgaaGreatDoorOpen3
import Derived.Carry
import Derived.ChangeMaps
namespace Go.Proofs.YtcoohkgamogmgaaGreatDoor
open Go.ChangeShapes Go.WideShapes Go.ChangeAt Go.RowKit

set_option maxRecDepth 100000 in
theorem hopBytes_contract (H : Type) (enc : TypeId × Value → H) (W : World) (base : Nat) (args : Array Value) (ds gs : List (DataW H)) (before : List MemPlace)
    (hval : ∀ (j : Nat) t v, Tryz.f3.params[j]? = some t → args[j]? = some v → Value.okWide Tryz.prog W .any base t v)
    (hW : DataW.Whole enc Tryz.prog Tryz.f3.params.toList Rows.hopBytesSpec.vars false W args.toList ds gs before) (hk : Rows.uptoSmall H (ds ++ gs) = true) (hL : laidMetH Tryz.prog Rows.hopBytesUptoRow.laid W) :
    Calls Tryz.prog 3 args W fun e W' => ∃ v, e = .returned v ∧ Rows.hopBytesSpec.post enc Tryz.prog Tryz.f3 false true false false W args v W' := by
  have hW' := hW
  obtain ⟨p, q, hA0, hV, rfl, hfz, hnd⟩ := hW
  have hA : DataW.TrodAll enc Tryz.prog W 0 (fun _ => true) true Tryz.f3.params.toList args.toList ds p := hA0
  rw [Tryz.params3] at hA hval
  obtain ⟨v0, v1, v2, v3, d0, d1, d2, d3, p0, p1, p2, p3, rfl, rfl, rfl, h0, h1, h2, h3⟩ := trodAll_four hA
  obtain ⟨rfl, rfl⟩ := trodVars_none hV
  obtain ⟨s0, r0, m0, A0, n0, c0, fs0, rfl, ws0, wm0, hl0, hx0, hbk0, hnil0⟩ := open_resp (hval 0 24 v0 rfl rfl) h0
  have hm0 := int_bounds wm0
  have hs0 := int_bounds ws0
  obtain ⟨A1, n1, c1, bs1, rfl, hl1, hx1, hc1, hbk1, hnil1⟩ := open_bytes (hval 1 25 v1 rfl rfl) h1
  have h2k := h2
  obtain ⟨s2, rfl, rfl, rfl, _⟩ := Go.ChangeMaps.open_string Tryz.underlying9 (hval 2 9 v2 rfl rfl) h2
  have h3k := h3
  obtain ⟨b3, rfl, rfl, rfl⟩ := open_bool Tryz.underlying4 (hval 3 4 v3 rfl rfl) h3
  subst hl0
  subst hl1
  clear hA0
  simp only [List.append_nil] at hW' hk
  have hlt : ∀ x ∈ p0 ++ (p1), x.block < W.heap.size := fun x hx => by simpa using hW'.lt x (by simpa using hx)
  have hb : F.bulk fs0 + r0.size ≤ 1048576 ∧ bs1.length ≤ 1048576 ∧ s2.size ≤ 1048576 := by
    have h : Rows.uptoBulkAll [d0, d1, DataW.lit (.string s2.data.toList), DataW.lit (.bool b3)] ≤ 1048576 := of_decide_eq_true hk
    simp only [Rows.uptoBulkAll, Rows.uptoBulk, Array.length_toList] at h
    have : s2.size = s2.data.size := rfl
    omega
  obtain ⟨hb0, hb1, hb2⟩ := hb
  have ht : TabOk W := tab_of hL (by kernel_rfl)
  refine (hopBytes_any s0 r0 m0 A0 c0 fs0 A1 c1 bs1 s2 b3 W hs0.1 hs0.2 (by omega) (by omega) hx0 (by omega) hx1 ht).mono fun e W' ⟨he, hw⟩ => ?_
  subst he
  exact ⟨_, rfl, post_of_below (pa := p0 ++ (p1)) (pv := []) hW' (fun _ _ _ => trodAll_mk1 (shut_bool Tryz.underlying4 true))
    (fun sp hsp => by
      have k0 := again (by kernel_rfl) (of_decide_eq_true (by kernel_rfl)) h0 hw (fun x hx => hlt x (by simp [hx])) sp (fun x hx => hsp x (by simp [hx]))
      have k1 := again (by kernel_rfl) (of_decide_eq_true (by kernel_rfl)) h1 hw (fun x hx => hlt x (by simp [hx])) sp (fun x hx => hsp x (by simp [hx]))
      have k2 := again (by kernel_rfl) (of_decide_eq_true (by kernel_rfl)) h2k hw (fun x hx => by cases hx) sp (fun x hx => by cases hx)
      have k3 := again (by kernel_rfl) (of_decide_eq_true (by kernel_rfl)) h3k hw (fun x hx => by cases hx) sp (fun x hx => by cases hx)
      have := trodAll_mk4 k0 k1 k2 k3
      simp only [List.append_nil] at this
      exact this) (fun _ _ => rfl) (by simp)
    hw (ok_one (by kernel_rfl) rfl (okWide_bool_mk Tryz.underlying4 true))⟩

theorem hopBytes_met (os : Os) : laidMet Tryz.prog Rows.hopBytesUptoRow.laid ((World.laidAll Tryz.prog os Rows.hopBytesUptoRow.laid).forCall (fun _ _ => 0) ⟨#[], #[.agg #[.int .i64 0, .string ⟨#[]⟩, .int .i64 0, .slice none 0 0], .slice none 0 0, .string ⟨#[]⟩, .bool false], []⟩).memory :=
  laidMet_laidAll _ (by kernel_rfl) (by kernel_rfl)
theorem hopBytes_reads (os : Os) {H : Type} (enc : TypeId × Value → H) : ∃ places, DataW.whole enc Tryz.prog ((World.laidAll Tryz.prog os Rows.hopBytesUptoRow.laid).forCall (fun _ _ => 0) ⟨#[], #[.agg #[.int .i64 0, .string ⟨#[]⟩, .int .i64 0, .slice none 0 0], .slice none 0 0, .string ⟨#[]⟩, .bool false], []⟩).memory Tryz.f3.params.toList Rows.hopBytesSpec.vars false #[Value.agg #[.int .i64 0, .string ⟨#[]⟩, .int .i64 0, .slice none 0 0], .slice none 0 0, .string ⟨#[]⟩, .bool false].toList 8 = some ([.agg [.lit (.int .i64 0), .lit (.string []), .lit (.int .i64 0), .nil], .nil, .lit (.string []), .lit (.bool false)], [], places) :=
  ⟨[], by kernel_rfl⟩

set_option maxRecDepth 100000 in
theorem hopBytes_lifted (os : Os) (started : os.Started) (H : Type) (enc : TypeId × Value → H) (F : Stop.Interp) :
    ReturnsInHanded {} Tryz.checked os 3 .any ((Rows.OpenSpec.upto Rows.hopBytesSpec).preRow enc Tryz.prog Tryz.f3 Rows.hopBytesUptoRow.domain false Rows.hopBytesUptoRow.laid) (((Rows.OpenSpec.upto Rows.hopBytesSpec).at F).post enc Tryz.prog Tryz.f3 false true false false) := by
  obtain ⟨places, hx⟩ := hopBytes_reads os enc
  refine returnsInHanded_of_row (C := Tryz.checked) (s := Rows.OpenSpec.upto Rows.hopBytesSpec) own_ started (by kernel_rfl) Tryz.func3
    (witness_row_at (enc := enc) (C := Tryz.checked) false (World.laidAll Tryz.prog os Rows.hopBytesUptoRow.laid) #[.agg #[.int .i64 0, .string ⟨#[]⟩, .int .i64 0, .slice none 0 0], .slice none 0 0, .string ⟨#[]⟩, .bool false] (World.laidAll_os _ _ _) (by kernel_rfl) (by kernel_rfl) (by kernel_rfl)
      (OpenSpec.preRow_of_cond 8 hx (by kernel_rfl) (fun k hk => by cases hk; kernel_rfl) (by kernel_rfl) (hopBytes_met os))) ?_
  intro W base args ds gs before hval hW _ hcond _ hL _ _
  exact hopBytes_contract H enc W base args ds gs before hval hW (hcond _ rfl) hL

theorem hopBytes_said : Rows.HopBytesUptoSaid :=
  OpenClaim.holds_of_cond 3 Tryz.f3 rfl rfl rfl rfl rfl rfl rfl ⟨rfl, rfl, rfl, rfl, rfl⟩ rfl rfl rfl rfl rfl (by kernel_rfl) Tryz.func3 (by kernel_rfl)
    (of_decide_eq_true (by kernel_rfl)) (by unfold Func.isWrapper; first | (rw [if_pos (by decide +kernel)]; kernel_rfl) | (rw [if_neg (by decide +kernel)]; exact ⟨rfl, rfl⟩))
    (fun os started H enc _ F => by rw [OpenClaim.pre_eq_preRow]; exact hopBytes_lifted os started H enc F)

theorem hopBytes_plain (f : FuncId) (fn : Func) (hf : Tryz.pinned.checked.prog.funcNamed "conduit/conduitlaw22.HopBytes" = some f) (hfn : Tryz.pinned.checked.prog.funcs[f]? = some fn) :
    false = Tryz.pinned.checked.prog.looks [] ∧ ∀ (j : Nat) t, fn.params[j]? = some t → Tryz.pinned.checked.prog.wantsStandIn t = false := by
  obtain rfl : f = 3 := Option.some.inj ((show Tryz.prog.funcNamed "conduit/conduitlaw22.HopBytes" = some 3 by kernel_rfl).symm.trans hf) |>.symm
  obtain rfl : fn = Tryz.f3 := (Option.some.inj (Tryz.func3.symm.trans hfn)).symm
  refine ⟨by kernel_rfl, fun j t ht => ?_⟩
  rw [Tryz.params3] at ht
  have hm := Array.mem_of_getElem? ht
  simp only [List.mem_toArray, List.mem_cons, List.mem_nil_iff, or_false] at hm
  rcases hm with rfl | rfl | rfl | rfl
  · exact (show Tryz.prog.wantsStandIn 24 = false by kernel_rfl)
  · exact (show Tryz.prog.wantsStandIn 25 = false by kernel_rfl)
  · exact (show Tryz.prog.wantsStandIn 9 = false by kernel_rfl)
  · exact (show Tryz.prog.wantsStandIn 4 = false by kernel_rfl)

theorem hopBytes_holds : Rows.HopBytesUptoCardSaid :=
  Claim7.holds_tied_plain_at .later [] _ _ _ _ hopBytes_said (fun _ h => by cases h) (by kernel_rfl) (fun _ h => by cases h) hopBytesUpto_row_tie rfl ⟨rfl, rfl⟩ (by kernel_rfl) rfl hopBytes_plain (by kernel_rfl)
end Go.Proofs.YtcoohkgamogmgaaGreatDoor
