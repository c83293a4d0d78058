/- ChunkSizes holds wherever the data and the fields are of bulk at most 1,048,576: the size of the chunks makes no difference to what is read. Conditions: the bound of the arguments and the list of tables. -/
import Derived.Test.YtnmldbcgpfglkaaGreatDoorCards
import Derived.Test.YtnmldbcgpfglkaaGreatDoorTie
import Derived.Test.YtnmldbcgpfglkaaGreatDoorCSizes
import Derived.Test.YtnmldbcgpfglkaaGreatDoorLaidU
import Derived.Test.YtnmldbcgpfglkaaGreatDoorOpenA
import Derived.Carry
import Derived.ChangeMaps
namespace Go.Proofs.YtnmldbcgpfglkaaGreatDoor
open Go.ChangeShapes Go.WideShapes Go.ChangeAt Go.RowKit

set_option maxRecDepth 100000 in
theorem chunkSizes_contract (H : Type) (enc : TypeId × Value → H) (W : World) (base : Nat) (args : Array Value) (ds gs : List (DataW H)) (before : List MemPlace)
    (hval : ∀ (j : Nat) t v, Tryz.f6.params[j]? = some t → args[j]? = some v → Value.okWide Tryz.prog W .any base t v)
    (hW : DataW.Whole enc Tryz.prog Tryz.f6.params.toList Rows.chunkSizesSpec.vars false W args.toList ds gs before) (hk : Rows.uptoSmall H (ds ++ gs) = true) (hL : laidMetH Tryz.prog Rows.chunkSizesUptoRow.laid W) (hsh : W.ShapedOpen Tryz.prog) :
    Calls Tryz.prog 6 args W fun e W' => ∃ v, e = .returned v ∧ Rows.chunkSizesSpec.post enc Tryz.prog Tryz.f6 false true false false W args v W' := by
  have hW' := hW
  obtain ⟨p, q, hA0, hV, rfl, hfz, hnd⟩ := hW
  have hA : DataW.TrodAll enc Tryz.prog W 0 (fun _ => true) true Tryz.f6.params.toList args.toList ds p := hA0
  rw [Tryz.params6] at hA hval
  obtain ⟨v0, v1, v2, v3, d0, d1, d2, d3, p0, p1, p2, p3, rfl, rfl, rfl, h0, h1, h2, h3⟩ := trodAll_four hA
  obtain ⟨rfl, rfl⟩ := trodVars_none hV
  obtain ⟨A0, n0, c0, bs0, rfl, hl0, hx0, hc0, hbk0, hnil0, hspot0⟩ := open_bytes (hval 0 22 v0 rfl rfl) h0
  have h1k := h1
  obtain ⟨m1, rfl, rfl, rfl, wm1⟩ := open_int Tryz.underlying3 (hval 1 3 v1 rfl rfl) h1
  have hm1 := int_bounds wm1
  have h2k := h2
  obtain ⟨m2, rfl, rfl, rfl, wm2⟩ := open_int Tryz.underlying3 (hval 2 3 v2 rfl rfl) h2
  have hm2 := int_bounds wm2
  obtain ⟨A3, n3, c3, fs3, rfl, hl3, hx3, hbk3, hnil3⟩ := open_fields (hval 3 25 v3 rfl rfl) h3
  subst hl0
  subst hl3
  clear hA0
  simp only [List.append_nil] at hW' hk
  have hlt : ∀ x ∈ p0 ++ (p3), x.block < W.heap.size := fun x hx => by simpa using hW'.lt x (by simpa using hx)
  have hb : bs0.length ≤ 1048576 ∧ F.bulk fs3 ≤ 1048576 := by
    have h : Rows.uptoBulkAll [d0, DataW.lit (.int .i64 m1), DataW.lit (.int .i64 m2), d3] ≤ 1048576 := of_decide_eq_true hk
    simp only [Rows.uptoBulkAll, Rows.uptoBulk] at h
    omega
  obtain ⟨hb0, hb3⟩ := hb
  have ht : LibOk W := lib_of hL hsh (by kernel_rfl)
  have he : ErrOk W := err_of hL (by kernel_rfl) (by kernel_rfl)
  have hbru : BruOk W := bru_of hL (by kernel_rfl)
  refine (chunkSizes_any A0 bs0.length c0 bs0 m1 m2 A3 fs3.length c3 fs3 W (by omega) rfl hc0 hx0 hm1.1 hm1.2 hm2.1 hm2.2 (by omega) rfl hx3 ht he hbru).mono fun e W' ⟨he, hw⟩ => ?_
  subst he
  exact ⟨_, rfl, post_of_below (pa := p0 ++ (p3)) (pv := []) hW' (fun _ _ _ => trodAll_mk1 (shut_bool Tryz.underlying4 true))
    (fun sp hsp => by
      have k0 := again (by kernel_rfl) (of_decide_eq_true (by kernel_rfl)) h0 hw (fun x hx => hlt x (by simp [hx])) sp (fun x hx => hsp x (by simp [hx]))
      have k1 := again (by kernel_rfl) (of_decide_eq_true (by kernel_rfl)) h1k hw (fun x hx => by cases hx) sp (fun x hx => by cases hx)
      have k2 := again (by kernel_rfl) (of_decide_eq_true (by kernel_rfl)) h2k hw (fun x hx => by cases hx) sp (fun x hx => by cases hx)
      have k3 := again (by kernel_rfl) (of_decide_eq_true (by kernel_rfl)) h3 hw (fun x hx => hlt x (by simp [hx])) sp (fun x hx => hsp x (by simp [hx]))
      have := trodAll_mk4 k0 k1 k2 k3
      simp only [List.nil_append] at this
      exact this) (fun _ _ => rfl) (by simp)
    hw (ok_one (by kernel_rfl) rfl (okWide_bool_mk Tryz.underlying4 true))⟩

theorem chunkSizes_met (os : Os) : laidMet Tryz.prog Rows.chunkSizesUptoRow.laid ((World.laidAll Tryz.prog os Rows.chunkSizesUptoRow.laid).forCall (fun _ _ => 0) ⟨#[], #[.slice none 0 0, .int .i64 0, .int .i64 0, .slice none 0 0], []⟩).memory :=
  laidMet_laidAll _ (by kernel_rfl) (by kernel_rfl)
theorem chunkSizes_reads (os : Os) {H : Type} (enc : TypeId × Value → H) : ∃ places, DataW.whole enc Tryz.prog ((World.laidAll Tryz.prog os Rows.chunkSizesUptoRow.laid).forCall (fun _ _ => 0) ⟨#[], #[.slice none 0 0, .int .i64 0, .int .i64 0, .slice none 0 0], []⟩).memory Tryz.f6.params.toList Rows.chunkSizesSpec.vars false #[Value.slice none 0 0, .int .i64 0, .int .i64 0, .slice none 0 0].toList 8 = some ([.nil, .lit (.int .i64 0), .lit (.int .i64 0), .nil], [], places) :=
  ⟨[], by kernel_rfl⟩

set_option maxRecDepth 100000 in
theorem chunkSizes_lifted (os : Os) (started : os.Started) (H : Type) (enc : TypeId × Value → H) (F : Stop.Interp) :
    ReturnsInHanded {} Tryz.checked os 6 .any ((Rows.OpenSpec.upto Rows.chunkSizesSpec).preRow enc Tryz.prog Tryz.f6 Rows.chunkSizesUptoRow.domain false Rows.chunkSizesUptoRow.laid) (((Rows.OpenSpec.upto Rows.chunkSizesSpec).at F).post enc Tryz.prog Tryz.f6 false true false false) := by
  obtain ⟨places, hx⟩ := chunkSizes_reads os enc
  refine returnsInHanded_of_row (C := Tryz.checked) (s := Rows.OpenSpec.upto Rows.chunkSizesSpec) own_ started (by kernel_rfl) Tryz.func6
    (witness_row_at (enc := enc) (C := Tryz.checked) false (World.laidAll Tryz.prog os Rows.chunkSizesUptoRow.laid) #[.slice none 0 0, .int .i64 0, .int .i64 0, .slice none 0 0] (World.laidAll_os _ _ _) (by kernel_rfl) (by kernel_rfl) (by kernel_rfl)
      (OpenSpec.preRow_of_cond 8 hx (by kernel_rfl) (fun k hk => by cases hk; kernel_rfl) (by kernel_rfl) (chunkSizes_met os))) ?_
  intro W base args ds gs before hval hW _ hcond _ hL hsh _
  exact chunkSizes_contract H enc W base args ds gs before hval hW (hcond _ rfl) hL hsh

theorem chunkSizes_said : Rows.ChunkSizesUptoSaid :=
  OpenClaim.holds_of_cond 6 Tryz.f6 rfl rfl rfl rfl rfl rfl rfl ⟨rfl, rfl, rfl, rfl, rfl⟩ rfl rfl rfl rfl rfl (by kernel_rfl) Tryz.func6 (by kernel_rfl)
    (of_decide_eq_true (by kernel_rfl)) (by unfold Func.isWrapper; first | (rw [if_pos (by decide +kernel)]; kernel_rfl) | (rw [if_neg (by decide +kernel)]; exact ⟨rfl, rfl⟩))
    (fun os started H enc _ F => by rw [OpenClaim.pre_eq_preRow]; exact chunkSizes_lifted os started H enc F)

theorem chunkSizes_plain (f : FuncId) (fn : Func) (hf : Tryz.pinned.checked.prog.funcNamed "conduit/conduitlaw07.ChunkSizes" = some f) (hfn : Tryz.pinned.checked.prog.funcs[f]? = some fn) :
    true = Tryz.pinned.checked.prog.looks [] ∧ ∀ (j : Nat) t, fn.params[j]? = some t → Tryz.pinned.checked.prog.wantsStandIn t = false := by
  obtain rfl : f = 6 := Option.some.inj ((show Tryz.prog.funcNamed "conduit/conduitlaw07.ChunkSizes" = some 6 by kernel_rfl).symm.trans hf) |>.symm
  obtain rfl : fn = Tryz.f6 := (Option.some.inj (Tryz.func6.symm.trans hfn)).symm
  refine ⟨by kernel_rfl, fun j t ht => ?_⟩
  rw [Tryz.params6] at ht
  have hm := Array.mem_of_getElem? ht
  simp only [List.mem_toArray, List.mem_cons, List.mem_nil_iff, or_false] at hm
  rcases hm with rfl | rfl | rfl | rfl
  · exact (show Tryz.prog.wantsStandIn 22 = false by kernel_rfl)
  · exact (show Tryz.prog.wantsStandIn 3 = false by kernel_rfl)
  · exact (show Tryz.prog.wantsStandIn 3 = false by kernel_rfl)
  · exact (show Tryz.prog.wantsStandIn 25 = false by kernel_rfl)

theorem chunkSizes_holds : Rows.ChunkSizesUptoCardSaid :=
  Claim7.holds_tied_plain_at .later [] _ _ _ _ chunkSizes_said (fun _ h => by cases h) (by kernel_rfl) (fun _ h => by cases h) chunkSizesUpto_row_tie rfl ⟨rfl, rfl⟩ (by kernel_rfl) rfl chunkSizes_plain (by kernel_rfl)
end Go.Proofs.YtnmldbcgpfglkaaGreatDoor
