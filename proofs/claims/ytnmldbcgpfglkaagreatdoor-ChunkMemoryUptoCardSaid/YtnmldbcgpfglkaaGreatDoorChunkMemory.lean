/- ChunkMemory holds wherever both rows are of at most 1,048,576 bytes: what is answered is new memory, each time. Conditions: the bound of the rows and the list of tables. -/
import Derived.Test.YtnmldbcgpfglkaaGreatDoorCards
import Derived.Test.YtnmldbcgpfglkaaGreatDoorTie
import Derived.Test.YtnmldbcgpfglkaaGreatDoorCMem
import Derived.Test.YtnmldbcgpfglkaaGreatDoorLaidU
import Derived.Test.YtnmldbcgpfglkaaGreatDoorOpenA
import Derived.Carry
import Derived.ChangeMaps
namespace Go.Proofs.YtnmldbcgpfglkaaGreatDoor
open Go.ChangeShapes Go.WideShapes Go.ChangeAt Go.RowKit

set_option maxRecDepth 100000 in
theorem chunkMemory_contract (H : Type) (enc : TypeId × Value → H) (W : World) (base : Nat) (args : Array Value) (ds gs : List (DataW H)) (before : List MemPlace)
    (hval : ∀ (j : Nat) t v, Tryz.f7.params[j]? = some t → args[j]? = some v → Value.okWide Tryz.prog W .any base t v)
    (hW : DataW.Whole enc Tryz.prog Tryz.f7.params.toList Rows.chunkMemorySpec.vars false W args.toList ds gs before) (hk : Rows.uptoSmall H (ds ++ gs) = true) (hL : laidMetH Tryz.prog Rows.chunkMemoryUptoRow.laid W) (hsh : W.ShapedOpen Tryz.prog) :
    Calls Tryz.prog 7 args W fun e W' => ∃ v, e = .returned v ∧ Rows.chunkMemorySpec.post enc Tryz.prog Tryz.f7 false true false false W args v W' := by
  have hW' := hW
  obtain ⟨p, q, hA0, hV, rfl, hfz, hnd⟩ := hW
  have hA : DataW.TrodAll enc Tryz.prog W 0 (fun _ => true) true Tryz.f7.params.toList args.toList ds p := hA0
  rw [Tryz.params7] at hA hval
  obtain ⟨v0, v1, v2, d0, d1, d2, p0, p1, p2, rfl, rfl, rfl, h0, h1, h2⟩ := trodAll_three hA
  obtain ⟨rfl, rfl⟩ := trodVars_none hV
  obtain ⟨A0, n0, c0, bs0, rfl, hl0, hx0, hc0, hbk0, hnil0, hspot0⟩ := open_bytes (hval 0 22 v0 rfl rfl) h0
  obtain ⟨A1, n1, c1, bs1, rfl, hl1, hx1, hc1, hbk1, hnil1, hspot1⟩ := open_bytes (hval 1 22 v1 rfl rfl) h1
  have h2k := h2
  obtain ⟨m2, rfl, rfl, rfl, wm2⟩ := open_int Tryz.underlying3 (hval 2 3 v2 rfl rfl) h2
  have hm2 := int_bounds wm2
  subst hl0
  subst hl1
  clear hA0
  simp only [List.append_nil] at hW' hk
  have hlt : ∀ x ∈ p0 ++ (p1), x.block < W.heap.size := fun x hx => by simpa using hW'.lt x (by simpa using hx)
  have hb : bs0.length ≤ 1048576 ∧ bs1.length ≤ 1048576 := by
    have h : Rows.uptoBulkAll [d0, d1, DataW.lit (.int .i64 m2)] ≤ 1048576 := of_decide_eq_true hk
    simp only [Rows.uptoBulkAll, Rows.uptoBulk] at h
    omega
  obtain ⟨hb0, hb1⟩ := hb
  have ht : LibOk W := lib_of hL hsh (by kernel_rfl)
  have he : ErrOk W := err_of hL (by kernel_rfl) (by kernel_rfl)
  have hbru : BruOk W := bru_of hL (by kernel_rfl)
  refine (chunkMemory_any A0 bs0.length c0 bs0 A1 bs1.length c1 bs1 m2 W (by omega) rfl hc0 hx0 (by omega) rfl hc1 hx1 hm2.1 hm2.2 ht he hbru).mono fun e W' ⟨he, hw⟩ => ?_
  subst he
  exact ⟨_, rfl, post_of_below (pa := p0 ++ (p1)) (pv := []) hW' (fun _ _ _ => trodAll_mk1 (shut_bool Tryz.underlying4 true))
    (fun sp hsp => by
      have k0 := again (by kernel_rfl) (of_decide_eq_true (by kernel_rfl)) h0 hw (fun x hx => hlt x (by simp [hx])) sp (fun x hx => hsp x (by simp [hx]))
      have k1 := again (by kernel_rfl) (of_decide_eq_true (by kernel_rfl)) h1 hw (fun x hx => hlt x (by simp [hx])) sp (fun x hx => hsp x (by simp [hx]))
      have k2 := again (by kernel_rfl) (of_decide_eq_true (by kernel_rfl)) h2k hw (fun x hx => by cases hx) sp (fun x hx => by cases hx)
      have := trodAll_mk3 k0 k1 k2
      simp only [List.append_nil] at this
      exact this) (fun _ _ => rfl) (by simp)
    hw (ok_one (by kernel_rfl) rfl (okWide_bool_mk Tryz.underlying4 true))⟩

theorem chunkMemory_met (os : Os) : laidMet Tryz.prog Rows.chunkMemoryUptoRow.laid ((World.laidAll Tryz.prog os Rows.chunkMemoryUptoRow.laid).forCall (fun _ _ => 0) ⟨#[], #[.slice none 0 0, .slice none 0 0, .int .i64 0], []⟩).memory :=
  laidMet_laidAll _ (by kernel_rfl) (by kernel_rfl)
theorem chunkMemory_reads (os : Os) {H : Type} (enc : TypeId × Value → H) : ∃ places, DataW.whole enc Tryz.prog ((World.laidAll Tryz.prog os Rows.chunkMemoryUptoRow.laid).forCall (fun _ _ => 0) ⟨#[], #[.slice none 0 0, .slice none 0 0, .int .i64 0], []⟩).memory Tryz.f7.params.toList Rows.chunkMemorySpec.vars false #[Value.slice none 0 0, .slice none 0 0, .int .i64 0].toList 8 = some ([.nil, .nil, .lit (.int .i64 0)], [], places) :=
  ⟨[], by kernel_rfl⟩

set_option maxRecDepth 100000 in
theorem chunkMemory_lifted (os : Os) (started : os.Started) (H : Type) (enc : TypeId × Value → H) (F : Stop.Interp) :
    ReturnsInHanded {} Tryz.checked os 7 .any ((Rows.OpenSpec.upto Rows.chunkMemorySpec).preRow enc Tryz.prog Tryz.f7 Rows.chunkMemoryUptoRow.domain false Rows.chunkMemoryUptoRow.laid) (((Rows.OpenSpec.upto Rows.chunkMemorySpec).at F).post enc Tryz.prog Tryz.f7 false true false false) := by
  obtain ⟨places, hx⟩ := chunkMemory_reads os enc
  refine returnsInHanded_of_row (C := Tryz.checked) (s := Rows.OpenSpec.upto Rows.chunkMemorySpec) own_ started (by kernel_rfl) Tryz.func7
    (witness_row_at (enc := enc) (C := Tryz.checked) false (World.laidAll Tryz.prog os Rows.chunkMemoryUptoRow.laid) #[.slice none 0 0, .slice none 0 0, .int .i64 0] (World.laidAll_os _ _ _) (by kernel_rfl) (by kernel_rfl) (by kernel_rfl)
      (OpenSpec.preRow_of_cond 8 hx (by kernel_rfl) (fun k hk => by cases hk; kernel_rfl) (by kernel_rfl) (chunkMemory_met os))) ?_
  intro W base args ds gs before hval hW _ hcond _ hL hsh _
  exact chunkMemory_contract H enc W base args ds gs before hval hW (hcond _ rfl) hL hsh

theorem chunkMemory_closed : joinedFacts Tryz.pinned.checked.prog 7 Tryz.f7 (Rows.OpenSpec.upto Rows.chunkMemorySpec).bare Rows.chunkMemoryUptoRow = true := by kernel_rfl
theorem chunkMemory_inst : Tryz.f7.isInstance Tryz.pinned.checked.prog Rows.chunkMemoryUptoRow.origin Rows.chunkMemoryUptoRow.targs := of_decide_eq_true (by kernel_rfl)
theorem chunkMemory_wrap : Tryz.f7.isWrapper Tryz.pinned.checked.prog Rows.chunkMemoryUptoRow.wrapper Rows.chunkMemoryUptoRow.mainSum := by unfold Func.isWrapper; first | (rw [if_pos (by decide +kernel)]; kernel_rfl) | (rw [if_neg (by decide +kernel)]; exact ⟨rfl, rfl⟩)
theorem chunkMemory_name : Tryz.pinned.checked.prog.funcNamed Rows.chunkMemoryUptoRow.func = some 7 := by kernel_rfl
theorem chunkMemory_said : Rows.ChunkMemoryUptoSaid :=
  OpenClaim.holds_of_cond 7 Tryz.f7 rfl rfl rfl rfl rfl rfl rfl ⟨rfl, rfl, rfl, rfl, rfl⟩ rfl rfl rfl rfl rfl chunkMemory_name Tryz.func7 chunkMemory_closed chunkMemory_inst chunkMemory_wrap
    (fun os started H enc _ F => by rw [OpenClaim.pre_eq_preRow]; exact chunkMemory_lifted os started H enc F)

theorem chunkMemory_plain (f : FuncId) (fn : Func) (hf : Tryz.pinned.checked.prog.funcNamed "conduit/conduitlaw07.ChunkMemory" = some f) (hfn : Tryz.pinned.checked.prog.funcs[f]? = some fn) :
    true = Tryz.pinned.checked.prog.looks [] ∧ ∀ (j : Nat) t, fn.params[j]? = some t → Tryz.pinned.checked.prog.wantsStandIn t = false := by
  obtain rfl : f = 7 := Option.some.inj ((show Tryz.prog.funcNamed "conduit/conduitlaw07.ChunkMemory" = some 7 by kernel_rfl).symm.trans hf) |>.symm
  obtain rfl : fn = Tryz.f7 := (Option.some.inj (Tryz.func7.symm.trans hfn)).symm
  refine ⟨by kernel_rfl, fun j t ht => ?_⟩
  rw [Tryz.params7] at ht
  have hm := Array.mem_of_getElem? ht
  simp only [List.mem_toArray, List.mem_cons, List.mem_nil_iff, or_false] at hm
  rcases hm with rfl | rfl | rfl
  · exact (show Tryz.prog.wantsStandIn 22 = false by kernel_rfl)
  · exact (show Tryz.prog.wantsStandIn 22 = false by kernel_rfl)
  · exact (show Tryz.prog.wantsStandIn 3 = false by kernel_rfl)

theorem chunkMemory_holds : Rows.ChunkMemoryUptoCardSaid :=
  Claim7.holds_tied_plain_at .later [] _ _ _ _ chunkMemory_said (fun _ h => by cases h) (by kernel_rfl) (fun _ h => by cases h) chunkMemoryUpto_row_tie rfl ⟨rfl, rfl⟩ (by kernel_rfl) rfl chunkMemory_plain (by kernel_rfl)
end Go.Proofs.YtnmldbcgpfglkaaGreatDoor
