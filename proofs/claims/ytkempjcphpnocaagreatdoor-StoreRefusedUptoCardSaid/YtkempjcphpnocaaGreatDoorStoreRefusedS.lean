/- StoreRefused holds wherever what it reads is of at most 1,048,576 bytes and numbers: a Put that is refused for want of room leaves every entry that was there as it was. Conditions: the tables of the library that the row lists. -/
import Derived.Test.YtkempjcphpnocaaGreatDoorCards
import Derived.Test.YtkempjcphpnocaaGreatDoorTie
import Derived.Test.YtkempjcphpnocaaGreatDoorRefused
import Derived.Test.YtkempjcphpnocaaGreatDoorZ13
import Derived.Test.YtkempjcphpnocaaGreatDoorZ03
import Derived.Test.YtkempjcphpnocaaGreatDoorOpenA
import Derived.Carry
import Derived.ChangeMaps
namespace Go.Proofs.YtkempjcphpnocaaGreatDoor
open Go.ChangeShapes Go.WideShapes Go.ChangeAt Go.RowKit

set_option maxRecDepth 100000 in
theorem storeRefused_contract (H : Type) (enc : TypeId × Value → H) (W : World) (base : Nat) (args : Array Value) (ds gs : List (DataW H)) (before : List MemPlace)
    (hval : ∀ (j : Nat) t v, Tryz.f3.params[j]? = some t → args[j]? = some v → Value.okWide Tryz.prog W .any base t v)
    (hW : DataW.Whole enc Tryz.prog Tryz.f3.params.toList Rows.storeRefusedSpec.vars false W args.toList ds gs before) (hk : Rows.uptoSmall H (ds ++ gs) = true) (hL : laidMetH Tryz.prog Rows.storeRefusedUptoRow.laid W) (hsh : W.ShapedOpen Tryz.prog) :
    Calls Tryz.prog 3 args W fun e W' => ∃ v, e = .returned v ∧ Rows.storeRefusedSpec.post enc Tryz.prog Tryz.f3 false true false false W args v W' := by
  have hW' := hW
  obtain ⟨p, q, hA0, hV, rfl, hfz, hnd⟩ := hW
  have hA : DataW.TrodAll enc Tryz.prog W 0 (fun _ => true) true Tryz.f3.params.toList args.toList ds p := hA0
  rw [Tryz.params3] at hA hval
  obtain ⟨v0, v1, v2, v3, d0, d1, d2, d3, p0, p1, p2, p3, rfl, rfl, rfl, h0, h1, h2, h3⟩ := trodAll_four hA
  obtain ⟨rfl, rfl⟩ := trodVars_none hV
  have h0k := h0
  obtain ⟨m0, rfl, rfl, rfl, wm0⟩ := open_int Tryz.underlying3 (hval 0 3 v0 rfl rfl) h0
  have hm0 := int_bounds wm0
  have h1k := h1
  obtain ⟨m1, rfl, rfl, rfl, wm1⟩ := open_int Tryz.underlying3 (hval 1 3 v1 rfl rfl) h1
  have hm1 := int_bounds wm1
  obtain ⟨A2, n2, c2, st2, rfl, hl2, hx2, hc2, hnil2, her2, hsm2, hbl2⟩ := open_steps (hval 2 22 v2 rfl rfl) h2
  obtain ⟨k3, u3, s3, r3, m3, A3, n3, c3, fs3, X3, nb3, cb3, body3, a3, g3, rfl, hl3, hx3, hlb3, hX3, hbk3⟩ := open_entry (hval 3 28 v3 rfl rfl) h3
  subst hlb3
  subst hl2
  subst hl3
  clear hA0
  simp only [List.append_nil] at hW' hk
  have hlt : ∀ x ∈ p2 ++ (p3), x.block < W.heap.size := fun x hx => by simpa using hW'.lt x (by simpa using hx)
  have hb : (st2.length ≤ 1048576 ∧ Rows.uptoBulk d2 ≤ 1048576) ∧ F.bulk fs3 + k3.size + u3.size + r3.size + body3.length ≤ 1048576 := by
    have h : Rows.uptoBulkAll [DataW.lit (.int .i64 m0), DataW.lit (.int .i64 m1), d2, d3] ≤ 1048576 := of_decide_eq_true hk
    simp only [Rows.uptoBulkAll, Rows.uptoBulk] at h
    omega
  obtain ⟨hb2, hb3⟩ := hb
  have ht : TabOk W := tab_of hL (by kernel_rfl)
  have hlib : LibOk W := lib_of hL hsh (by kernel_rfl)
  have he : ErrOk W := err_of hL (by kernel_rfl) (by kernel_rfl)
  refine (storeRefused_any m0 m1 A2 st2.length c2 st2 ⟨⟨k3, u3, s3, r3, m3, fs3, body3, a3, g3⟩, A3, c3, X3, cb3⟩ W rfl hc2 (by omega) hnil2 hx2 her2 (fun q hq => Nat.le_trans (hsm2 q hq) hb2.2) ⟨hx3, hX3⟩ hb3 ⟨hlib, he, ht⟩).mono fun e W' ⟨he, hw⟩ => ?_
  subst he
  exact ⟨_, rfl, post_of_below (pa := p2 ++ (p3)) (pv := []) hW' (fun _ _ _ => trodAll_mk1 (shut_bool Tryz.underlying4 true))
    (fun sp hsp => by
      have k0 := again (by kernel_rfl) (of_decide_eq_true (by kernel_rfl)) h0k hw (fun x hx => by cases hx) sp (fun x hx => by cases hx)
      have k1 := again (by kernel_rfl) (of_decide_eq_true (by kernel_rfl)) h1k hw (fun x hx => by cases hx) sp (fun x hx => by cases hx)
      have k2 := again (by kernel_rfl) (of_decide_eq_true (by kernel_rfl)) h2 hw (fun x hx => hlt x (by simp [hx])) sp (fun x hx => hsp x (by simp [hx]))
      have k3 := again (by kernel_rfl) (of_decide_eq_true (by kernel_rfl)) h3 hw (fun x hx => hlt x (by simp [hx])) sp (fun x hx => hsp x (by simp [hx]))
      have := trodAll_mk4 k0 k1 k2 k3
      simp only [List.nil_append] at this
      exact this) (fun _ _ => rfl) (by simp)
    hw (ok_one (by kernel_rfl) rfl (okWide_bool_mk Tryz.underlying4 true))⟩

theorem storeRefused_met (os : Os) : laidMet Tryz.prog Rows.storeRefusedUptoRow.laid ((World.laidAll Tryz.prog os Rows.storeRefusedUptoRow.laid).forCall (fun _ _ => 0) ⟨#[], #[.int .i64 0, .int .i64 0, .slice none 0 0, .agg #[.string ⟨#[]⟩, .string ⟨#[]⟩, .int .i64 0, .string ⟨#[]⟩, .int .i64 0, .slice none 0 0, .slice none 0 0, .int .i64 0, .int .i64 0]], []⟩).memory :=
  laidMet_laidAll _ (by kernel_rfl) (by kernel_rfl)
theorem storeRefused_reads (os : Os) {H : Type} (enc : TypeId × Value → H) : ∃ places, DataW.whole enc Tryz.prog ((World.laidAll Tryz.prog os Rows.storeRefusedUptoRow.laid).forCall (fun _ _ => 0) ⟨#[], #[.int .i64 0, .int .i64 0, .slice none 0 0, .agg #[.string ⟨#[]⟩, .string ⟨#[]⟩, .int .i64 0, .string ⟨#[]⟩, .int .i64 0, .slice none 0 0, .slice none 0 0, .int .i64 0, .int .i64 0]], []⟩).memory Tryz.f3.params.toList Rows.storeRefusedSpec.vars false #[Value.int .i64 0, .int .i64 0, .slice none 0 0, .agg #[.string ⟨#[]⟩, .string ⟨#[]⟩, .int .i64 0, .string ⟨#[]⟩, .int .i64 0, .slice none 0 0, .slice none 0 0, .int .i64 0, .int .i64 0]].toList 8 = some ([.lit (.int .i64 0), .lit (.int .i64 0), .nil, .agg [.lit (.string []), .lit (.string []), .agg [.lit (.int .i64 0), .lit (.string []), .lit (.int .i64 0), .nil], .nil, .lit (.int .i64 0), .lit (.int .i64 0)]], [], places) :=
  ⟨[], by kernel_rfl⟩

set_option maxRecDepth 100000 in
theorem storeRefused_lifted (os : Os) (started : os.Started) (H : Type) (enc : TypeId × Value → H) (F : Stop.Interp) :
    ReturnsInHanded {} Tryz.checked os 3 .any ((Rows.OpenSpec.upto Rows.storeRefusedSpec).preRow enc Tryz.prog Tryz.f3 Rows.storeRefusedUptoRow.domain false Rows.storeRefusedUptoRow.laid) (((Rows.OpenSpec.upto Rows.storeRefusedSpec).at F).post enc Tryz.prog Tryz.f3 false true false false) := by
  obtain ⟨places, hx⟩ := storeRefused_reads os enc
  refine returnsInHanded_of_row (C := Tryz.checked) (s := Rows.OpenSpec.upto Rows.storeRefusedSpec) own_ started (by kernel_rfl) Tryz.func3
    (witness_row_at (enc := enc) (C := Tryz.checked) false (World.laidAll Tryz.prog os Rows.storeRefusedUptoRow.laid) #[.int .i64 0, .int .i64 0, .slice none 0 0, .agg #[.string ⟨#[]⟩, .string ⟨#[]⟩, .int .i64 0, .string ⟨#[]⟩, .int .i64 0, .slice none 0 0, .slice none 0 0, .int .i64 0, .int .i64 0]] (World.laidAll_os _ _ _) (by kernel_rfl) (by kernel_rfl) (by kernel_rfl)
      (OpenSpec.preRow_of_cond 8 hx (by kernel_rfl) (fun k hk => by cases hk; kernel_rfl) (by kernel_rfl) (storeRefused_met os))) ?_
  intro W base args ds gs before hval hW _ hcond _ hL hsh _
  exact storeRefused_contract H enc W base args ds gs before hval hW (hcond _ rfl) hL hsh

theorem storeRefused_inPlace : (Rows.storeRefusedUptoRow.inPlace == Tryz.pinned.checked.prog.inPlace 3) = true := by kernel_rfl
theorem storeRefused_follows : (Rows.storeRefusedUptoRow.unfollowed == Tryz.pinned.checked.prog.unfollowed 3) = true := by kernel_rfl
theorem storeRefused_rings : (Rows.storeRefusedUptoRow.recurses == Tryz.pinned.checked.prog.recurses 3) = true := by kernel_rfl
theorem storeRefused_names : (Rows.storeRefusedUptoRow.named == Tryz.pinned.checked.prog.varsNamed 3) = true := by kernel_rfl
theorem storeRefused_closed : joinedFacts Tryz.pinned.checked.prog 3 Tryz.f3 (Rows.OpenSpec.upto Rows.storeRefusedSpec).bare Rows.storeRefusedUptoRow = true := by
  unfold joinedFacts
  rw [storeRefused_inPlace, storeRefused_follows, storeRefused_rings, storeRefused_names]
  kernel_rfl
theorem storeRefused_inst : Tryz.f3.isInstance Tryz.pinned.checked.prog Rows.storeRefusedUptoRow.origin Rows.storeRefusedUptoRow.targs := of_decide_eq_true (by kernel_rfl)
theorem storeRefused_wrap : Tryz.f3.isWrapper Tryz.pinned.checked.prog Rows.storeRefusedUptoRow.wrapper Rows.storeRefusedUptoRow.mainSum := by unfold Func.isWrapper; first | (rw [if_pos (by decide +kernel)]; kernel_rfl) | (rw [if_neg (by decide +kernel)]; exact ⟨rfl, rfl⟩)
theorem storeRefused_name : Tryz.pinned.checked.prog.funcNamed Rows.storeRefusedUptoRow.func = some 3 := by kernel_rfl
theorem storeRefused_said : Rows.StoreRefusedUptoSaid :=
  OpenClaim.holds_of_cond 3 Tryz.f3 rfl rfl rfl rfl rfl rfl rfl ⟨rfl, rfl, rfl, rfl, rfl⟩ rfl rfl rfl rfl rfl storeRefused_name Tryz.func3 storeRefused_closed storeRefused_inst storeRefused_wrap
    (fun os started H enc _ F => by rw [OpenClaim.pre_eq_preRow]; exact storeRefused_lifted os started H enc F)
end Go.Proofs.YtkempjcphpnocaaGreatDoor
