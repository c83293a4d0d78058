/- HopFramed holds wherever what it reads is of bulk at most 1,048,576: a response's bytes are read as one message, whatever stands behind them. Conditions: the library's table of powers of ten and its two tables of UTF-8, internal/bytealg.MaxLen, and the variables strconv.ErrSyntax and strconv.ErrRange read as they were laid. -/
import Derived.Test.YteehjkfmlcfffaaGreatDoorCards
import Derived.Test.YteehjkfmlcfffaaGreatDoorTie
import Derived.Test.YteehjkfmlcfffaaGreatDoorHopF
import Derived.Test.YteehjkfmlcfffaaGreatDoorOpenA
import Derived.Test.YteehjkfmlcfffaaGreatDoorLaidU
import Derived.Test.YteehjkfmlcfffaaGreatDoorLaid
import Derived.Carry
import Derived.ChangeMaps
namespace Go.Proofs.YteehjkfmlcfffaaGreatDoor
open Go.ChangeShapes Go.WideShapes Go.ChangeAt Go.RowKit

section
variable {H : Type} {enc : TypeId × Value → H} {P : Program} {w : World} {base : Nat} {spare : Nat → Bool} {held : Bool}
/-- Five parameters. -/
theorem trodAll_five {t t1 t2 t3 t4 : TypeId} {args : Array Value} {ds : List (DataW H)} {ps : List MemPlace} (h : DataW.TrodAll enc P w base spare held [t, t1, t2, t3, t4] args.toList ds ps) :
    ∃ v v1 v2 v3 v4 d d1 d2 d3 d4 p p1 p2 p3 p4, args = #[v, v1, v2, v3, v4] ∧ ds = [d, d1, d2, d3, d4] ∧ ps = p ++ p1 ++ p2 ++ p3 ++ p4 ∧ DataW.Trod enc P w base spare held t v d p ∧ DataW.Trod enc P w base spare held t1 v1 d1 p1 ∧
      DataW.Trod enc P w base spare held t2 v2 d2 p2 ∧ DataW.Trod enc P w base spare held t3 v3 d3 p3 ∧ DataW.Trod enc P w base spare held t4 v4 d4 p4 := by
  obtain ⟨v, vs, d, ds', p, q, hargs, rfl, rfl, hd, h1⟩ := trodAll_cons h
  obtain ⟨v1, vs1, d1, ds1, p1, q1, rfl, rfl, rfl, hd1, h2⟩ := trodAll_cons h1
  obtain ⟨v2, vs2, d2, ds2, p2, q2, rfl, rfl, rfl, hd2, h3⟩ := trodAll_cons h2
  obtain ⟨v3, vs3, d3, ds3, p3, q3, rfl, rfl, rfl, hd3, h4⟩ := trodAll_cons h3
  obtain ⟨v4, vs4, d4, ds4, p4, q4, rfl, rfl, rfl, hd4, h5⟩ := trodAll_cons h4
  obtain ⟨rfl, rfl, rfl⟩ := trodAll_nil h5
  exact ⟨v, v1, v2, v3, v4, d, d1, d2, d3, d4, p, p1, p2, p3, p4, by cases args; simp_all, rfl, by simp, hd, hd1, hd2, hd3, hd4⟩
theorem trodAll_mk5 {t t1 t2 t3 t4 : TypeId} {v v1 v2 v3 v4 : Value} {d d1 d2 d3 d4 : DataW H} {p p1 p2 p3 p4 : List MemPlace} (h : DataW.Trod enc P w base spare held t v d p) (h1 : DataW.Trod enc P w base spare held t1 v1 d1 p1)
    (h2 : DataW.Trod enc P w base spare held t2 v2 d2 p2) (h3 : DataW.Trod enc P w base spare held t3 v3 d3 p3) (h4 : DataW.Trod enc P w base spare held t4 v4 d4 p4) : DataW.TrodAll enc P w base spare held [t, t1, t2, t3, t4] [v, v1, v2, v3, v4] [d, d1, d2, d3, d4] (p ++ (p1 ++ (p2 ++ (p3 ++ p4)))) :=
  ⟨p, p1 ++ (p2 ++ (p3 ++ p4)), h, trodAll_mk4 h1 h2 h3 h4, rfl⟩
end
set_option maxRecDepth 100000 in
theorem hopFramed_contract (H : Type) (enc : TypeId × Value → H) (W : World) (base : Nat) (args : Array Value) (ds gs : List (DataW H)) (before : List MemPlace)
    (hval : ∀ (j : Nat) t v, Tryz.f7.params[j]? = some t → args[j]? = some v → Value.okWide Tryz.prog W .any base t v)
    (hW : DataW.Whole enc Tryz.prog Tryz.f7.params.toList Rows.hopFramedSpec.vars false W args.toList ds gs before) (hk : Rows.uptoSmall H (ds ++ gs) = true) (hL : laidMetH Tryz.prog Rows.hopFramedUptoRow.laid W) (hsh : W.ShapedOpen Tryz.prog) :
    Calls Tryz.prog 7 args W fun e W' => ∃ v, e = .returned v ∧ Rows.hopFramedSpec.post enc Tryz.prog Tryz.f7 false true false false W args v W' := by
  have hW' := hW
  obtain ⟨p, q, hA0, hV, rfl, hfz, hnd⟩ := hW
  have hA : DataW.TrodAll enc Tryz.prog W 0 (fun _ => true) true Tryz.f7.params.toList args.toList ds p := hA0
  rw [Tryz.params7] at hA hval
  obtain ⟨v0, v1, v2, v3, v4, d0, d1, d2, d3, d4, p0, p1, p2, p3, p4, rfl, rfl, rfl, h0, h1, h2, h3, h4⟩ := trodAll_five hA
  obtain ⟨rfl, rfl⟩ := trodVars_none hV
  obtain ⟨s0, r0, m0, A0, n0, c0, fs0, rfl, ws0, wm0, hl0, hx0, hbk0, hnil0⟩ := open_resp (hval 0 27 v0 rfl rfl) h0
  have hm0 := int_bounds wm0
  have hs0 := int_bounds ws0
  obtain ⟨A1, n1, c1, bs1, rfl, hl1, hx1, hc1, hbk1, hnil1, hspot1⟩ := open_bytes (hval 1 22 v1 rfl rfl) h1
  have h2k := h2
  obtain ⟨s2, rfl, rfl, rfl, _⟩ := Go.ChangeMaps.open_string Tryz.underlying9 (hval 2 9 v2 rfl rfl) h2
  have h3k := h3
  obtain ⟨b3, rfl, rfl, rfl⟩ := open_bool Tryz.underlying4 (hval 3 4 v3 rfl rfl) h3
  obtain ⟨A4, n4, c4, bs4, rfl, hl4, hx4, hc4, hbk4, hnil4, hspot4⟩ := open_bytes (hval 4 22 v4 rfl rfl) h4
  subst hl0
  subst hl1
  subst hl4
  clear hA0
  simp only [List.append_nil] at hW' hk
  have hlt : ∀ x ∈ p0 ++ (p1 ++ (p4)), x.block < W.heap.size := fun x hx => by simpa using hW'.lt x (by simpa using hx)
  have hb : F.bulk fs0 + r0.size ≤ 1048576 ∧ bs1.length ≤ 1048576 ∧ s2.size ≤ 1048576 ∧ bs4.length ≤ 1048576 := by
    have h : Rows.uptoBulkAll [d0, d1, DataW.lit (.string s2.data.toList), DataW.lit (.bool b3), d4] ≤ 1048576 := of_decide_eq_true hk
    simp only [Rows.uptoBulkAll, Rows.uptoBulk, Array.length_toList] at h
    have : s2.size = s2.data.size := rfl
    omega
  obtain ⟨hb0, hb1, hb2, hb4⟩ := hb
  have ht : TabOk W := tab_of hL (by kernel_rfl)
  have hlib : LibOk W := lib_of hL hsh (by kernel_rfl)
  have he : ErrOk W := err_of hL (by kernel_rfl) (by kernel_rfl)
  refine (hopFramed_any s0 r0 m0 A0 c0 fs0 A1 c1 bs1 s2 b3 A4 c4 bs4 W hs0.1 hs0.2 (by omega) (by omega) hx0 (by omega) hx1 (by omega) hx4 ht hlib he).mono fun e W' ⟨he, hw⟩ => ?_
  subst he
  exact ⟨_, rfl, post_of_below (pa := p0 ++ (p1 ++ (p4))) (pv := []) hW' (fun _ _ _ => trodAll_mk1 (shut_bool Tryz.underlying4 true))
    (fun sp hsp => by
      have k0 := again (by kernel_rfl) (of_decide_eq_true (by kernel_rfl)) h0 hw (fun x hx => hlt x (by simp [hx])) sp (fun x hx => hsp x (by simp [hx]))
      have k1 := again (by kernel_rfl) (of_decide_eq_true (by kernel_rfl)) h1 hw (fun x hx => hlt x (by simp [hx])) sp (fun x hx => hsp x (by simp [hx]))
      have k2 := again (by kernel_rfl) (of_decide_eq_true (by kernel_rfl)) h2k hw (fun x hx => by cases hx) sp (fun x hx => by cases hx)
      have k3 := again (by kernel_rfl) (of_decide_eq_true (by kernel_rfl)) h3k hw (fun x hx => by cases hx) sp (fun x hx => by cases hx)
      have k4 := again (by kernel_rfl) (of_decide_eq_true (by kernel_rfl)) h4 hw (fun x hx => hlt x (by simp [hx])) sp (fun x hx => hsp x (by simp [hx]))
      have := trodAll_mk5 k0 k1 k2 k3 k4
      simp only [List.nil_append] at this
      exact this) (fun _ _ => rfl) (by simp)
    hw (ok_one (by kernel_rfl) rfl (okWide_bool_mk Tryz.underlying4 true))⟩

theorem hopFramed_met (os : Os) : laidMet Tryz.prog Rows.hopFramedUptoRow.laid ((World.laidAll Tryz.prog os Rows.hopFramedUptoRow.laid).forCall (fun _ _ => 0) ⟨#[], #[.agg #[.int .i64 0, .string ⟨#[]⟩, .int .i64 0, .slice none 0 0], .slice none 0 0, .string ⟨#[]⟩, .bool false, .slice none 0 0], []⟩).memory :=
  laidMet_laidAll _ (by kernel_rfl) (by kernel_rfl)
theorem hopFramed_reads (os : Os) {H : Type} (enc : TypeId × Value → H) : ∃ places, DataW.whole enc Tryz.prog ((World.laidAll Tryz.prog os Rows.hopFramedUptoRow.laid).forCall (fun _ _ => 0) ⟨#[], #[.agg #[.int .i64 0, .string ⟨#[]⟩, .int .i64 0, .slice none 0 0], .slice none 0 0, .string ⟨#[]⟩, .bool false, .slice none 0 0], []⟩).memory Tryz.f7.params.toList Rows.hopFramedSpec.vars false #[Value.agg #[.int .i64 0, .string ⟨#[]⟩, .int .i64 0, .slice none 0 0], .slice none 0 0, .string ⟨#[]⟩, .bool false, .slice none 0 0].toList 8 = some ([.agg [.lit (.int .i64 0), .lit (.string []), .lit (.int .i64 0), .nil], .nil, .lit (.string []), .lit (.bool false), .nil], [], places) :=
  ⟨[], by kernel_rfl⟩

set_option maxRecDepth 100000 in
theorem hopFramed_lifted (os : Os) (started : os.Started) (H : Type) (enc : TypeId × Value → H) (F : Stop.Interp) :
    ReturnsInHanded {} Tryz.checked os 7 .any ((Rows.OpenSpec.upto Rows.hopFramedSpec).preRow enc Tryz.prog Tryz.f7 Rows.hopFramedUptoRow.domain false Rows.hopFramedUptoRow.laid) (((Rows.OpenSpec.upto Rows.hopFramedSpec).at F).post enc Tryz.prog Tryz.f7 false true false false) := by
  obtain ⟨places, hx⟩ := hopFramed_reads os enc
  refine returnsInHanded_of_row (C := Tryz.checked) (s := Rows.OpenSpec.upto Rows.hopFramedSpec) own_ started (by kernel_rfl) Tryz.func7
    (witness_row_at (enc := enc) (C := Tryz.checked) false (World.laidAll Tryz.prog os Rows.hopFramedUptoRow.laid) #[.agg #[.int .i64 0, .string ⟨#[]⟩, .int .i64 0, .slice none 0 0], .slice none 0 0, .string ⟨#[]⟩, .bool false, .slice none 0 0] (World.laidAll_os _ _ _) (by kernel_rfl) (by kernel_rfl) (by kernel_rfl)
      (OpenSpec.preRow_of_cond 8 hx (by kernel_rfl) (fun k hk => by cases hk; kernel_rfl) (by kernel_rfl) (hopFramed_met os))) ?_
  intro W base args ds gs before hval hW _ hcond _ hL hsh _
  exact hopFramed_contract H enc W base args ds gs before hval hW (hcond _ rfl) hL hsh

theorem hopFramed_inPlace : (Rows.hopFramedUptoRow.inPlace == Tryz.pinned.checked.prog.inPlace 7) = true := by kernel_rfl
theorem hopFramed_follows : (Rows.hopFramedUptoRow.unfollowed == Tryz.pinned.checked.prog.unfollowed 7) = true := by kernel_rfl
theorem hopFramed_rings : (Rows.hopFramedUptoRow.recurses == Tryz.pinned.checked.prog.recurses 7) = true := by kernel_rfl
theorem hopFramed_names : (Rows.hopFramedUptoRow.named == Tryz.pinned.checked.prog.varsNamed 7) = true := by kernel_rfl
theorem hopFramed_closed : joinedFacts Tryz.pinned.checked.prog 7 Tryz.f7 (Rows.OpenSpec.upto Rows.hopFramedSpec).bare Rows.hopFramedUptoRow = true := by 
  unfold joinedFacts
  rw [hopFramed_inPlace, hopFramed_follows, hopFramed_rings, hopFramed_names]
  kernel_rfl
theorem hopFramed_inst : Tryz.f7.isInstance Tryz.pinned.checked.prog Rows.hopFramedUptoRow.origin Rows.hopFramedUptoRow.targs := of_decide_eq_true (by kernel_rfl)
theorem hopFramed_wrap : Tryz.f7.isWrapper Tryz.pinned.checked.prog Rows.hopFramedUptoRow.wrapper Rows.hopFramedUptoRow.mainSum := by unfold Func.isWrapper; first | (rw [if_pos (by decide +kernel)]; kernel_rfl) | (rw [if_neg (by decide +kernel)]; exact ⟨rfl, rfl⟩)
theorem hopFramed_name : Tryz.pinned.checked.prog.funcNamed Rows.hopFramedUptoRow.func = some 7 := by kernel_rfl
theorem hopFramed_said : Rows.HopFramedUptoSaid :=
  OpenClaim.holds_of_cond 7 Tryz.f7 rfl rfl rfl rfl rfl rfl rfl ⟨rfl, rfl, rfl, rfl, rfl⟩ rfl rfl rfl rfl rfl hopFramed_name Tryz.func7 hopFramed_closed hopFramed_inst hopFramed_wrap
    (fun os started H enc _ F => by rw [OpenClaim.pre_eq_preRow]; exact hopFramed_lifted os started H enc F)
end Go.Proofs.YteehjkfmlcfffaaGreatDoor
