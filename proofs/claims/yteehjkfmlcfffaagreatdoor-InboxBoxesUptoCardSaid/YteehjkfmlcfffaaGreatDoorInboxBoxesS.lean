/- InboxBoxes holds wherever what it reads is of at most 1,048,576 bytes and pieces: a box of something else gives every answer of every script of pieces. Conditions: the library's two tables of UTF-8, internal/bytealg.MaxLen, and the variables strconv.ErrSyntax and strconv.ErrRange read as they were laid. -/
import Derived.Test.YteehjkfmlcfffaaGreatDoorCards
import Derived.Test.YteehjkfmlcfffaaGreatDoorTie
import Derived.Test.YteehjkfmlcfffaaGreatDoorBoxes
import Derived.Test.YteehjkfmlcfffaaGreatDoorOpen5
import Derived.Test.YteehjkfmlcfffaaGreatDoorLaidU
import Derived.Test.YteehjkfmlcfffaaGreatDoorOpenA
import Derived.Test.YteehjkfmlcfffaaGreatDoorLaid
import Derived.Carry
import Derived.ChangeMaps
namespace Go.Proofs.YteehjkfmlcfffaaGreatDoor
open Go.ChangeShapes Go.WideShapes Go.ChangeAt Go.RowKit

set_option maxRecDepth 100000 in
theorem inboxBoxes_contract (H : Type) (enc : TypeId × Value → H) (W : World) (base : Nat) (args : Array Value) (ds gs : List (DataW H)) (before : List MemPlace)
    (hval : ∀ (j : Nat) t v, Tryz.f5.params[j]? = some t → args[j]? = some v → Value.okWide Tryz.prog W .any base t v)
    (hW : DataW.Whole enc Tryz.prog Tryz.f5.params.toList Rows.inboxBoxesSpec.vars false W args.toList ds gs before) (hk : Rows.uptoSmall H (ds ++ gs) = true) (hL : laidMetH Tryz.prog Rows.inboxBoxesUptoRow.laid W) (hsh : W.ShapedOpen Tryz.prog) :
    Calls Tryz.prog 5 args W fun e W' => ∃ v, e = .returned v ∧ Rows.inboxBoxesSpec.post enc Tryz.prog Tryz.f5 false true false false W args v W' := by
  have hW' := hW
  obtain ⟨p, q, hA0, hV, rfl, hfz, hnd⟩ := hW
  have hA : DataW.TrodAll enc Tryz.prog W 0 (fun _ => true) true Tryz.f5.params.toList args.toList ds p := hA0
  rw [Tryz.params5] at hA hval
  obtain ⟨v0, d0, rfl, rfl, h0⟩ := trodAll_one hA
  obtain ⟨p0, rfl⟩ : ∃ p0, p0 = p := ⟨p, rfl⟩
  obtain ⟨rfl, rfl⟩ := trodVars_none hV
  obtain ⟨A0, n0, c0, ps0, rfl, hl0, hx0, hpr0, hbk0, hbl0⟩ := open_pieces (hval 0 42 v0 rfl rfl) h0
  subst hl0
  clear hA0
  simp only [List.append_nil] at hW' hk
  have hlt : ∀ x ∈ p0, x.block < W.heap.size := fun x hx => by simpa using hW'.lt x (by simpa using hx)
  have hb : ((ps0.map (·.2.2)).flatten.length ≤ 1048576 ∧ ps0.length ≤ 1048576) := by
    have h : Rows.uptoBulkAll [d0] ≤ 1048576 := of_decide_eq_true hk
    simp only [Rows.uptoBulkAll] at h
    omega
  obtain hb0 := hb
  have ht : LibOk W := lib_of hL hsh (by kernel_rfl)
  have he : ErrOk W := err_of hL (by kernel_rfl) (by kernel_rfl)
  refine (inboxBoxes_any A0 ps0.length c0 ps0 W rfl hx0 hpr0 (by omega) (by omega) ht he).mono fun e W' ⟨he, hw⟩ => ?_
  subst he
  exact ⟨_, rfl, post_of_below (pa := p0) (pv := []) hW' (fun _ _ _ => trodAll_mk1 (shut_bool Tryz.underlying4 true))
    (fun sp hsp => by
      have k0 := again (by kernel_rfl) (of_decide_eq_true (by kernel_rfl)) h0 hw (fun x hx => hlt x (by simp [hx])) sp (fun x hx => hsp x (by simp [hx]))
      have := trodAll_mk1 k0
      exact this) (fun _ _ => rfl) (by simp)
    hw (ok_one (by kernel_rfl) rfl (okWide_bool_mk Tryz.underlying4 true))⟩

theorem inboxBoxes_met (os : Os) : laidMet Tryz.prog Rows.inboxBoxesUptoRow.laid ((World.laidAll Tryz.prog os Rows.inboxBoxesUptoRow.laid).forCall (fun _ _ => 0) ⟨#[], #[.slice none 0 0], []⟩).memory :=
  laidMet_laidAll _ (by kernel_rfl) (by kernel_rfl)
theorem inboxBoxes_reads (os : Os) {H : Type} (enc : TypeId × Value → H) : ∃ places, DataW.whole enc Tryz.prog ((World.laidAll Tryz.prog os Rows.inboxBoxesUptoRow.laid).forCall (fun _ _ => 0) ⟨#[], #[.slice none 0 0], []⟩).memory Tryz.f5.params.toList Rows.inboxBoxesSpec.vars false #[Value.slice none 0 0].toList 8 = some ([.nil], [], places) :=
  ⟨[], by kernel_rfl⟩

set_option maxRecDepth 100000 in
theorem inboxBoxes_lifted (os : Os) (started : os.Started) (H : Type) (enc : TypeId × Value → H) (F : Stop.Interp) :
    ReturnsInHanded {} Tryz.checked os 5 .any ((Rows.OpenSpec.upto Rows.inboxBoxesSpec).preRow enc Tryz.prog Tryz.f5 Rows.inboxBoxesUptoRow.domain false Rows.inboxBoxesUptoRow.laid) (((Rows.OpenSpec.upto Rows.inboxBoxesSpec).at F).post enc Tryz.prog Tryz.f5 false true false false) := by
  obtain ⟨places, hx⟩ := inboxBoxes_reads os enc
  refine returnsInHanded_of_row (C := Tryz.checked) (s := Rows.OpenSpec.upto Rows.inboxBoxesSpec) own_ started (by kernel_rfl) Tryz.func5
    (witness_row_at (enc := enc) (C := Tryz.checked) false (World.laidAll Tryz.prog os Rows.inboxBoxesUptoRow.laid) #[.slice none 0 0] (World.laidAll_os _ _ _) (by kernel_rfl) (by kernel_rfl) (by kernel_rfl)
      (OpenSpec.preRow_of_cond 8 hx (by kernel_rfl) (fun k hk => by cases hk; kernel_rfl) (by kernel_rfl) (inboxBoxes_met os))) ?_
  intro W base args ds gs before hval hW _ hcond _ hL hsh _
  exact inboxBoxes_contract H enc W base args ds gs before hval hW (hcond _ rfl) hL hsh

theorem inboxBoxes_inPlace : (Rows.inboxBoxesUptoRow.inPlace == Tryz.pinned.checked.prog.inPlace 5) = true := by kernel_rfl
theorem inboxBoxes_follows : (Rows.inboxBoxesUptoRow.unfollowed == Tryz.pinned.checked.prog.unfollowed 5) = true := by kernel_rfl
theorem inboxBoxes_rings : (Rows.inboxBoxesUptoRow.recurses == Tryz.pinned.checked.prog.recurses 5) = true := by kernel_rfl
theorem inboxBoxes_names : (Rows.inboxBoxesUptoRow.named == Tryz.pinned.checked.prog.varsNamed 5) = true := by kernel_rfl
theorem inboxBoxes_closed : joinedFacts Tryz.pinned.checked.prog 5 Tryz.f5 (Rows.OpenSpec.upto Rows.inboxBoxesSpec).bare Rows.inboxBoxesUptoRow = true := by 
  unfold joinedFacts
  rw [inboxBoxes_inPlace, inboxBoxes_follows, inboxBoxes_rings, inboxBoxes_names]
  kernel_rfl
theorem inboxBoxes_inst : Tryz.f5.isInstance Tryz.pinned.checked.prog Rows.inboxBoxesUptoRow.origin Rows.inboxBoxesUptoRow.targs := of_decide_eq_true (by kernel_rfl)
theorem inboxBoxes_wrap : Tryz.f5.isWrapper Tryz.pinned.checked.prog Rows.inboxBoxesUptoRow.wrapper Rows.inboxBoxesUptoRow.mainSum := by unfold Func.isWrapper; first | (rw [if_pos (by decide +kernel)]; kernel_rfl) | (rw [if_neg (by decide +kernel)]; exact ⟨rfl, rfl⟩)
theorem inboxBoxes_name : Tryz.pinned.checked.prog.funcNamed Rows.inboxBoxesUptoRow.func = some 5 := by kernel_rfl
theorem inboxBoxes_said : Rows.InboxBoxesUptoSaid :=
  OpenClaim.holds_of_cond 5 Tryz.f5 rfl rfl rfl rfl rfl rfl rfl ⟨rfl, rfl, rfl, rfl, rfl⟩ rfl rfl rfl rfl rfl inboxBoxes_name Tryz.func5 inboxBoxes_closed inboxBoxes_inst inboxBoxes_wrap
    (fun os started H enc _ F => by rw [OpenClaim.pre_eq_preRow]; exact inboxBoxes_lifted os started H enc F)
end Go.Proofs.YteehjkfmlcfffaaGreatDoor
