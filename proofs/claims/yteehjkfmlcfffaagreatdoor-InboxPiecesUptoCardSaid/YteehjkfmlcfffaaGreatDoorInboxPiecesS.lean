/- InboxPieces holds wherever what it reads is of at most 1,048,576 bytes and numbers: however the bytes are cut into pieces, a box of requests tells the same messages, and the same error at the end. Conditions: the library's two tables of UTF-8, internal/bytealg.MaxLen, and the variables strconv.ErrSyntax and strconv.ErrRange read as they were laid. -/
import Derived.Test.YteehjkfmlcfffaaGreatDoorCards
import Derived.Test.YteehjkfmlcfffaaGreatDoorTie
import Derived.Test.YteehjkfmlcfffaaGreatDoorPieces
import Derived.Test.YteehjkfmlcfffaaGreatDoorOpen5
import Derived.Test.YteehjkfmlcfffaaGreatDoorLaidU
import Derived.Test.YteehjkfmlcfffaaGreatDoorOpenA
import Derived.Test.YteehjkfmlcfffaaGreatDoorLaid
import Derived.Carry
import Derived.ChangeMaps
namespace Go.Proofs.YteehjkfmlcfffaaGreatDoor
open Go.ChangeShapes Go.WideShapes Go.ChangeAt Go.RowKit

set_option maxRecDepth 100000 in
theorem inboxPieces_contract (H : Type) (enc : TypeId × Value → H) (W : World) (base : Nat) (args : Array Value) (ds gs : List (DataW H)) (before : List MemPlace)
    (hval : ∀ (j : Nat) t v, Tryz.f4.params[j]? = some t → args[j]? = some v → Value.okWide Tryz.prog W .any base t v)
    (hW : DataW.Whole enc Tryz.prog Tryz.f4.params.toList Rows.inboxPiecesSpec.vars false W args.toList ds gs before) (hk : Rows.uptoSmall H (ds ++ gs) = true) (hL : laidMetH Tryz.prog Rows.inboxPiecesUptoRow.laid W) (hsh : W.ShapedOpen Tryz.prog) :
    Calls Tryz.prog 4 args W fun e W' => ∃ v, e = .returned v ∧ Rows.inboxPiecesSpec.post enc Tryz.prog Tryz.f4 false true false false W args v W' := by
  have hW' := hW
  obtain ⟨p, q, hA0, hV, rfl, hfz, hnd⟩ := hW
  have hA : DataW.TrodAll enc Tryz.prog W 0 (fun _ => true) true Tryz.f4.params.toList args.toList ds p := hA0
  rw [Tryz.params4] at hA hval
  obtain ⟨v0, v1, d0, d1, p0, p1, rfl, rfl, rfl, h0, h1⟩ := trodAll_two hA
  obtain ⟨rfl, rfl⟩ := trodVars_none hV
  obtain ⟨A0, n0, c0, bs0, rfl, hl0, hx0, hc0, hbk0, hnil0, hspot0⟩ := open_bytes (hval 0 22 v0 rfl rfl) h0
  obtain ⟨A1, n1, c1, zs1, rfl, hl1, hx1, hc1, hbk1, hwf1⟩ := open_numbers (hval 1 37 v1 rfl rfl) h1
  subst hl0
  subst hl1
  clear hA0
  simp only [List.append_nil] at hW' hk
  have hlt : ∀ x ∈ p0 ++ (p1), x.block < W.heap.size := fun x hx => by simpa using hW'.lt x (by simpa using hx)
  have hb : bs0.length ≤ 1048576 ∧ zs1.length ≤ 1048576 := by
    have h : Rows.uptoBulkAll [d0, d1] ≤ 1048576 := of_decide_eq_true hk
    simp only [Rows.uptoBulkAll] at h
    omega
  obtain ⟨hb0, hb1⟩ := hb
  have ht : LibOk W := lib_of hL hsh (by kernel_rfl)
  have he : ErrOk W := err_of hL (by kernel_rfl) (by kernel_rfl)
  refine (inboxPieces_any A0 bs0.length c0 bs0 A1 zs1.length c1 (zs1.map fun z => .int .i64 z) W rfl (by omega) hc0 hx0 (by omega) hx1 (fun u hu => by obtain ⟨z, _, rfl⟩ := List.mem_map.1 hu; exact ⟨z, rfl⟩) ht he).mono fun e W' ⟨he, hw⟩ => ?_
  subst he
  exact ⟨_, rfl, post_of_below (pa := p0 ++ (p1)) (pv := []) hW' (fun _ _ _ => trodAll_mk1 (shut_bool Tryz.underlying4 true))
    (fun sp hsp => by
      have k0 := again (by kernel_rfl) (of_decide_eq_true (by kernel_rfl)) h0 hw (fun x hx => hlt x (by simp [hx])) sp (fun x hx => hsp x (by simp [hx]))
      have k1 := again (by kernel_rfl) (of_decide_eq_true (by kernel_rfl)) h1 hw (fun x hx => hlt x (by simp [hx])) sp (fun x hx => hsp x (by simp [hx]))
      have := trodAll_mk2 k0 k1
      exact this) (fun _ _ => rfl) (by simp)
    hw (ok_one (by kernel_rfl) rfl (okWide_bool_mk Tryz.underlying4 true))⟩

theorem inboxPieces_met (os : Os) : laidMet Tryz.prog Rows.inboxPiecesUptoRow.laid ((World.laidAll Tryz.prog os Rows.inboxPiecesUptoRow.laid).forCall (fun _ _ => 0) ⟨#[], #[.slice none 0 0, .slice none 0 0], []⟩).memory :=
  laidMet_laidAll _ (by kernel_rfl) (by kernel_rfl)
theorem inboxPieces_reads (os : Os) {H : Type} (enc : TypeId × Value → H) : ∃ places, DataW.whole enc Tryz.prog ((World.laidAll Tryz.prog os Rows.inboxPiecesUptoRow.laid).forCall (fun _ _ => 0) ⟨#[], #[.slice none 0 0, .slice none 0 0], []⟩).memory Tryz.f4.params.toList Rows.inboxPiecesSpec.vars false #[Value.slice none 0 0, .slice none 0 0].toList 8 = some ([.nil, .nil], [], places) :=
  ⟨[], by kernel_rfl⟩

set_option maxRecDepth 100000 in
theorem inboxPieces_lifted (os : Os) (started : os.Started) (H : Type) (enc : TypeId × Value → H) (F : Stop.Interp) :
    ReturnsInHanded {} Tryz.checked os 4 .any ((Rows.OpenSpec.upto Rows.inboxPiecesSpec).preRow enc Tryz.prog Tryz.f4 Rows.inboxPiecesUptoRow.domain false Rows.inboxPiecesUptoRow.laid) (((Rows.OpenSpec.upto Rows.inboxPiecesSpec).at F).post enc Tryz.prog Tryz.f4 false true false false) := by
  obtain ⟨places, hx⟩ := inboxPieces_reads os enc
  refine returnsInHanded_of_row (C := Tryz.checked) (s := Rows.OpenSpec.upto Rows.inboxPiecesSpec) own_ started (by kernel_rfl) Tryz.func4
    (witness_row_at (enc := enc) (C := Tryz.checked) false (World.laidAll Tryz.prog os Rows.inboxPiecesUptoRow.laid) #[.slice none 0 0, .slice none 0 0] (World.laidAll_os _ _ _) (by kernel_rfl) (by kernel_rfl) (by kernel_rfl)
      (OpenSpec.preRow_of_cond 8 hx (by kernel_rfl) (fun k hk => by cases hk; kernel_rfl) (by kernel_rfl) (inboxPieces_met os))) ?_
  intro W base args ds gs before hval hW _ hcond _ hL hsh _
  exact inboxPieces_contract H enc W base args ds gs before hval hW (hcond _ rfl) hL hsh

theorem inboxPieces_inPlace : (Rows.inboxPiecesUptoRow.inPlace == Tryz.pinned.checked.prog.inPlace 4) = true := by kernel_rfl
theorem inboxPieces_follows : (Rows.inboxPiecesUptoRow.unfollowed == Tryz.pinned.checked.prog.unfollowed 4) = true := by kernel_rfl
theorem inboxPieces_rings : (Rows.inboxPiecesUptoRow.recurses == Tryz.pinned.checked.prog.recurses 4) = true := by kernel_rfl
theorem inboxPieces_names : (Rows.inboxPiecesUptoRow.named == Tryz.pinned.checked.prog.varsNamed 4) = true := by kernel_rfl
theorem inboxPieces_closed : joinedFacts Tryz.pinned.checked.prog 4 Tryz.f4 (Rows.OpenSpec.upto Rows.inboxPiecesSpec).bare Rows.inboxPiecesUptoRow = true := by 
  unfold joinedFacts
  rw [inboxPieces_inPlace, inboxPieces_follows, inboxPieces_rings, inboxPieces_names]
  kernel_rfl
theorem inboxPieces_inst : Tryz.f4.isInstance Tryz.pinned.checked.prog Rows.inboxPiecesUptoRow.origin Rows.inboxPiecesUptoRow.targs := of_decide_eq_true (by kernel_rfl)
theorem inboxPieces_wrap : Tryz.f4.isWrapper Tryz.pinned.checked.prog Rows.inboxPiecesUptoRow.wrapper Rows.inboxPiecesUptoRow.mainSum := by unfold Func.isWrapper; first | (rw [if_pos (by decide +kernel)]; kernel_rfl) | (rw [if_neg (by decide +kernel)]; exact ⟨rfl, rfl⟩)
theorem inboxPieces_name : Tryz.pinned.checked.prog.funcNamed Rows.inboxPiecesUptoRow.func = some 4 := by kernel_rfl
theorem inboxPieces_said : Rows.InboxPiecesUptoSaid :=
  OpenClaim.holds_of_cond 4 Tryz.f4 rfl rfl rfl rfl rfl rfl rfl ⟨rfl, rfl, rfl, rfl, rfl⟩ rfl rfl rfl rfl rfl inboxPieces_name Tryz.func4 inboxPieces_closed inboxPieces_inst inboxPieces_wrap
    (fun os started H enc _ F => by rw [OpenClaim.pre_eq_preRow]; exact inboxPieces_lifted os started H enc F)
end Go.Proofs.YteehjkfmlcfffaaGreatDoor
