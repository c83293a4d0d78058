/- InboxMemory holds wherever what it reads is of at most 1,048,576 bytes: what is answered is new memory, each time. Conditions: the bound of the row and its list of tables. -/
import Derived.Test.YteehjkfmlcfffaaGreatDoorCards
import Derived.Test.YteehjkfmlcfffaaGreatDoorTie
import Derived.Test.YteehjkfmlcfffaaGreatDoorInbM
import Derived.Test.YteehjkfmlcfffaaGreatDoorLaidU
import Derived.Test.YteehjkfmlcfffaaGreatDoorOpenA
import Derived.Test.YteehjkfmlcfffaaGreatDoorLaid
import Derived.Carry
import Derived.ChangeMaps
namespace Go.Proofs.YteehjkfmlcfffaaGreatDoor
open Go.ChangeShapes Go.WideShapes Go.ChangeAt Go.RowKit

set_option maxRecDepth 100000 in
theorem inboxMemory_contract (H : Type) (enc : TypeId × Value → H) (W : World) (base : Nat) (args : Array Value) (ds gs : List (DataW H)) (before : List MemPlace)
    (hval : ∀ (j : Nat) t v, Tryz.f6.params[j]? = some t → args[j]? = some v → Value.okWide Tryz.prog W .any base t v)
    (hW : DataW.Whole enc Tryz.prog Tryz.f6.params.toList Rows.inboxMemorySpec.vars false W args.toList ds gs before) (hk : Rows.uptoSmall H (ds ++ gs) = true) (hL : laidMetH Tryz.prog Rows.inboxMemoryUptoRow.laid W) (hsh : W.ShapedOpen Tryz.prog) :
    Calls Tryz.prog 6 args W fun e W' => ∃ v, e = .returned v ∧ Rows.inboxMemorySpec.post enc Tryz.prog Tryz.f6 false true false false W args v W' := by
  have hW' := hW
  obtain ⟨p, q, hA0, hV, rfl, hfz, hnd⟩ := hW
  have hA : DataW.TrodAll enc Tryz.prog W 0 (fun _ => true) true Tryz.f6.params.toList args.toList ds p := hA0
  rw [Tryz.params6] at hA hval
  obtain ⟨v0, v1, d0, d1, p0, p1, rfl, rfl, rfl, h0, h1⟩ := trodAll_two hA
  obtain ⟨rfl, rfl⟩ := trodVars_none hV
  obtain ⟨A0, n0, c0, bs0, rfl, hl0, hx0, hc0, hbk0, hnil0, hspot0⟩ := open_bytes (hval 0 22 v0 rfl rfl) h0
  have h1k := h1
  obtain ⟨s1, rfl, rfl, rfl, _⟩ := Go.ChangeMaps.open_string Tryz.underlying9 (hval 1 9 v1 rfl rfl) h1
  subst hl0
  clear hA0
  simp only [List.append_nil] at hW' hk
  have hlt : ∀ x ∈ p0, x.block < W.heap.size := fun x hx => by simpa using hW'.lt x (by simpa using hx)
  have hb : bs0.length ≤ 1048576 ∧ s1.size ≤ 1048576 := by
    have h : Rows.uptoBulkAll [d0, DataW.lit (.string s1.data.toList)] ≤ 1048576 := of_decide_eq_true hk
    simp only [Rows.uptoBulkAll, Rows.uptoBulk, Array.length_toList] at h
    have : s1.size = s1.data.size := rfl
    omega
  obtain ⟨hb0, hb1⟩ := hb
  have ht : LibOk W := lib_of hL hsh (by kernel_rfl)
  have he : ErrOk W := err_of hL (by kernel_rfl) (by kernel_rfl)
  refine (inboxMemory_any A0 bs0.length c0 bs0 s1 W (by omega) rfl hc0 hx0 ht he).mono fun e W' ⟨he, hw⟩ => ?_
  subst he
  exact ⟨_, rfl, post_of_below (pa := p0) (pv := []) hW' (fun _ _ _ => trodAll_mk1 (shut_bool Tryz.underlying4 true))
    (fun sp hsp => by
      have k0 := again (by kernel_rfl) (of_decide_eq_true (by kernel_rfl)) h0 hw (fun x hx => hlt x (by simp [hx])) sp (fun x hx => hsp x (by simp [hx]))
      have k1 := again (by kernel_rfl) (of_decide_eq_true (by kernel_rfl)) h1k hw (fun x hx => by cases hx) sp (fun x hx => by cases hx)
      have := trodAll_mk2 k0 k1
      simp only [List.append_nil] at this
      exact this) (fun _ _ => rfl) (by simp)
    hw (ok_one (by kernel_rfl) rfl (okWide_bool_mk Tryz.underlying4 true))⟩

theorem inboxMemory_met (os : Os) : laidMet Tryz.prog Rows.inboxMemoryUptoRow.laid ((World.laidAll Tryz.prog os Rows.inboxMemoryUptoRow.laid).forCall (fun _ _ => 0) ⟨#[], #[.slice none 0 0, .string ⟨#[]⟩], []⟩).memory :=
  laidMet_laidAll _ (by kernel_rfl) (by kernel_rfl)
theorem inboxMemory_reads (os : Os) {H : Type} (enc : TypeId × Value → H) : ∃ places, DataW.whole enc Tryz.prog ((World.laidAll Tryz.prog os Rows.inboxMemoryUptoRow.laid).forCall (fun _ _ => 0) ⟨#[], #[.slice none 0 0, .string ⟨#[]⟩], []⟩).memory Tryz.f6.params.toList Rows.inboxMemorySpec.vars false #[Value.slice none 0 0, .string ⟨#[]⟩].toList 8 = some ([.nil, .lit (.string [])], [], places) :=
  ⟨[], by kernel_rfl⟩

set_option maxRecDepth 100000 in
theorem inboxMemory_lifted (os : Os) (started : os.Started) (H : Type) (enc : TypeId × Value → H) (F : Stop.Interp) :
    ReturnsInHanded {} Tryz.checked os 6 .any ((Rows.OpenSpec.upto Rows.inboxMemorySpec).preRow enc Tryz.prog Tryz.f6 Rows.inboxMemoryUptoRow.domain false Rows.inboxMemoryUptoRow.laid) (((Rows.OpenSpec.upto Rows.inboxMemorySpec).at F).post enc Tryz.prog Tryz.f6 false true false false) := by
  obtain ⟨places, hx⟩ := inboxMemory_reads os enc
  refine returnsInHanded_of_row (C := Tryz.checked) (s := Rows.OpenSpec.upto Rows.inboxMemorySpec) own_ started (by kernel_rfl) Tryz.func6
    (witness_row_at (enc := enc) (C := Tryz.checked) false (World.laidAll Tryz.prog os Rows.inboxMemoryUptoRow.laid) #[.slice none 0 0, .string ⟨#[]⟩] (World.laidAll_os _ _ _) (by kernel_rfl) (by kernel_rfl) (by kernel_rfl)
      (OpenSpec.preRow_of_cond 8 hx (by kernel_rfl) (fun k hk => by cases hk; kernel_rfl) (by kernel_rfl) (inboxMemory_met os))) ?_
  intro W base args ds gs before hval hW _ hcond _ hL hsh _
  exact inboxMemory_contract H enc W base args ds gs before hval hW (hcond _ rfl) hL hsh

theorem inboxMemory_inPlace : (Rows.inboxMemoryUptoRow.inPlace == Tryz.pinned.checked.prog.inPlace 6) = true := by kernel_rfl
theorem inboxMemory_follows : (Rows.inboxMemoryUptoRow.unfollowed == Tryz.pinned.checked.prog.unfollowed 6) = true := by kernel_rfl
theorem inboxMemory_rings : (Rows.inboxMemoryUptoRow.recurses == Tryz.pinned.checked.prog.recurses 6) = true := by kernel_rfl
theorem inboxMemory_names : (Rows.inboxMemoryUptoRow.named == Tryz.pinned.checked.prog.varsNamed 6) = true := by kernel_rfl
theorem inboxMemory_closed : joinedFacts Tryz.pinned.checked.prog 6 Tryz.f6 (Rows.OpenSpec.upto Rows.inboxMemorySpec).bare Rows.inboxMemoryUptoRow = true := by 
  unfold joinedFacts
  rw [inboxMemory_inPlace, inboxMemory_follows, inboxMemory_rings, inboxMemory_names]
  kernel_rfl
theorem inboxMemory_inst : Tryz.f6.isInstance Tryz.pinned.checked.prog Rows.inboxMemoryUptoRow.origin Rows.inboxMemoryUptoRow.targs := of_decide_eq_true (by kernel_rfl)
theorem inboxMemory_wrap : Tryz.f6.isWrapper Tryz.pinned.checked.prog Rows.inboxMemoryUptoRow.wrapper Rows.inboxMemoryUptoRow.mainSum := by unfold Func.isWrapper; first | (rw [if_pos (by decide +kernel)]; kernel_rfl) | (rw [if_neg (by decide +kernel)]; exact ⟨rfl, rfl⟩)
theorem inboxMemory_name : Tryz.pinned.checked.prog.funcNamed Rows.inboxMemoryUptoRow.func = some 6 := by kernel_rfl
theorem inboxMemory_said : Rows.InboxMemoryUptoSaid :=
  OpenClaim.holds_of_cond 6 Tryz.f6 rfl rfl rfl rfl rfl rfl rfl ⟨rfl, rfl, rfl, rfl, rfl⟩ rfl rfl rfl rfl rfl inboxMemory_name Tryz.func6 inboxMemory_closed inboxMemory_inst inboxMemory_wrap
    (fun os started H enc _ F => by rw [OpenClaim.pre_eq_preRow]; exact inboxMemory_lifted os started H enc F)
end Go.Proofs.YteehjkfmlcfffaaGreatDoor
