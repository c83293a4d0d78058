/- InboxPieces holds wherever what it reads is of at most 1,048,576 bytes and numbers: however the bytes are cut into pieces, a box of requests tells the same messages, and the same error at the end. Conditions: the library's two tables of UTF-8, internal/bytealg.MaxLen, and the variables strconv.ErrSyntax and strconv.ErrRange read as they were laid. -/
import Derived.Test.YteehjkfmlcfffaaGreatDoorInboxPiecesS
namespace Go.Proofs.YteehjkfmlcfffaaGreatDoor
open Go.RowKit
theorem inboxPieces_plain (f : FuncId) (fn : Func) (hf : Tryz.pinned.checked.prog.funcNamed "conduit/conduitlaw08.InboxPieces" = some f) (hfn : Tryz.pinned.checked.prog.funcs[f]? = some fn) :
    true = Tryz.pinned.checked.prog.looks [] ∧ ∀ (j : Nat) t, fn.params[j]? = some t → Tryz.pinned.checked.prog.wantsStandIn t = false := by
  obtain rfl : f = 4 := Option.some.inj ((show Tryz.prog.funcNamed "conduit/conduitlaw08.InboxPieces" = some 4 by kernel_rfl).symm.trans hf) |>.symm
  obtain rfl : fn = Tryz.f4 := (Option.some.inj (Tryz.func4.symm.trans hfn)).symm
  refine ⟨by kernel_rfl, fun j t ht => ?_⟩
  rw [Tryz.params4] at ht
  have hm := Array.mem_of_getElem? ht
  simp only [List.mem_toArray, List.mem_cons, List.mem_nil_iff, or_false] at hm
  rcases hm with rfl | rfl
  · exact (show Tryz.prog.wantsStandIn 22 = false by kernel_rfl)
  · exact (show Tryz.prog.wantsStandIn 37 = false by kernel_rfl)

theorem inboxPieces_goes : false = Rows.inboxPiecesUptoRow.goesBy Tryz.pinned.checked.prog := by kernel_rfl
theorem inboxPieces_holds : Rows.InboxPiecesUptoCardSaid :=
  Claim7.holds_tied_plain_at .later [] _ _ _ _ inboxPieces_said (fun _ h => by cases h) (by kernel_rfl) (fun _ h => by cases h) inboxPiecesUpto_row_tie rfl ⟨rfl, rfl⟩ (by kernel_rfl) rfl inboxPieces_plain inboxPieces_goes
end Go.Proofs.YteehjkfmlcfffaaGreatDoor
