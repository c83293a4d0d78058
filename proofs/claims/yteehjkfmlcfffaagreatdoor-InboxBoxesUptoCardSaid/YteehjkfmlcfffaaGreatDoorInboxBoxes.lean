/- InboxBoxes holds wherever what it reads is of at most 1,048,576 bytes and pieces: a box of something else gives every answer of every script of pieces. Conditions: the library's two tables of UTF-8, internal/bytealg.MaxLen, and the variables strconv.ErrSyntax and strconv.ErrRange read as they were laid. -/
import Derived.Test.YteehjkfmlcfffaaGreatDoorInboxBoxesS
namespace Go.Proofs.YteehjkfmlcfffaaGreatDoor
open Go.RowKit
theorem inboxBoxes_plain (f : FuncId) (fn : Func) (hf : Tryz.pinned.checked.prog.funcNamed "conduit/conduitlaw08.InboxBoxes" = some f) (hfn : Tryz.pinned.checked.prog.funcs[f]? = some fn) :
    true = Tryz.pinned.checked.prog.looks [] ∧ ∀ (j : Nat) t, fn.params[j]? = some t → Tryz.pinned.checked.prog.wantsStandIn t = false := by
  obtain rfl : f = 5 := Option.some.inj ((show Tryz.prog.funcNamed "conduit/conduitlaw08.InboxBoxes" = some 5 by kernel_rfl).symm.trans hf) |>.symm
  obtain rfl : fn = Tryz.f5 := (Option.some.inj (Tryz.func5.symm.trans hfn)).symm
  refine ⟨by kernel_rfl, fun j t ht => ?_⟩
  rw [Tryz.params5] at ht
  have hm := Array.mem_of_getElem? ht
  simp only [List.mem_toArray, List.mem_cons, List.mem_nil_iff, or_false] at hm
  subst hm
  · exact (show Tryz.prog.wantsStandIn 42 = false by kernel_rfl)

theorem inboxBoxes_goes : false = Rows.inboxBoxesUptoRow.goesBy Tryz.pinned.checked.prog := by kernel_rfl
theorem inboxBoxes_holds : Rows.InboxBoxesUptoCardSaid :=
  Claim7.holds_tied_plain_at .later [] _ _ _ _ inboxBoxes_said (fun _ h => by cases h) (by kernel_rfl) (fun _ h => by cases h) inboxBoxesUpto_row_tie rfl ⟨rfl, rfl⟩ (by kernel_rfl) rfl inboxBoxes_plain inboxBoxes_goes
end Go.Proofs.YteehjkfmlcfffaaGreatDoor
