/- InboxResponses holds wherever what it reads is of at most 1,048,576 bytes: every Response answers the message, the length or the error of the document, and the bytes are left as they were. Conditions: the bound of the row and its list of tables. -/
import Derived.Test.YteehjkfmlcfffaaGreatDoorInboxResponsesS
namespace Go.Proofs.YteehjkfmlcfffaaGreatDoor
open Go.RowKit
theorem inboxResponses_plain (f : FuncId) (fn : Func) (hf : Tryz.pinned.checked.prog.funcNamed "conduit/conduitlaw08.InboxResponses" = some f) (hfn : Tryz.pinned.checked.prog.funcs[f]? = some fn) :
    true = Tryz.pinned.checked.prog.looks [] ∧ ∀ (j : Nat) t, fn.params[j]? = some t → Tryz.pinned.checked.prog.wantsStandIn t = false := by
  obtain rfl : f = 3 := Option.some.inj ((show Tryz.prog.funcNamed "conduit/conduitlaw08.InboxResponses" = some 3 by kernel_rfl).symm.trans hf) |>.symm
  obtain rfl : fn = Tryz.f3 := (Option.some.inj (Tryz.func3.symm.trans hfn)).symm
  refine ⟨by kernel_rfl, fun j t ht => ?_⟩
  rw [Tryz.params3] at ht
  have hm := Array.mem_of_getElem? ht
  simp only [List.mem_toArray, List.mem_cons, List.mem_nil_iff, or_false] at hm
  rcases hm with rfl | rfl | rfl
  · exact (show Tryz.prog.wantsStandIn 22 = false by kernel_rfl)
  · exact (show Tryz.prog.wantsStandIn 9 = false by kernel_rfl)
  · exact (show Tryz.prog.wantsStandIn 4 = false by kernel_rfl)

theorem inboxResponses_goes : false = Rows.inboxResponsesUptoRow.goesBy Tryz.pinned.checked.prog := by kernel_rfl
theorem inboxResponses_holds : Rows.InboxResponsesUptoCardSaid :=
  Claim7.holds_tied_plain_at .later [] _ _ _ _ inboxResponses_said (fun _ h => by cases h) (by kernel_rfl) (fun _ h => by cases h) inboxResponsesUpto_row_tie rfl ⟨rfl, rfl⟩ (by kernel_rfl) rfl inboxResponses_plain inboxResponses_goes
end Go.Proofs.YteehjkfmlcfffaaGreatDoor
