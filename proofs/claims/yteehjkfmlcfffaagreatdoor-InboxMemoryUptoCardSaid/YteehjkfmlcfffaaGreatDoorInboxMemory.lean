/- InboxMemory holds wherever what it reads is of at most 1,048,576 bytes: what is answered is new memory, each time. Conditions: the bound of the row and its list of tables. -/
import Derived.Test.YteehjkfmlcfffaaGreatDoorInboxMemoryS
namespace Go.Proofs.YteehjkfmlcfffaaGreatDoor
open Go.RowKit
theorem inboxMemory_plain (f : FuncId) (fn : Func) (hf : Tryz.pinned.checked.prog.funcNamed "conduit/conduitlaw08.InboxMemory" = some f) (hfn : Tryz.pinned.checked.prog.funcs[f]? = some fn) :
    true = Tryz.pinned.checked.prog.looks [] ∧ ∀ (j : Nat) t, fn.params[j]? = some t → Tryz.pinned.checked.prog.wantsStandIn t = false := by
  obtain rfl : f = 6 := Option.some.inj ((show Tryz.prog.funcNamed "conduit/conduitlaw08.InboxMemory" = some 6 by kernel_rfl).symm.trans hf) |>.symm
  obtain rfl : fn = Tryz.f6 := (Option.some.inj (Tryz.func6.symm.trans hfn)).symm
  refine ⟨by kernel_rfl, fun j t ht => ?_⟩
  rw [Tryz.params6] at ht
  have hm := Array.mem_of_getElem? ht
  simp only [List.mem_toArray, List.mem_cons, List.mem_nil_iff, or_false] at hm
  rcases hm with rfl | rfl
  · exact (show Tryz.prog.wantsStandIn 22 = false by kernel_rfl)
  · exact (show Tryz.prog.wantsStandIn 9 = false by kernel_rfl)

theorem inboxMemory_goes : false = Rows.inboxMemoryUptoRow.goesBy Tryz.pinned.checked.prog := by kernel_rfl
theorem inboxMemory_holds : Rows.InboxMemoryUptoCardSaid :=
  Claim7.holds_tied_plain_at .later [] _ _ _ _ inboxMemory_said (fun _ h => by cases h) (by kernel_rfl) (fun _ h => by cases h) inboxMemoryUpto_row_tie rfl ⟨rfl, rfl⟩ (by kernel_rfl) rfl inboxMemory_plain inboxMemory_goes
end Go.Proofs.YteehjkfmlcfffaaGreatDoor
