/- StoreRefused holds wherever what it reads is of at most 1,048,576 bytes and numbers: a Put that is refused for want of room leaves every entry that was there as it was. Conditions: the tables of the library that the row lists. -/
import Derived.Test.YtkempjcphpnocaaGreatDoorStoreRefusedS
namespace Go.Proofs.YtkempjcphpnocaaGreatDoor
open Go.RowKit
theorem storeRefused_plain (f : FuncId) (fn : Func) (hf : Tryz.pinned.checked.prog.funcNamed "conduit/conduitlaw13.StoreRefused" = some f) (hfn : Tryz.pinned.checked.prog.funcs[f]? = some fn) :
    true = Tryz.pinned.checked.prog.looks [] ∧ ∀ (j : Nat) t, fn.params[j]? = some t → Tryz.pinned.checked.prog.wantsStandIn t = false := by
  obtain rfl : f = 3 := Option.some.inj ((show Tryz.prog.funcNamed "conduit/conduitlaw13.StoreRefused" = some 3 by kernel_rfl).symm.trans hf) |>.symm
  obtain rfl : fn = Tryz.f3 := (Option.some.inj (Tryz.func3.symm.trans hfn)).symm
  refine ⟨by kernel_rfl, fun j t ht => ?_⟩
  rw [Tryz.params3] at ht
  have hm := Array.mem_of_getElem? ht
  simp only [List.mem_toArray, List.mem_cons, List.mem_nil_iff, or_false] at hm
  rcases hm with rfl | rfl | rfl | rfl
  · exact (show Tryz.prog.wantsStandIn 3 = false by kernel_rfl)
  · exact (show Tryz.prog.wantsStandIn 3 = false by kernel_rfl)
  · exact (show Tryz.prog.wantsStandIn 22 = false by kernel_rfl)
  · exact (show Tryz.prog.wantsStandIn 28 = false by kernel_rfl)

theorem storeRefused_goes : false = Rows.storeRefusedUptoRow.goesBy Tryz.pinned.checked.prog := by kernel_rfl
theorem storeRefused_holds : Rows.StoreRefusedUptoCardSaid :=
  Claim7.holds_tied_plain_at .later [] _ _ _ _ storeRefused_said (fun _ h => by cases h) (by kernel_rfl) (fun _ h => by cases h) storeRefusedUpto_row_tie rfl ⟨rfl, rfl⟩ (by kernel_rfl) rfl storeRefused_plain storeRefused_goes
end Go.Proofs.YtkempjcphpnocaaGreatDoor
