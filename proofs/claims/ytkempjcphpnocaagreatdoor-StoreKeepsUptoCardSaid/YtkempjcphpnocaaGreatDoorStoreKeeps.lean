/- StoreKeeps holds wherever what it reads is of at most 1,048,576 bytes and numbers: on a disk without faults, with room, the store holds just what was put last and not dropped, and so does one that is opened anew. Conditions: the tables of the library that the row lists. -/
import Derived.Test.YtkempjcphpnocaaGreatDoorStoreKeepsS
namespace Go.Proofs.YtkempjcphpnocaaGreatDoor
open Go.RowKit
theorem storeKeeps_plain (f:FuncId) (fn:Func) (hf:Tryz.pinned.checked.prog.funcNamed "conduit/conduitlaw13.StoreKeeps" = some f) (hfn:Tryz.pinned.checked.prog.funcs[f]? = some fn) :
    true = Tryz.pinned.checked.prog.looks [] ∧ ∀ (j:Nat) t,fn.params[j]? = some t → Tryz.pinned.checked.prog.wantsStandIn t = false:=by
  obtain rfl:f = 5:=Option.some.inj ((show Tryz.prog.funcNamed "conduit/conduitlaw13.StoreKeeps" = some 5 by kernel_rfl).symm.trans hf) |>.symm
  obtain rfl:fn = Tryz.f5:=(Option.some.inj (Tryz.func5.symm.trans hfn)).symm
  refine ⟨by kernel_rfl,fun j t ht=>?_⟩
  rw [Tryz.params5] at ht
  have hm:=Array.mem_of_getElem? ht
  simp only [List.mem_toArray,List.mem_cons,List.mem_nil_iff,or_false] at hm
  rcases hm with rfl | rfl
  · exact (show Tryz.prog.wantsStandIn 3 = false by kernel_rfl)
  · exact (show Tryz.prog.wantsStandIn 22 = false by kernel_rfl)
theorem storeKeeps_goes:false = Rows.storeKeepsUptoRow.goesBy Tryz.pinned.checked.prog:=by kernel_rfl
theorem storeKeeps_holds:Rows.StoreKeepsUptoCardSaid :=
  Claim7.holds_tied_plain_at .later [] _ _ _ _ storeKeeps_said (fun _ h=>by cases h) (by kernel_rfl) (fun _ h=>by cases h) storeKeepsUpto_row_tie rfl ⟨rfl,rfl⟩ (by kernel_rfl) rfl storeKeeps_plain storeKeeps_goes
end Go.Proofs.YtkempjcphpnocaaGreatDoor
