/- CacheTiers holds wherever what it reads is of at most 1,048,576 bytes and numbers: the room in memory makes no difference to what is found. Conditions: the tables of the library that the row lists. -/
import Derived.Test.YthjeglnkgdpijaaGreatDoorCacheTiersS
namespace Go.Proofs.YthjeglnkgdpijaaGreatDoor
open Go.RowKit
theorem cacheTiers_plain (f:FuncId) (fn:Func) (hf:Tryz.pinned.checked.prog.funcNamed "conduit/conduitlaw20.CacheTiers"=some f) (hfn:Tryz.pinned.checked.prog.funcs[f]?=some fn) :
  true=Tryz.pinned.checked.prog.looks []∧∀ (j:Nat) t,fn.params[j]?=some t→Tryz.pinned.checked.prog.wantsStandIn t=false:=by
 obtain rfl:f=4:=Option.some.inj ((show Tryz.prog.funcNamed "conduit/conduitlaw20.CacheTiers"=some 4 by kernel_rfl).symm.trans hf) |>.symm
 obtain rfl:fn=Tryz.f4:=(Option.some.inj (Tryz.func4.symm.trans hfn)).symm
 refine⟨by kernel_rfl,fun j t ht=>?_⟩
 rw[Tryz.params4]at ht
 have hm:=Array.mem_of_getElem? ht
 simp only[List.mem_toArray,List.mem_cons,List.mem_nil_iff,or_false]at hm
 rcases hm with rfl | rfl | rfl
 ·exact (show Tryz.prog.wantsStandIn 26=false by kernel_rfl)
 ·exact (show Tryz.prog.wantsStandIn 3=false by kernel_rfl)
 ·exact (show Tryz.prog.wantsStandIn 3=false by kernel_rfl)
theorem uM:false=Rows.cacheTiersUptoRow.goesBy Tryz.pinned.checked.prog:=by kernel_rfl
theorem cacheTiers_holds:Rows.CacheTiersUptoCardSaid :=
 Claim7.holds_tied_plain_at .later [] _ _ _ _ uI (fun _ h=>by cases h) (by kernel_rfl) (fun _ h=>by cases h) cacheTiersUpto_row_tie rfl ⟨rfl,rfl⟩ (by kernel_rfl) rfl cacheTiers_plain uM
end Go.Proofs.YthjeglnkgdpijaaGreatDoor
