/- CacheNewest holds wherever what it reads is of at most 1,048,576 bytes and numbers: of two entries that both answer a request the one that came later is found. Conditions: the tables of the library that the row lists. -/
import Derived.Test.YthjeglnkgdpijaaGreatDoorCacheNewestS
namespace Go.Proofs.YthjeglnkgdpijaaGreatDoor
open Go.RowKit
theorem cacheNewest_plain (f:FuncId) (fn:Func) (hf:Tryz.pinned.checked.prog.funcNamed "conduit/conduitlaw20.CacheNewest"=some f) (hfn:Tryz.pinned.checked.prog.funcs[f]?=some fn) :
  true=Tryz.pinned.checked.prog.looks []∧∀ (j:Nat) t,fn.params[j]?=some t→Tryz.pinned.checked.prog.wantsStandIn t=false:=by
 obtain rfl:f=5:=Option.some.inj ((show Tryz.prog.funcNamed "conduit/conduitlaw20.CacheNewest"=some 5 by kernel_rfl).symm.trans hf) |>.symm
 obtain rfl:fn=Tryz.f5:=(Option.some.inj (Tryz.func5.symm.trans hfn)).symm
 refine⟨by kernel_rfl,fun j t ht=>?_⟩
 rw[Tryz.params5]at ht
 have hm:=Array.mem_of_getElem? ht
 simp only[List.mem_toArray,List.mem_cons,List.mem_nil_iff,or_false]at hm
 rcases hm with rfl | rfl | rfl | rfl | rfl
 ·exact (show Tryz.prog.wantsStandIn 9=false by kernel_rfl)
 ·exact (show Tryz.prog.wantsStandIn 3=false by kernel_rfl)
 ·exact (show Tryz.prog.wantsStandIn 3=false by kernel_rfl)
 ·exact (show Tryz.prog.wantsStandIn 39=false by kernel_rfl)
 ·exact (show Tryz.prog.wantsStandIn 3=false by kernel_rfl)
theorem cacheNewest_goes:false=Rows.cacheNewestUptoRow.goesBy Tryz.pinned.checked.prog:=by kernel_rfl
theorem cacheNewest_holds:Rows.CacheNewestUptoCardSaid :=
 Claim7.holds_tied_plain_at .later [] _ _ _ _ cacheNewest_said (fun _ h=>by cases h) (by kernel_rfl) (fun _ h=>by cases h) cacheNewestUpto_row_tie rfl ⟨rfl,rfl⟩ (by kernel_rfl) rfl cacheNewest_plain cacheNewest_goes
end Go.Proofs.YthjeglnkgdpijaaGreatDoor
