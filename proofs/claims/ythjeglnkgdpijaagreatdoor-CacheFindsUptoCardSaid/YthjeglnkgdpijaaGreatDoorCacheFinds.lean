/- The law CacheFinds holds: whatever the disk does, what the cache finds is the entry that was saved last under its Id behind the last Purge of the key, and it matches what was asked. Conditions: those of the row (arguments of a bulk of at most 2^20 bytes; the tables of the library laid). -/
import Derived.Test.YthjeglnkgdpijaaGreatDoorCacheFindsS
namespace Go.Proofs.YthjeglnkgdpijaaGreatDoor
open Go.RowKit
theorem cacheFinds_plain (f:FuncId) (fn:Func) (hf:Tryz.pinned.checked.prog.funcNamed "conduit/conduitlaw20.CacheFinds"=some f) (hfn:Tryz.pinned.checked.prog.funcs[f]?=some fn) :
  true=Tryz.pinned.checked.prog.looks []∧∀ (j:Nat) t,fn.params[j]?=some t→Tryz.pinned.checked.prog.wantsStandIn t=false:=by
 obtain rfl:f=3:=Option.some.inj ((show Tryz.prog.funcNamed "conduit/conduitlaw20.CacheFinds"=some 3 by kernel_rfl).symm.trans hf) |>.symm
 obtain rfl:fn=Tryz.f3:=(Option.some.inj (Tryz.func3.symm.trans hfn)).symm
 refine⟨by kernel_rfl,fun j t ht=>?_⟩
 rw[Tryz.params3]at ht
 have hm:=Array.mem_of_getElem? ht
 simp only[List.mem_toArray,List.mem_cons,List.mem_nil_iff,or_false]at hm
 rcases hm with rfl | rfl | rfl | rfl
 ·exact (show Tryz.prog.wantsStandIn 25=false by kernel_rfl)
 ·exact (show Tryz.prog.wantsStandIn 26=false by kernel_rfl)
 ·exact (show Tryz.prog.wantsStandIn 9=false by kernel_rfl)
 ·exact (show Tryz.prog.wantsStandIn 27=false by kernel_rfl)
theorem vI:false=Rows.cacheFindsUptoRow.goesBy Tryz.pinned.checked.prog:=by kernel_rfl
theorem cacheFinds_holds:Rows.CacheFindsUptoCardSaid :=
 Claim7.holds_tied_plain_at .later [] _ _ _ _ vF (fun _ h=>by cases h) (by kernel_rfl) (fun _ h=>by cases h) cacheFindsUpto_row_tie rfl ⟨rfl,rfl⟩ (by kernel_rfl) rfl cacheFinds_plain vI
end Go.Proofs.YthjeglnkgdpijaaGreatDoor
