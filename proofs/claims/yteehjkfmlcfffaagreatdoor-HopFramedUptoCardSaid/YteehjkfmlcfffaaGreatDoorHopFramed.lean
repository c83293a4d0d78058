/- HopFramed holds wherever what it reads is of bulk at most 1,048,576: a response's bytes are read as one message, whatever stands behind them. Conditions: the library's table of powers of ten and its two tables of UTF-8, internal/bytealg.MaxLen, and the variables strconv.ErrSyntax and strconv.ErrRange read as they were laid. -/
import Derived.Test.YteehjkfmlcfffaaGreatDoorHopFramedS
namespace Go.Proofs.YteehjkfmlcfffaaGreatDoor
open Go.RowKit
theorem hopFramed_plain (f : FuncId) (fn : Func) (hf : Tryz.pinned.checked.prog.funcNamed "conduit/conduitlaw22.HopFramed" = some f) (hfn : Tryz.pinned.checked.prog.funcs[f]? = some fn) :
    true = Tryz.pinned.checked.prog.looks [] ∧ ∀ (j : Nat) t, fn.params[j]? = some t → Tryz.pinned.checked.prog.wantsStandIn t = false := by
  obtain rfl : f = 7 := Option.some.inj ((show Tryz.prog.funcNamed "conduit/conduitlaw22.HopFramed" = some 7 by kernel_rfl).symm.trans hf) |>.symm
  obtain rfl : fn = Tryz.f7 := (Option.some.inj (Tryz.func7.symm.trans hfn)).symm
  refine ⟨by kernel_rfl, fun j t ht => ?_⟩
  rw [Tryz.params7] at ht
  have hm := Array.mem_of_getElem? ht
  simp only [List.mem_toArray, List.mem_cons, List.mem_nil_iff, or_false] at hm
  rcases hm with rfl | rfl | rfl | rfl | rfl
  · exact (show Tryz.prog.wantsStandIn 27 = false by kernel_rfl)
  · exact (show Tryz.prog.wantsStandIn 22 = false by kernel_rfl)
  · exact (show Tryz.prog.wantsStandIn 9 = false by kernel_rfl)
  · exact (show Tryz.prog.wantsStandIn 4 = false by kernel_rfl)
  · exact (show Tryz.prog.wantsStandIn 22 = false by kernel_rfl)

theorem hopFramed_goes : false = Rows.hopFramedUptoRow.goesBy Tryz.pinned.checked.prog := by kernel_rfl
theorem hopFramed_holds : Rows.HopFramedUptoCardSaid :=
  Claim7.holds_tied_plain_at .later [] _ _ _ _ hopFramed_said (fun _ h => by cases h) (by kernel_rfl) (fun _ h => by cases h) hopFramedUpto_row_tie rfl ⟨rfl, rfl⟩ (by kernel_rfl) rfl hopFramed_plain hopFramed_goes
end Go.Proofs.YteehjkfmlcfffaaGreatDoor
