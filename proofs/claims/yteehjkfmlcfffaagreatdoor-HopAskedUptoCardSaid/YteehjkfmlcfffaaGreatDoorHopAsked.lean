/- HopAsked holds wherever what it reads is of bulk at most 1,048,576: a request's bytes are read as one message with its body, whatever stands behind them. Conditions: the library's table of powers of ten and its two tables of UTF-8, internal/bytealg.MaxLen, and the variables strconv.ErrSyntax and strconv.ErrRange read as they were laid. -/
import Derived.Test.YteehjkfmlcfffaaGreatDoorHopAskedS
namespace Go.Proofs.YteehjkfmlcfffaaGreatDoor
open Go.RowKit
theorem hopAsked_plain (f : FuncId) (fn : Func) (hf : Tryz.pinned.checked.prog.funcNamed "conduit/conduitlaw22.HopAsked" = some f) (hfn : Tryz.pinned.checked.prog.funcs[f]? = some fn) :
    true = Tryz.pinned.checked.prog.looks [] ∧ ∀ (j : Nat) t, fn.params[j]? = some t → Tryz.pinned.checked.prog.wantsStandIn t = false := by
  obtain rfl : f = 8 := Option.some.inj ((show Tryz.prog.funcNamed "conduit/conduitlaw22.HopAsked" = some 8 by kernel_rfl).symm.trans hf) |>.symm
  obtain rfl : fn = Tryz.f8 := (Option.some.inj (Tryz.func8.symm.trans hfn)).symm
  refine ⟨by kernel_rfl, fun j t ht => ?_⟩
  rw [Tryz.params8] at ht
  have hm := Array.mem_of_getElem? ht
  simp only [List.mem_toArray, List.mem_cons, List.mem_nil_iff, or_false] at hm
  rcases hm with rfl | rfl | rfl | rfl | rfl
  · exact (show Tryz.prog.wantsStandIn 25 = false by kernel_rfl)
  · exact (show Tryz.prog.wantsStandIn 66 = false by kernel_rfl)
  · exact (show Tryz.prog.wantsStandIn 9 = false by kernel_rfl)
  · exact (show Tryz.prog.wantsStandIn 22 = false by kernel_rfl)
  · exact (show Tryz.prog.wantsStandIn 22 = false by kernel_rfl)

theorem hopAsked_goes : false = Rows.hopAskedUptoRow.goesBy Tryz.pinned.checked.prog := by kernel_rfl
theorem hopAsked_holds : Rows.HopAskedUptoCardSaid :=
  Claim7.holds_tied_plain_at .later [] _ _ _ _ hopAsked_said (fun _ h => by cases h) (by kernel_rfl) (fun _ h => by cases h) hopAskedUpto_row_tie rfl ⟨rfl, rfl⟩ (by kernel_rfl) rfl hopAsked_plain hopAsked_goes
end Go.Proofs.YteehjkfmlcfffaaGreatDoor
