/- The comparisons of what is alike, answered with true. Conditions: lists of at most 2^40 elements. -/
import Derived.Test.YtecopkcogobolaaGreatDoorReq
namespace Go.Proofs.YtecopkcogobolaaGreatDoor
open Go.RowKit

theorem sameTB (A B : Option Addr) (n c d : Nat) (xs : List UInt8) (w : World) (hn : n ≤ 1099511627776) (hl : xs.length = n) (hx : Rd w A n 1 (bcells xs)) (hy : Rd w B n 1 (bcells xs)) :
    Calls Tryz.prog 29 #[.slice A n c, .slice B n d] w (RetB w true) := by
  have := sameBytes_any A B n n c d xs xs w hn hn hx hy hl hl
  simpa using this
theorem sameTF (A B : Option Addr) (c d : Nat) (xs : List FD) (w : World) (hn : xs.length ≤ 1099511627776) (hx : Rd w A xs.length 2 (fcells xs)) (hy : Rd w B xs.length 2 (fcells xs)) :
    Calls Tryz.prog 42 #[.slice A xs.length c, .slice B xs.length d] w (RetB w true) := by
  have := sameFields_any A B xs.length xs.length c d xs xs w hn hn hx hy rfl rfl
  simpa using this
theorem sameTQ (m : Int) (s r : ByteArray) (A B : Option Addr) (c d : Nat) (xs : List FD) (w : World) (hn : xs.length ≤ 1099511627776) (hx : Rd w A xs.length 2 (fcells xs)) (hy : Rd w B xs.length 2 (fcells xs)) :
    Calls Tryz.prog 25 #[.agg #[.string s, .string r, .int .i64 m, .slice A xs.length c], .agg #[.string s, .string r, .int .i64 m, .slice B xs.length d]] w (RetB w true) := by
  have := sameRequest_any m m s s r r A B xs.length xs.length c d xs xs w hn hn hx hy rfl rfl
  simpa using this
theorem sameTR (s m : Int) (r : ByteArray) (A B : Option Addr) (c d : Nat) (xs : List FD) (w : World) (hn : xs.length ≤ 1099511627776) (hx : Rd w A xs.length 2 (fcells xs)) (hy : Rd w B xs.length 2 (fcells xs)) :
    Calls Tryz.prog 26 #[.agg #[.int .i64 s, .string r, .int .i64 m, .slice A xs.length c], .agg #[.int .i64 s, .string r, .int .i64 m, .slice B xs.length d]] w (RetB w true) := by
  have := sameResponse_any s m s m r r A B xs.length xs.length c d xs xs w hn hn hx hy rfl rfl
  simpa using this
end Go.Proofs.YtecopkcogobolaaGreatDoor
