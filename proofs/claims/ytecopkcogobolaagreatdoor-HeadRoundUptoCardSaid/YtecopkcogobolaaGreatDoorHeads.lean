/- The walk of the law HeadRequests. Conditions: a row of at most 2^30 bytes; the library's two tables of UTF-8 as its text lays them; internal/bytealg.MaxLen holds some number. -/
import Derived.Test.YtecopkcogobolaaGreatDoorHeadR4
import Derived.Test.YtecopkcogobolaaGreatDoorCopyB
import Derived.Test.YtecopkcogobolaaGreatDoorReq
namespace Go.Proofs.YtecopkcogobolaaGreatDoor
open Go.RowKit

def aliveB : List UInt8 := [71, 69, 84, 32, 104, 116, 116, 112, 58, 47, 47, 97, 47, 32, 72, 84, 84, 80, 47, 49, 46, 49, 13, 10, 72, 111, 115, 116, 58, 32, 97, 13, 10, 13, 10, 120]
def aliveR : P.RQ := ⟨⟨#[71, 69, 84]⟩, ⟨#[104, 116, 116, 112, 58, 47, 47, 97, 47]⟩, 1, [(⟨#[72, 111, 115, 116]⟩, ⟨#[97]⟩)], 35, 0⟩
theorem alive_parse : P.parse [] [72, 111, 115, 116, 58, 32, 97, 13, 10] = ([(⟨#[72, 111, 115, 116]⟩, ⟨#[97]⟩)], 0) := by
  rw [P.parse_step [] (by decide) (show P.from_ P.eol [72, 111, 115, 116, 58, 32, 97, 13, 10] = 13 :: 10 :: [] by decide), if_neg (by decide), if_neg (by decide), P.parse_nil]
  rfl
theorem alive_request : P.request aliveB = aliveR := by
  have h1 : P.hE aliveB (P.skip aliveB) = 0 := by decide +kernel
  have h2 : P.hN aliveB (P.skip aliveB) = 35 := by decide +kernel
  have h3 : P.hLine aliveB (P.skip aliveB) = [71, 69, 84, 32, 104, 116, 116, 112, 58, 47, 47, 97, 47, 32, 72, 84, 84, 80, 47, 49, 46, 49] := by decide +kernel
  have h4 : P.hBlock aliveB (P.skip aliveB) = [72, 111, 115, 116, 58, 32, 97, 13, 10] := by decide +kernel
  unfold P.request
  rw [h1, h2, if_neg (by decide), h3, h4]
  unfold P.reqOf
  rw [alive_parse, if_neg (by decide +kernel), if_neg (by decide +kernel), if_neg (by decide), if_neg (by decide +kernel)]
  rfl

set_option maxRecDepth 100000 in
set_option maxHeartbeats 2000000 in
theorem headAlive_any (w : World) (ht : LibOk w) : Calls Tryz.prog 27 #[] w (RetB w true) := by
  have hb0 := (Below.refl w.heap.size w).alloc (Nat.le_refl _) (.cells #[.int .u8 71, .int .u8 69, .int .u8 84, .int .u8 32, .int .u8 104, .int .u8 116, .int .u8 116, .int .u8 112, .int .u8 58, .int .u8 47, .int .u8 47, .int .u8 97, .int .u8 47, .int .u8 32, .int .u8 72, .int .u8 84, .int .u8 84, .int .u8 80, .int .u8 47, .int .u8 49, .int .u8 46, .int .u8 49, .int .u8 13, .int .u8 10, .int .u8 72, .int .u8 111, .int .u8 115, .int .u8 116, .int .u8 58, .int .u8 32, .int .u8 97, .int .u8 13, .int .u8 10, .int .u8 13, .int .u8 10, .int .u8 120] 5 (36, 37))
  have HB0 := Lib.hid hb0
  have HQ : Hid (Calls Tryz.prog 32 #[.slice (some ⟨w.heap.size, 0, none⟩) 36 36] (w.alloc (.cells #[.int .u8 71, .int .u8 69, .int .u8 84, .int .u8 32, .int .u8 104, .int .u8 116, .int .u8 116, .int .u8 112, .int .u8 58, .int .u8 47, .int .u8 47, .int .u8 97, .int .u8 47, .int .u8 32, .int .u8 72, .int .u8 84, .int .u8 84, .int .u8 80, .int .u8 47, .int .u8 49, .int .u8 46, .int .u8 49, .int .u8 13, .int .u8 10, .int .u8 72, .int .u8 111, .int .u8 115, .int .u8 116, .int .u8 58, .int .u8 32, .int .u8 97, .int .u8 13, .int .u8 10, .int .u8 13, .int .u8 10, .int .u8 120] 5 (36, 37))) (RetReq (w.alloc (.cells #[.int .u8 71, .int .u8 69, .int .u8 84, .int .u8 32, .int .u8 104, .int .u8 116, .int .u8 116, .int .u8 112, .int .u8 58, .int .u8 47, .int .u8 47, .int .u8 97, .int .u8 47, .int .u8 32, .int .u8 72, .int .u8 84, .int .u8 84, .int .u8 80, .int .u8 47, .int .u8 49, .int .u8 46, .int .u8 49, .int .u8 13, .int .u8 10, .int .u8 72, .int .u8 111, .int .u8 115, .int .u8 116, .int .u8 58, .int .u8 32, .int .u8 97, .int .u8 13, .int .u8 10, .int .u8 13, .int .u8 10, .int .u8 120] 5 (36, 37))) aliveR)) := Lib.hid (by
    rw [← alive_request]
    exact request_any (some ⟨w.heap.size, 0, none⟩) 36 36 aliveB _ (by decide) (Nat.le_refl _) (fun h => by cases h) (fun a h => by cases h; exact .inl rfl) (Rd.newRowM w 5 #[.int .u8 71, .int .u8 69, .int .u8 84, .int .u8 32, .int .u8 104, .int .u8 116, .int .u8 116, .int .u8 112, .int .u8 58, .int .u8 47, .int .u8 47, .int .u8 97, .int .u8 47, .int .u8 32, .int .u8 72, .int .u8 84, .int .u8 84, .int .u8 80, .int .u8 47, .int .u8 49, .int .u8 46, .int .u8 49, .int .u8 13, .int .u8 10, .int .u8 72, .int .u8 111, .int .u8 115, .int .u8 116, .int .u8 58, .int .u8 32, .int .u8 97, .int .u8 13, .int .u8 10, .int .u8 13, .int .u8 10, .int .u8 120] (36, 37) 36 1 rfl) (ht.below hb0))
  have hcc := Lib.run_convert_bytes_const (P := Tryz.prog) w 27 5 #[.int .u8 71, .int .u8 69, .int .u8 84, .int .u8 32, .int .u8 104, .int .u8 116, .int .u8 116, .int .u8 112, .int .u8 58, .int .u8 47, .int .u8 47, .int .u8 97, .int .u8 47, .int .u8 32, .int .u8 72, .int .u8 84, .int .u8 84, .int .u8 80, .int .u8 47, .int .u8 49, .int .u8 46, .int .u8 49, .int .u8 13, .int .u8 10, .int .u8 72, .int .u8 111, .int .u8 115, .int .u8 116, .int .u8 58, .int .u8 32, .int .u8 97, .int .u8 13, .int .u8 10, .int .u8 13, .int .u8 10, .int .u8 120] 36 36 Tryz.underlying27 Tryz.underlying5
  go_enter Tryz.func27, Tryz.ntmps27
  go_wp2_with fail
  clear hcc
  generalize w.alloc (.cells #[.int .u8 71, .int .u8 69, .int .u8 84, .int .u8 32, .int .u8 104, .int .u8 116, .int .u8 116, .int .u8 112, .int .u8 58, .int .u8 47, .int .u8 47, .int .u8 97, .int .u8 47, .int .u8 32, .int .u8 72, .int .u8 84, .int .u8 84, .int .u8 80, .int .u8 47, .int .u8 49, .int .u8 46, .int .u8 49, .int .u8 13, .int .u8 10, .int .u8 72, .int .u8 111, .int .u8 115, .int .u8 116, .int .u8 58, .int .u8 32, .int .u8 97, .int .u8 13, .int .u8 10, .int .u8 13, .int .u8 10, .int .u8 120] 5 (36, 37)) = w0 at *
  refine HQ.out.mono ?_
  rintro e w1 ⟨A1, c1, rfl, hr1, hb1⟩
  have HB1 := Lib.hid ((below_then HB0.out.size HB0.out hb1).alloc (below_then HB0.out.size HB0.out hb1).size (.cells #[.string ⟨#[71, 69, 84]⟩, .string ⟨#[104, 116, 116, 112, 58, 47, 47, 97, 47]⟩, .int .i64 1, .slice A1 1 c1] 24))
  have HK1 := Lib.hid (Blk.new w1 #[.string ⟨#[71, 69, 84]⟩, .string ⟨#[104, 116, 116, 112, 58, 47, 47, 97, 47]⟩, .int .i64 1, .slice A1 1 c1] 24)
  clear hr1 hb1 HQ HB0
  have e1 : aliveR.m = ⟨#[71, 69, 84]⟩ := rfl
  have e2 : aliveR.t = ⟨#[104, 116, 116, 112, 58, 47, 47, 97, 47]⟩ := rfl
  have e3 : aliveR.v = 1 := rfl
  have e4 : aliveR.n = 35 := rfl
  have e5 : aliveR.e = 0 := rfl
  have e6 : aliveR.fs.length = 1 := rfl
  rw [e1, e2, e3, e4, e5, e6]
  clear e1 e2 e3 e4 e5 e6
  go_wp2
  go_ret
  exact ⟨rfl, HB1.out⟩

theorem rd_frontH {w : World} {A : Option Addr} {xs ys : List UInt8} (h : Rd w A (xs.length + ys.length) 1 (bcells (xs ++ ys))) : Rd w A xs.length 1 (bcells xs) := by
  have := h.upto (show xs.length ≤ xs.length + ys.length by omega)
  rwa [List.take_left] at this
theorem sameBH (A B : Option Addr) (n c d : Nat) (xs : List UInt8) (w : World) (hn : n ≤ 1099511627776) (hl : xs.length = n) (hx : Rd w A n 1 (bcells xs)) (hy : Rd w B n 1 (bcells xs)) :
    Calls Tryz.prog 29 #[.slice A n c, .slice B n d] w (RetB w true) := by
  have := sameBytes_any A B n n c d xs xs w hn hn hx hy hl hl
  simpa using this
theorem sameQH (m : Int) (s r : ByteArray) (A B : Option Addr) (c d : Nat) (xs : List FD) (w : World) (hn : xs.length ≤ 1099511627776) (hx : Rd w A xs.length 2 (fcells xs)) (hy : Rd w B xs.length 2 (fcells xs)) :
    Calls Tryz.prog 25 #[.agg #[.string s, .string r, .int .i64 m, .slice A xs.length c], .agg #[.string s, .string r, .int .i64 m, .slice B xs.length d]] w (RetB w true) := by
  have := sameRequest_any m m s s r r A B xs.length xs.length c d xs xs w hn hn hx hy rfl rfl
  simpa using this
/-- What a request's head answers: within bounds. -/
theorem request_facts (bs : List UInt8) : (P.request bs).fs.length ≤ 100 ∧ ((P.request bs).e ≠ 0 ∨ (P.request bs).n = 0 → (P.request bs).n = 0 ∧ (P.request bs).fs = []) ∧
    ((P.request bs).e = 0 → (P.request bs).n ≠ 0 → (P.request bs).n ≤ 8192 ∧ (P.request bs).n ≤ bs.length ∧ (P.request bs).m ≠ ⟨#[]⟩ ∧ (P.request bs).t ≠ ⟨#[]⟩ ∧ P.hostsOf (P.request bs).fs ≤ 1 ∧ (P.hostsOf (P.request bs).fs = 1 ∨ (P.request bs).v = 0) ∧ ((P.request bs).v = 0 ∨ (P.request bs).v = 1)) := by
  have hbadF : ∀ e : Int, (P.RQ.bad e).fs.length ≤ 100 ∧ ((P.RQ.bad e).e ≠ 0 ∨ (P.RQ.bad e).n = 0 → (P.RQ.bad e).n = 0 ∧ (P.RQ.bad e).fs = []) ∧ ((P.RQ.bad e).e = 0 → (P.RQ.bad e).n ≠ 0 → (P.RQ.bad e).n ≤ 8192 ∧ (P.RQ.bad e).n ≤ bs.length ∧ (P.RQ.bad e).m ≠ ⟨#[]⟩ ∧ (P.RQ.bad e).t ≠ ⟨#[]⟩ ∧ P.hostsOf (P.RQ.bad e).fs ≤ 1 ∧ (P.hostsOf (P.RQ.bad e).fs = 1 ∨ (P.RQ.bad e).v = 0) ∧ ((P.RQ.bad e).v = 0 ∨ (P.RQ.bad e).v = 1)) := fun e =>
    ⟨Nat.zero_le _, fun _ => ⟨rfl, rfl⟩, fun _ h => absurd rfl h⟩
  unfold P.request
  split
  · exact hbadF _
  · rename_i h1
    unfold P.reqOf
    split
    · exact hbadF _
    · rename_i h2
      split
      · exact hbadF _
      · split
        · exact hbadF _
        · split
          · exact hbadF _
          · rename_i h5
            have hp := P.parse_facts (P.hBlock bs (P.skip bs)).length [] (P.hBlock bs (P.skip bs)) (Nat.le_refl _) (by simp)
            have hN : P.hN bs (P.skip bs) ≠ 0 := fun h => h1 (.inr h)
            refine ⟨hp.2.1, fun h => ?_, fun _ _ => ?_⟩
            · rcases h with h | h
              · exact absurd rfl h
              · exact absurd h hN
            · have hnn : 0 ≤ P.hIdx bs (P.skip bs) := by
                rcases (by omega : P.hIdx bs (P.skip bs) < 0 ∨ 0 ≤ P.hIdx bs (P.skip bs)) with h | h
                · exact absurd (if_pos (.inl h)) hN
                · exact h
              obtain ⟨i, j, hi, hroom, _⟩ := P.hText_facts bs (P.skip bs) hnn
              have hc : ¬ (P.hIdx bs (P.skip bs) < 0 ∨ 8192 < P.skip bs + P.hIdx bs (P.skip bs) + 4) := fun h => hN (if_pos h)
              have hNe : P.hN bs (P.skip bs) = P.skip bs + P.hIdx bs (P.skip bs) + 4 := if_neg hc
              have hv : P.verN (P.behind (P.behind (P.hLine bs (P.skip bs)))) = 0 ∨ P.verN (P.behind (P.behind (P.hLine bs (P.skip bs)))) = 1 := by
                unfold P.verN
                split
                · exact .inr rfl
                · exact .inl rfl
              have hho : 0 ≤ P.hostsOf (P.parse [] (P.hBlock bs (P.skip bs))).1 := by unfold P.hostsOf; omega
              refine ⟨?_, ?_, ?_, ?_, ?_, ?_, hv⟩
              · show P.hN bs (P.skip bs) ≤ 8192
                rw [hNe]; omega
              · show P.hN bs (P.skip bs) ≤ bs.length
                rw [hNe, hi]; omega
              · intro h
                have h' : P.methodOf (P.hLine bs (P.skip bs)) = [] := by
                  have := congrArg L h
                  exact this
                exact h2 (.inl (by rw [h']; rfl))
              · intro h
                have h' : P.methodOf (P.behind (P.hLine bs (P.skip bs))) = [] := by
                  have := congrArg L h
                  exact this
                exact h2 (.inr (by rw [h']; rfl))
              · show P.hostsOf (P.parse [] (P.hBlock bs (P.skip bs))).1 ≤ 1
                omega
              · show P.hostsOf (P.parse [] (P.hBlock bs (P.skip bs))).1 = 1 ∨ _
                rcases hv with h | h
                · exact .inr h
                · left; omega

end Go.Proofs.YtecopkcogobolaaGreatDoor
