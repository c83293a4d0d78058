/- The one body that the laws of chunk decode first; what a body's reading answers is within bounds. -/
import Derived.Test.YtnmldbcgpfglkaaGreatDoorChunkE
import Derived.Test.YtnmldbcgpfglkaaGreatDoorReplyA
import Derived.Test.YtnmldbcgpfglkaaGreatDoorSame
import Derived.Test.YtnmldbcgpfglkaaGreatDoorCopyB
namespace Go.Proofs.YtnmldbcgpfglkaaGreatDoor
open Go.RowKit

namespace C
def aliveB : List UInt8 := [51, 13, 10, 97, 98, 99, 13, 10, 48, 13, 10, 65, 58, 32, 98, 13, 10, 13, 10, 120]
def aliveR : CD := ⟨[97, 98, 99], [(⟨#[65]⟩, ⟨#[98]⟩)], 19, 0⟩
theorem alive_parse : P.parse [] [65, 58, 32, 98, 13, 10] = ([(⟨#[65]⟩, ⟨#[98]⟩)], 0) := by
  rw [P.parse_step [] (by decide) (show P.from_ P.eol [65, 58, 32, 98, 13, 10] = 13 :: 10 :: [] by decide), if_neg (by decide), if_neg (by decide), P.parse_nil]
  rfl
theorem alive_decode : decode aliveB = aliveR := by
  unfold decode
  have h1 : lineE aliveB = 0 := by decide +kernel
  have h2 : lineN aliveB = 3 := by decide +kernel
  have h3 : lineS aliveB = 3 := by decide +kernel
  rw [dec_line, h1, h2, h3, if_neg (by decide), if_neg (by decide), if_neg (by decide)]
  unfold dat
  rw [if_neg (by decide +kernel), if_neg (by decide +kernel)]
  have e : (aliveB.drop 3).drop (3 + 2) = [48, 13, 10, 65, 58, 32, 98, 13, 10, 13, 10, 120] := by decide +kernel
  have e2 : [] ++ (aliveB.drop 3).take 3 = [97, 98, 99] := by decide +kernel
  rw [e, e2]
  have g1 : lineE [48, 13, 10, 65, 58, 32, 98, 13, 10, 13, 10, 120] = 0 := by decide +kernel
  have g2 : lineN [48, 13, 10, 65, 58, 32, 98, 13, 10, 13, 10, 120] = 3 := by decide +kernel
  have g3 : lineS [48, 13, 10, 65, 58, 32, 98, 13, 10, 13, 10, 120] = 0 := by decide +kernel
  rw [dec_line, g1, g2, g3, if_neg (by decide), if_pos rfl]
  unfold fin
  have e3 : List.drop 3 ([48, 13, 10, 65, 58, 32, 98, 13, 10, 13, 10, 120] : List UInt8) = [65, 58, 32, 98, 13, 10, 13, 10, 120] := rfl
  rw [e3]
  have k0 : ¬ P.crlf.isPrefixOf [65, 58, 32, 98, 13, 10, 13, 10, 120] = true := by decide +kernel
  have k1 : P.hE [65, 58, 32, 98, 13, 10, 13, 10, 120] 0 = 0 := by decide +kernel
  have k2 : P.hN [65, 58, 32, 98, 13, 10, 13, 10, 120] 0 = 8 := by decide +kernel
  have k3 : ([65, 58, 32, 98, 13, 10, 13, 10, 120] : List UInt8).take ((8 : Int) - 2).toNat = [65, 58, 32, 98, 13, 10] := rfl
  have t1 : tailE [65, 58, 32, 98, 13, 10, 13, 10, 120] = 0 := by
    unfold tailE
    rw [if_neg k0, k1, k2, if_neg (by decide), k3, alive_parse]
  have t2 : tailN [65, 58, 32, 98, 13, 10, 13, 10, 120] = 8 := by
    unfold tailN
    rw [if_neg k0, k1, k2, if_neg (by decide), k3, alive_parse, if_neg (by decide)]
    rfl
  have t3 : tailF [65, 58, 32, 98, 13, 10, 13, 10, 120] = [(⟨#[65]⟩, ⟨#[98]⟩)] := by
    unfold tailF
    rw [if_neg k0, k1, k2, if_neg (by decide), k3, alive_parse]
  rw [t1, t2, t3, if_neg (by decide)]
  rfl
theorem tailF_len (l : List UInt8) : (tailF l).length ≤ 100 := by
  unfold tailF
  split
  · exact Nat.zero_le _
  · split
    · exact Nat.zero_le _
    · exact (P.parse_facts _ [] _ (Nat.le_refl _) (Nat.zero_le _)).2.1
theorem dec_len : ∀ (k : Nat) (data : List UInt8) (a : Nat) (l : List UInt8), l.length ≤ k → data.length ≤ 65536 → (dec data a l).d.length ≤ 65536 ∧ (dec data a l).f.length ≤ 100
  | k, data, a, l, hk, hd => by
    have hz : ∀ e : Int, (CD.bad e).d.length ≤ 65536 ∧ (CD.bad e).f.length ≤ 100 := fun e => ⟨Nat.zero_le _, Nat.zero_le _⟩
    rw [dec_line]
    split
    · exact hz _
    · rename_i h1
      obtain ⟨g1, g2⟩ := line_pos h1
      split
      · unfold fin
        split
        · exact hz _
        · exact ⟨hd, tailF_len _⟩
      · split
        · exact hz _
        · rename_i h3
          unfold dat
          split
          · exact hz _
          · rename_i h4
            split
            · exact hz _
            · rw [List.length_drop] at h4
              cases k with
              | zero => omega
              | succ k => exact dec_len k _ _ _ (by rw [List.length_drop, List.length_drop]; omega) (by rw [List.length_append, List.length_take]; omega)
theorem decode_len (bs : List UInt8) : (decode bs).d.length ≤ 65536 ∧ (decode bs).f.length ≤ 100 := dec_len bs.length [] 0 bs (Nat.le_refl _) (Nat.zero_le _)
/-- The three ways that a body's reading ends. -/
theorem decode_ways (bs : List UInt8) : ((decode bs).e = 0 ∧ (decode bs).n = 0 ∧ (decode bs).d = [] ∧ (decode bs).f = []) ∨ ((decode bs).e ≠ 0 ∧ (decode bs).n = 0 ∧ (decode bs).d = []) ∨ ((decode bs).e = 0 ∧ 0 < (decode bs).n ∧ (decode bs).n ≤ bs.length ∧ decode (bs.take (decode bs).n) = decode bs) := by
  have hb := dec_bad bs.length [] 0 bs (Nat.le_refl _)
  by_cases hn : (decode bs).n = 0
  · obtain ⟨h1, h2, h3⟩ := hb (.inr hn)
    by_cases he : (decode bs).e = 0
    · exact .inl ⟨he, hn, h2, h3⟩
    · exact .inr (.inl ⟨he, hn, h2⟩)
  · have he : (decode bs).e = 0 := by
      by_cases he : (decode bs).e = 0
      · exact he
      · exact absurd (hb (.inl he)).1 hn
    obtain ⟨h1, h2⟩ := decode_cut hn
    exact .inr (.inr ⟨he, by omega, h1, h2⟩)
end C

set_option maxRecDepth 100000 in
set_option maxHeartbeats 2000000 in
theorem chunkAlive_any (w : World) (ht : LibOk w) (he : ErrOk w) : Calls Tryz.prog 15 #[] w (RetB w true) := by
  have hb0 := (Below.refl w.heap.size w).alloc (Nat.le_refl _) (.cells #[.int .u8 51, .int .u8 13, .int .u8 10, .int .u8 97, .int .u8 98, .int .u8 99, .int .u8 13, .int .u8 10, .int .u8 48, .int .u8 13, .int .u8 10, .int .u8 65, .int .u8 58, .int .u8 32, .int .u8 98, .int .u8 13, .int .u8 10, .int .u8 13, .int .u8 10, .int .u8 120] 5 (20, 21))
  have HB0 := Lib.hid hb0
  have HQ : Hid (Calls Tryz.prog 17 #[.slice (some ⟨w.heap.size, 0, none⟩) 20 20] (w.alloc (.cells #[.int .u8 51, .int .u8 13, .int .u8 10, .int .u8 97, .int .u8 98, .int .u8 99, .int .u8 13, .int .u8 10, .int .u8 48, .int .u8 13, .int .u8 10, .int .u8 65, .int .u8 58, .int .u8 32, .int .u8 98, .int .u8 13, .int .u8 10, .int .u8 13, .int .u8 10, .int .u8 120] 5 (20, 21))) (RetCD (w.alloc (.cells #[.int .u8 51, .int .u8 13, .int .u8 10, .int .u8 97, .int .u8 98, .int .u8 99, .int .u8 13, .int .u8 10, .int .u8 48, .int .u8 13, .int .u8 10, .int .u8 65, .int .u8 58, .int .u8 32, .int .u8 98, .int .u8 13, .int .u8 10, .int .u8 13, .int .u8 10, .int .u8 120] 5 (20, 21))) C.aliveR)) := Lib.hid (by
    rw [← C.alive_decode]
    exact cdecode_any (some ⟨w.heap.size, 0, none⟩) 20 20 C.aliveB _ (by decide) (Nat.le_refl _) (fun h => by cases h) (fun a h => by cases h; exact .inl rfl) (Rd.newRowM w 5 #[.int .u8 51, .int .u8 13, .int .u8 10, .int .u8 97, .int .u8 98, .int .u8 99, .int .u8 13, .int .u8 10, .int .u8 48, .int .u8 13, .int .u8 10, .int .u8 65, .int .u8 58, .int .u8 32, .int .u8 98, .int .u8 13, .int .u8 10, .int .u8 13, .int .u8 10, .int .u8 120] (20, 21) 20 1 rfl) (ht.below hb0) (he.below hb0))
  have hcc := Lib.run_convert_bytes_const (P := Tryz.prog) w 22 5 #[.int .u8 51, .int .u8 13, .int .u8 10, .int .u8 97, .int .u8 98, .int .u8 99, .int .u8 13, .int .u8 10, .int .u8 48, .int .u8 13, .int .u8 10, .int .u8 65, .int .u8 58, .int .u8 32, .int .u8 98, .int .u8 13, .int .u8 10, .int .u8 13, .int .u8 10, .int .u8 120] 20 20 Tryz.underlying22 Tryz.underlying5
  clear hb0 ht he
  go_enter Tryz.func15, Tryz.ntmps15
  go_wp2_with fail
  clear hcc
  generalize w.alloc (.cells #[.int .u8 51, .int .u8 13, .int .u8 10, .int .u8 97, .int .u8 98, .int .u8 99, .int .u8 13, .int .u8 10, .int .u8 48, .int .u8 13, .int .u8 10, .int .u8 65, .int .u8 58, .int .u8 32, .int .u8 98, .int .u8 13, .int .u8 10, .int .u8 13, .int .u8 10, .int .u8 120] 5 (20, 21)) = w0 at *
  refine HQ.out.mono ?_
  rintro e w1 ⟨A1, c1, TA, tc, rfl, hr1, hf1, hb1⟩
  have HB1 := Lib.hid (below_then HB0.out.size HB0.out hb1)
  have hcv := conv_bs hr1.rd c1
  have e1 : C.aliveR.d.length = 3 := rfl
  have e2 : C.aliveR.f.length = 1 := rfl
  have e3 : ((C.aliveR.n : Nat) : Int) = 19 := rfl
  have e4 : C.aliveR.e = 0 := rfl
  have e5 : B C.aliveR.d = ⟨#[97, 98, 99]⟩ := rfl
  rw [e1, e2, e3, e4]
  rw [e1, e5] at hcv
  clear hr1 hf1 hb1 HQ HB0 e1 e2 e3 e4 e5
  go_wp2
  go_ret
  exact ⟨rfl, HB1.out⟩

theorem CRow.nilK {w : World} {base : Nat} {A : Option Addr} {n c : Nat} {bs : List UInt8} (h : CRow w base A n c bs) (hA : A = none) : n = 0 ∧ c = 0 := by
  rcases h.2.2 with h0 | ⟨g, hg, _⟩
  · have := h.2.1; omega
  · rw [hA] at hg; cases hg
theorem CRow.spotK {w : World} {base : Nat} {A : Option Addr} {n c : Nat} {bs : List UInt8} (h : CRow w base A n c bs) (a : Addr) (ha : A = some a) : a.spot = none ∨ c = 0 := by
  rcases h.2.2 with h0 | ⟨g, hg, _⟩
  · exact .inr h0
  · rw [hg] at ha; cases ha; exact .inl rfl
theorem sameBC (A B : Option Addr) (n c d : Nat) (xs : List UInt8) (w : World) (hn : n ≤ 1099511627776) (hl : xs.length = n) (hx : Rd w A n 1 (bcells xs)) (hy : Rd w B n 1 (bcells xs)) :
    Calls Tryz.prog 19 #[.slice A n c, .slice B n d] w (RetB w true) := by
  have := sameBytes_any A B n n c d xs xs w hn hn hx hy hl hl
  simpa using this
theorem sameFC (A B : Option Addr) (n c d : Nat) (xs : List FD) (w : World) (hn : n ≤ 1099511627776) (hl : xs.length = n) (hx : Rd w A n 2 (fcells xs)) (hy : Rd w B n 2 (fcells xs)) :
    Calls Tryz.prog 20 #[.slice A n c, .slice B n d] w (RetB w true) := by
  have := sameFields_any A B n n c d xs xs w hn hn hx hy hl hl
  simpa using this
end Go.Proofs.YtnmldbcgpfglkaaGreatDoor
