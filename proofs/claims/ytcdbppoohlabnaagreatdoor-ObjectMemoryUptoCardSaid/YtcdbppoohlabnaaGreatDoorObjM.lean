/- The walk of the law ObjectMemory (printed by gen/omem.py). Conditions: what it reads is of bulk at most 2^20; the library's tables. -/
import Derived.Test.YtcdbppoohlabnaaGreatDoorObjB
import Derived.Test.YtcdbppoohlabnaaGreatDoorObjA
import Derived.Test.YtcdbppoohlabnaaGreatDoorObjK
import Derived.Test.YtcdbppoohlabnaaGreatDoorObjLaw
import Derived.Test.YtcdbppoohlabnaaGreatDoorMark
namespace Go.Proofs.YtcdbppoohlabnaaGreatDoor
open Go.RowKit

def fiveF {α : Type} (a b c d e : α) : Nat → α
  | 0 => a
  | 1 => b
  | 2 => c
  | 3 => d
  | _ => e
theorem Row.keepK {u u' : World} {base : Nat} {e : TypeId} {size n c : Nat} {A : Option Addr} {xs : List Value} (h : Row u base e size A n c xs) (hk : ∀ b, ownB A c = some b → u'.heap[b]? = u.heap[b]?) : Row u' base e size A n c xs := by
  by_cases hc0 : c = 0
  · subst hc0
    have hn : n = 0 := by have := h.cap.1; omega
    subst hn
    exact .inr ⟨rfl, rfl, List.eq_nil_of_length_eq_zero (by have := h.len; omega)⟩
  · rcases h with ⟨h1, h2⟩ | h
    · refine .inl ⟨h1, ?_⟩
      rcases h2 with h2 | ⟨g, cap, cur, hv, hg0, hh, rest⟩
      · exact .inl h2
      · cases hv
        exact .inr ⟨g, c, cur, rfl, hg0, (hk g (by unfold ownB; rw [if_neg hc0]; rfl)).trans hh, rest⟩
    · exact .inr h
/-- Two rows of different elements do not share a block. -/
theorem Row.apartK {w : World} {b1 b2 : Nat} {e1 e2 : TypeId} {s1 s2 n1 n2 c1 c2 : Nat} {A1 A2 : Option Addr} {x1 x2 : List Value} (h1 : Row w b1 e1 s1 A1 n1 c1 x1) (h2 : Row w b2 e2 s2 A2 n2 c2 x2) (hne : e1 ≠ e2) (b : Nat) (k1 : ownB A1 c1 = some b) : ownB A2 c2 ≠ some b := by
  intro k2
  have form : ∀ {bb e s n c A x}, Row w bb e s A n c x → ownB A c = some b → ∃ cur : Array Value, w.heap[b]? = some (.cells cur e (0, 0)) := by
    intro bb e s n c A x h k
    unfold ownB at k
    split at k
    · cases k
    · rename_i hc
      rcases h with ⟨_, h⟩ | ⟨_, h, _⟩
      · rcases h with ⟨hv, _⟩ | ⟨g, cap, cur, hv, _, hh, _⟩
        · cases hv; exact absurd rfl hc
        · cases hv
          simp at k
          subst k
          exact ⟨cur, hh⟩
      · exact absurd h hc
  obtain ⟨u1, g1⟩ := form h1 k1
  obtain ⟨u2, g2⟩ := form h2 k2
  rw [g1] at g2
  injection g2 with g2
  injection g2 with _ g2
  exact hne g2
theorem sameFO {A B : Option Addr} {c d : Nat} {xs : List FD} {w : World} (hn : xs.length ≤ 1099511627776) (hx : Rd w A xs.length 2 (fcells xs)) (hy : Rd w B xs.length 2 (fcells xs)) :
    Calls Tryz.prog 26 #[.slice A xs.length c, .slice B xs.length d] w (RetB w true) := by
  have := sameFields_any A B xs.length xs.length c d xs xs w hn hn hx hy rfl rfl
  simpa using this
set_option maxRecDepth 100000 in
set_option maxHeartbeats 8000000 in
theorem objectMemory_any (k v : ByteArray) (s : Int) (r : ByteArray) (m : Int) (A : Option Addr) (cf : Nat) (fs : List FD) (X : Option Addr) (cb : Nat) (body : List UInt8) (asked got : Int) (w : World) (_hk : k.size ≤ 1048576) (_hv : v.size ≤ 1048576) (hr : r.size ≤ 1048576) (hf : F.bulk fs ≤ 1048576) (hbn : body.length ≤ 1048576) (hx : Rd w A fs.length 2 (fcells fs)) (hX : Rd w X body.length 1 (bcells body)) (ht : LibOk w) (he : ErrOk w) (htab : TabOk w) :
    Calls Tryz.prog 6 #[.agg #[.string k, .string v, .int .i64 s, .string r, .int .i64 m, .slice A fs.length cf, .slice X body.length cb, .int .i64 asked, .int .i64 got]] w (RetB w true) := by
  have hfl : fs.length ≤ 1048576 := by have := F.len_le_bulk fs; omega
  have HA := Lib.hid (fun (u : World) (hb : Below w.heap.size w u) => objAlive_any u (htab.below hb))
  have HC := Lib.hid (fun (u : World) (hb : Below w.heap.size w u) => copyEntryR_any k v s r m A cf fs X cb body asked got u (by omega) (by omega) (hx.below hb) (hX.below hb))
  have HE := Lib.hid (fun (A1 : Option Addr) (c1 : Nat) (X1 : Option Addr) (d1 : Nat) (u : World) (hb : Below w.heap.size w u) (h1 : Rd u A1 fs.length 2 (fcells fs)) (h2 : Rd u X1 body.length 1 (bcells body)) => objEncode_any k v s r m A1 c1 fs X1 d1 body asked got u (by omega) (by omega) h1 h2 (htab.below hb))
  have HR := Lib.hid (fun (u : World) (hb : Below w.heap.size w u) => refObjEncode_any k v s r m A cf fs X cb body asked got u (by omega) (by omega) (hx.below hb) (hX.below hb))
  have HD := Lib.hid (fun (l : List UInt8) (A1 : Option Addr) (c1 : Nat) (u : World) (hb : Below w.heap.size w u) (hl : l.length ≤ 1073741824) (hc : l.length ≤ c1) (h1 : Rd u A1 l.length 1 (bcells l)) => odecode_any A1 c1 l u hl hc h1 (ht.below hb) (he.below hb) (htab.below hb))
  have HS := Lib.hid (fun (A7 : Option Addr) (c7 : Nat) (X7 : Option Addr) (d7 : Nat) (u : World) (hb : Below w.heap.size w u) (h1 : Rd u A7 fs.length 2 (fcells fs)) (h2 : Rd u X7 body.length 1 (bcells body)) => sameEntry_any k v s r m A7 c7 fs X7 d7 body asked got A cf X cb u (by omega) (by omega) h1 (hx.below hb) h2 (hX.below hb))
  have HXA := Lib.hid (fun (u : World) (hb : Below w.heap.size w u) => hx.below hb)
  have HK0 := Lib.hid (Blk.new w #[.string k, .string v, .int .i64 s, .string r, .int .i64 m, .slice A fs.length cf, .slice X body.length cb, .int .i64 asked, .int .i64 got] 29)
  have HB0 := Lib.hid ((Below.refl w.heap.size w).alloc (Nat.le_refl _) (.cells #[.string k, .string v, .int .i64 s, .string r, .int .i64 m, .slice A fs.length cf, .slice X body.length cb, .int .i64 asked, .int .i64 got] 29))
  have hz00 : (w.alloc (.cells #[.string k, .string v, .int .i64 s, .string r, .int .i64 m, .slice A fs.length cf, .slice X body.length cb, .int .i64 asked, .int .i64 got] 29)).heap.size = w.heap.size + 1 := World.size_alloc ..
  have HZ0 := Lib.hid hz00
  have hpb := objB_len k v s r m fs body asked got
  have hways := O.enc_ways k v s r m fs body asked got
  generalize objB k v s r m fs body asked got = PB at *
  generalize objE k v s r m fs body.length asked got = PE at *
  clear hx hX ht hf hr he htab hz00
  go_enter Tryz.func6, Tryz.ntmps6
  go_wp2_with fail
  generalize w.alloc (.cells #[.string k, .string v, .int .i64 s, .string r, .int .i64 m, .slice A fs.length cf, .slice X body.length cb, .int .i64 asked, .int .i64 got] 29) = w0 at *
  refine (HA.out _ HB0.out).mono ?_
  rintro e w1 ⟨rfl, hb1⟩
  have HB1 := Lib.hid (below_then HB0.out.size HB0.out hb1)
  have HZ1 := Lib.hid hb1.size
  have HK1 := Lib.hid (HK0.out.below hb1)
  clear hb1 HB0 HK0 HA
  obtain ⟨x0, x1, x2, x3, x4, x5, x6, x7, x8⟩ := HK1.out.cells9
  go_wp2_with fail
  refine (HC.out _ HB1.out).mono ?_
  rintro e w2 ⟨A1, c1, X1, d1, rfl, ha, hx, hb2⟩
  have IO : Hid (∀ b, ownB X1 d1 = some b → w1.heap.size ≤ b ∧ b < w2.heap.size) := Lib.hid hx.lt
  have HB2 := Lib.hid (below_then HB1.out.size HB1.out hb2)
  have HZ2 := Lib.hid hb2.size
  have HK2 := Lib.hid (HK1.out.below hb2)
  have FA2 := Lib.hid (ha.rd)
  have OO2 := Lib.hid (hx)
  clear hb2 HB1 HK1 HC ha hx x0 x1 x2 x3 x4 x5 x6 x7 x8
  have HB3 := Lib.hid (HB2.out.alloc HB2.out.size (.cells #[.string k, .string v, .int .i64 s, .string r, .int .i64 m, .slice A1 fs.length c1, .slice X1 body.length d1, .int .i64 asked, .int .i64 got] 29))
  have HZ3 : Hid (w2.heap.size < (w2.alloc (.cells #[.string k, .string v, .int .i64 s, .string r, .int .i64 m, .slice A1 fs.length c1, .slice X1 body.length d1, .int .i64 asked, .int .i64 got] 29)).heap.size) := Lib.hid (by rw [World.size_alloc]; omega)
  have HK3 := Lib.hid (HK2.out.alloc (.cells #[.string k, .string v, .int .i64 s, .string r, .int .i64 m, .slice A1 fs.length c1, .slice X1 body.length d1, .int .i64 asked, .int .i64 got] 29))
  have FA3 := Lib.hid (FA2.out.alloc (.cells #[.string k, .string v, .int .i64 s, .string r, .int .i64 m, .slice A1 fs.length c1, .slice X1 body.length d1, .int .i64 asked, .int .i64 got] 29))
  have OO3 := Lib.hid (OO2.out.alloc (.cells #[.string k, .string v, .int .i64 s, .string r, .int .i64 m, .slice A1 fs.length c1, .slice X1 body.length d1, .int .i64 asked, .int .i64 got] 29))
  have HL3 := Lib.hid (Blk.new w2 #[.string k, .string v, .int .i64 s, .string r, .int .i64 m, .slice A1 fs.length c1, .slice X1 body.length d1, .int .i64 asked, .int .i64 got] 29)
  clear HB2 HK2 FA2 OO2
  go_upto_region 4 with fail
  generalize w2.alloc (.cells #[.string k, .string v, .int .i64 s, .string r, .int .i64 m, .slice A1 fs.length c1, .slice X1 body.length d1, .int .i64 asked, .int .i64 got] 29) = w3 at *
  obtain ⟨y0, y1, y2, y3, y4, y5, y6, y7, y8⟩ := HL3.out.cells9
  go_wp2_with fail
  refine (HE.out A1 c1 X1 d1 _ HB3.out FA3.out OO3.out.rd).mono ?_
  rintro e w4 ⟨A4, c4, rfl, hr4, hb4⟩
  have IA : Hid (∀ b, ownB A4 c4 = some b → w3.heap.size ≤ b ∧ b < w4.heap.size) := Lib.hid hr4.lt
  have HB4 := Lib.hid (below_then HB3.out.size HB3.out hb4)
  have HZ4 := Lib.hid hb4.size
  have HK4 := Lib.hid (HK3.out.below hb4)
  have FA4 := Lib.hid (FA3.out.below hb4)
  have OO4 := Lib.hid (OO3.out.below hb4)
  have HL4 := Lib.hid (HL3.out.below hb4)
  have PA4 := Lib.hid (hr4)
  clear hb4 HB3 HK3 FA3 OO3 HL3 hr4 y0 y1 y2 y3 y4 y5 y6 y7 y8
  obtain ⟨y0, y1, y2, y3, y4, y5, y6, y7, y8⟩ := HL4.out.cells9
  go_wp2_with fail
  refine (HE.out A1 c1 X1 d1 _ HB4.out FA4.out OO4.out.rd).mono ?_
  rintro e w5 ⟨A5, c5, rfl, hr5, hb5⟩
  have IC : Hid (∀ b, ownB A5 c5 = some b → w4.heap.size ≤ b ∧ b < w5.heap.size) := Lib.hid hr5.lt
  have HB5 := Lib.hid (below_then HB4.out.size HB4.out hb5)
  have HZ5 := Lib.hid hb5.size
  have HK5 := Lib.hid (HK4.out.below hb5)
  have OO5 := Lib.hid (OO4.out.below hb5)
  have HL5 := Lib.hid (HL4.out.below hb5)
  have PA5 := Lib.hid (PA4.out.below hb5)
  have PC5 := Lib.hid (hr5)
  clear hb5 HB4 HK4 FA4 OO4 HL4 PA4 hr5 HE y0 y1 y2 y3 y4 y5 y6 y7 y8
  obtain ⟨x0, x1, x2, x3, x4, x5, x6, x7, x8⟩ := HK5.out.cells9
  go_wp2_with fail
  refine (HR.out _ HB5.out).mono ?_
  rintro e w6 ⟨A6, c6, rfl, hr6, hb6⟩
  have HB6 := Lib.hid (below_then HB5.out.size HB5.out hb6)
  have HZ6 := Lib.hid hb6.size
  have HK6 := Lib.hid (HK5.out.below hb6)
  have OO6 := Lib.hid (OO5.out.below hb6)
  have HL6 := Lib.hid (HL5.out.below hb6)
  have PA6 := Lib.hid (PA5.out.below hb6)
  have PC6 := Lib.hid (PC5.out.below hb6)
  have PW6 := Lib.hid (hr6.rd)
  clear hb6 HB5 HK5 OO5 HL5 PA5 PC5 hr6 HR x0 x1 x2 x3 x4 x5 x6 x7 x8
  go_wp2_with fail
  refine (sameBO A4 A6 PB.length c4 c6 PB w6 (by omega) rfl PA6.out.rd PW6.out).mono ?_
  rintro e w7 ⟨rfl, hb7⟩
  have HB7 := Lib.hid (below_then HB6.out.size HB6.out hb7)
  have HZ7 := Lib.hid hb7.size
  have HK7 := Lib.hid (HK6.out.below hb7)
  have OO7 := Lib.hid (OO6.out.below hb7)
  have HL7 := Lib.hid (HL6.out.below hb7)
  have PA7 := Lib.hid (PA6.out.below hb7)
  have PC7 := Lib.hid (PC6.out.below hb7)
  have PW7 := Lib.hid (PW6.out.below hb7)
  clear hb7 HB6 HK6 OO6 HL6 PA6 PC6 PW6
  go_wp2_with fail
  refine (sameBO A5 A6 PB.length c5 c6 PB w7 (by omega) rfl PC7.out.rd PW7.out).mono ?_
  rintro e w8 ⟨rfl, hb8⟩
  have HB8 := Lib.hid (below_then HB7.out.size HB7.out hb8)
  have HZ8 := Lib.hid hb8.size
  have HK8 := Lib.hid (HK7.out.below hb8)
  have OO8 := Lib.hid (OO7.out.below hb8)
  have HL8 := Lib.hid (HL7.out.below hb8)
  have PA8 := Lib.hid (PA7.out.below hb8)
  have PC8 := Lib.hid (PC7.out.below hb8)
  clear hb8 HB7 HK7 OO7 HL7 PA7 PC7 PW7
  rcases hways with ⟨rfl, hdec⟩ | ⟨rfl, _⟩
  rotate_left
  · clear HD HS HXA
    go_wp2
    go_ret
    exact ⟨rfl, HB8.out⟩
  have HDEC := Lib.hid hdec
  clear hdec
  go_wp2_with fail
  refine (HD.out PB A4 c4 _ HB8.out (by omega) PA8.out.2.1 PA8.out.rd).mono ?_
  rintro e w9 (⟨E, A10, c10, X10, d10, hde, rfl, hrf, hrx, hb9⟩ | ⟨hde, _, _⟩)
  rotate_left
  · rw [HDEC.out] at hde
    cases hde
  rw [HDEC.out] at hde
  injection hde with hde
  subst hde
  replace hrf : Row w9 w8.heap.size 94 2 A10 fs.length c10 (fcells fs) := hrf
  replace hrx : Row w9 w8.heap.size 5 1 X10 body.length d10 (bcells body) := hrx
  have IQXF : Hid (∀ b, ownB A10 c10 = some b → w8.heap.size ≤ b ∧ b < w9.heap.size) := Lib.hid hrf.lt
  have IQXX : Hid (∀ b, ownB X10 d10 = some b → w8.heap.size ≤ b ∧ b < w9.heap.size) := Lib.hid hrx.lt
  have HB9 := Lib.hid (below_then HB8.out.size HB8.out hb9)
  have HZ9 := Lib.hid hb9.size
  have HK9 := Lib.hid (HK8.out.below hb9)
  have OO9 := Lib.hid (OO8.out.below hb9)
  have HL9 := Lib.hid (HL8.out.below hb9)
  have PA9 := Lib.hid (PA8.out.below hb9)
  have PC9 := Lib.hid (PC8.out.below hb9)
  have QXF9 := Lib.hid hrf
  have QXX9 := Lib.hid hrx
  clear hb9 HB8 hrf hrx HK8 OO8 HL8 PA8 PC8
  have HB10 := Lib.hid (HB9.out.alloc HB9.out.size (.cells #[.string k, .string v, .int .i64 s, .string r, .int .i64 m, .slice A10 fs.length c10, .slice X10 body.length d10, .int .i64 asked, .int .i64 got] 29))
  have HZ10 : Hid (w9.heap.size < (w9.alloc (.cells #[.string k, .string v, .int .i64 s, .string r, .int .i64 m, .slice A10 fs.length c10, .slice X10 body.length d10, .int .i64 asked, .int .i64 got] 29)).heap.size) := Lib.hid (by rw [World.size_alloc]; omega)
  have HK10 := Lib.hid (HK9.out.alloc (.cells #[.string k, .string v, .int .i64 s, .string r, .int .i64 m, .slice A10 fs.length c10, .slice X10 body.length d10, .int .i64 asked, .int .i64 got] 29))
  have OO10 := Lib.hid (OO9.out.alloc (.cells #[.string k, .string v, .int .i64 s, .string r, .int .i64 m, .slice A10 fs.length c10, .slice X10 body.length d10, .int .i64 asked, .int .i64 got] 29))
  have HL10 := Lib.hid (HL9.out.alloc (.cells #[.string k, .string v, .int .i64 s, .string r, .int .i64 m, .slice A10 fs.length c10, .slice X10 body.length d10, .int .i64 asked, .int .i64 got] 29))
  have PA10 := Lib.hid (PA9.out.alloc (.cells #[.string k, .string v, .int .i64 s, .string r, .int .i64 m, .slice A10 fs.length c10, .slice X10 body.length d10, .int .i64 asked, .int .i64 got] 29))
  have PC10 := Lib.hid (PC9.out.alloc (.cells #[.string k, .string v, .int .i64 s, .string r, .int .i64 m, .slice A10 fs.length c10, .slice X10 body.length d10, .int .i64 asked, .int .i64 got] 29))
  have QXF10 := Lib.hid (QXF9.out.alloc (.cells #[.string k, .string v, .int .i64 s, .string r, .int .i64 m, .slice A10 fs.length c10, .slice X10 body.length d10, .int .i64 asked, .int .i64 got] 29))
  have QXX10 := Lib.hid (QXX9.out.alloc (.cells #[.string k, .string v, .int .i64 s, .string r, .int .i64 m, .slice A10 fs.length c10, .slice X10 body.length d10, .int .i64 asked, .int .i64 got] 29))
  have QXB10 := Lib.hid (Blk.new w9 #[.string k, .string v, .int .i64 s, .string r, .int .i64 m, .slice A10 fs.length c10, .slice X10 body.length d10, .int .i64 asked, .int .i64 got] 29)
  clear HB9 HK9 OO9 HL9 PA9 PC9 QXF9 QXX9
  go_upto_region 12 with fail
  generalize w9.alloc (.cells #[.string k, .string v, .int .i64 s, .string r, .int .i64 m, .slice A10 fs.length c10, .slice X10 body.length d10, .int .i64 asked, .int .i64 got] 29) = w10 at *
  go_wp2_with fail
  refine (HD.out PB A4 c4 _ HB10.out (by omega) PA10.out.2.1 PA10.out.rd).mono ?_
  rintro e w11 (⟨E, A12, c12, X12, d12, hde, rfl, hrf, hrx, hb11⟩ | ⟨hde, _, _⟩)
  rotate_left
  · rw [HDEC.out] at hde
    cases hde
  rw [HDEC.out] at hde
  injection hde with hde
  subst hde
  replace hrf : Row w11 w10.heap.size 94 2 A12 fs.length c12 (fcells fs) := hrf
  replace hrx : Row w11 w10.heap.size 5 1 X12 body.length d12 (bcells body) := hrx
  have IQYF : Hid (∀ b, ownB A12 c12 = some b → w10.heap.size ≤ b ∧ b < w11.heap.size) := Lib.hid hrf.lt
  have IQYX : Hid (∀ b, ownB X12 d12 = some b → w10.heap.size ≤ b ∧ b < w11.heap.size) := Lib.hid hrx.lt
  have HB11 := Lib.hid (below_then HB10.out.size HB10.out hb11)
  have HZ11 := Lib.hid hb11.size
  have HK11 := Lib.hid (HK10.out.below hb11)
  have OO11 := Lib.hid (OO10.out.below hb11)
  have HL11 := Lib.hid (HL10.out.below hb11)
  have PA11 := Lib.hid (PA10.out.below hb11)
  have PC11 := Lib.hid (PC10.out.below hb11)
  have QXF11 := Lib.hid (QXF10.out.below hb11)
  have QXX11 := Lib.hid (QXX10.out.below hb11)
  have QXB11 := Lib.hid (QXB10.out.below hb11)
  have QYF11 := Lib.hid hrf
  have QYX11 := Lib.hid hrx
  clear hb11 HB10 hrf hrx HK10 OO10 HL10 PA10 PC10 QXF10 QXX10 QXB10
  have HB12 := Lib.hid (HB11.out.alloc HB11.out.size (.cells #[.string k, .string v, .int .i64 s, .string r, .int .i64 m, .slice A12 fs.length c12, .slice X12 body.length d12, .int .i64 asked, .int .i64 got] 29))
  have HZ12 : Hid (w11.heap.size < (w11.alloc (.cells #[.string k, .string v, .int .i64 s, .string r, .int .i64 m, .slice A12 fs.length c12, .slice X12 body.length d12, .int .i64 asked, .int .i64 got] 29)).heap.size) := Lib.hid (by rw [World.size_alloc]; omega)
  have HK12 := Lib.hid (HK11.out.alloc (.cells #[.string k, .string v, .int .i64 s, .string r, .int .i64 m, .slice A12 fs.length c12, .slice X12 body.length d12, .int .i64 asked, .int .i64 got] 29))
  have OO12 := Lib.hid (OO11.out.alloc (.cells #[.string k, .string v, .int .i64 s, .string r, .int .i64 m, .slice A12 fs.length c12, .slice X12 body.length d12, .int .i64 asked, .int .i64 got] 29))
  have HL12 := Lib.hid (HL11.out.alloc (.cells #[.string k, .string v, .int .i64 s, .string r, .int .i64 m, .slice A12 fs.length c12, .slice X12 body.length d12, .int .i64 asked, .int .i64 got] 29))
  have PA12 := Lib.hid (PA11.out.alloc (.cells #[.string k, .string v, .int .i64 s, .string r, .int .i64 m, .slice A12 fs.length c12, .slice X12 body.length d12, .int .i64 asked, .int .i64 got] 29))
  have PC12 := Lib.hid (PC11.out.alloc (.cells #[.string k, .string v, .int .i64 s, .string r, .int .i64 m, .slice A12 fs.length c12, .slice X12 body.length d12, .int .i64 asked, .int .i64 got] 29))
  have QXF12 := Lib.hid (QXF11.out.alloc (.cells #[.string k, .string v, .int .i64 s, .string r, .int .i64 m, .slice A12 fs.length c12, .slice X12 body.length d12, .int .i64 asked, .int .i64 got] 29))
  have QXX12 := Lib.hid (QXX11.out.alloc (.cells #[.string k, .string v, .int .i64 s, .string r, .int .i64 m, .slice A12 fs.length c12, .slice X12 body.length d12, .int .i64 asked, .int .i64 got] 29))
  have QXB12 := Lib.hid (QXB11.out.alloc (.cells #[.string k, .string v, .int .i64 s, .string r, .int .i64 m, .slice A12 fs.length c12, .slice X12 body.length d12, .int .i64 asked, .int .i64 got] 29))
  have QYF12 := Lib.hid (QYF11.out.alloc (.cells #[.string k, .string v, .int .i64 s, .string r, .int .i64 m, .slice A12 fs.length c12, .slice X12 body.length d12, .int .i64 asked, .int .i64 got] 29))
  have QYX12 := Lib.hid (QYX11.out.alloc (.cells #[.string k, .string v, .int .i64 s, .string r, .int .i64 m, .slice A12 fs.length c12, .slice X12 body.length d12, .int .i64 asked, .int .i64 got] 29))
  have QYB12 := Lib.hid (Blk.new w11 #[.string k, .string v, .int .i64 s, .string r, .int .i64 m, .slice A12 fs.length c12, .slice X12 body.length d12, .int .i64 asked, .int .i64 got] 29)
  clear HB11 HK11 OO11 HL11 PA11 PC11 QXF11 QXX11 QXB11 QYF11 QYX11
  go_upto_region 13 with fail
  generalize w11.alloc (.cells #[.string k, .string v, .int .i64 s, .string r, .int .i64 m, .slice A12 fs.length c12, .slice X12 body.length d12, .int .i64 asked, .int .i64 got] 29) = w12 at *
  obtain ⟨x0, x1, x2, x3, x4, x5, x6, x7, x8⟩ := QXB12.out.cells9
  obtain ⟨y0, y1, y2, y3, y4, y5, y6, y7, y8⟩ := HK12.out.cells9
  go_wp2_with fail
  refine (HS.out A10 c10 X10 d10 _ HB12.out QXF12.out.rd QXX12.out.rd).mono ?_
  rintro e w13 ⟨rfl, hb13⟩
  have HB13 := Lib.hid (below_then HB12.out.size HB12.out hb13)
  have HZ13 := Lib.hid hb13.size
  have HK13 := Lib.hid (HK12.out.below hb13)
  have OO13 := Lib.hid (OO12.out.below hb13)
  have HL13 := Lib.hid (HL12.out.below hb13)
  have PA13 := Lib.hid (PA12.out.below hb13)
  have PC13 := Lib.hid (PC12.out.below hb13)
  have QXF13 := Lib.hid (QXF12.out.below hb13)
  have QXX13 := Lib.hid (QXX12.out.below hb13)
  have QXB13 := Lib.hid (QXB12.out.below hb13)
  have QYF13 := Lib.hid (QYF12.out.below hb13)
  have QYX13 := Lib.hid (QYX12.out.below hb13)
  have QYB13 := Lib.hid (QYB12.out.below hb13)
  clear hb13 HB12 HK12 OO12 HL12 PA12 PC12 QXF12 QXX12 QXB12 QYF12 QYX12 QYB12 x0 x1 x2 x3 x4 x5 x6 x7 x8 y0 y1 y2 y3 y4 y5 y6 y7 y8
  obtain ⟨x0, x1, x2, x3, x4, x5, x6, x7, x8⟩ := QYB13.out.cells9
  obtain ⟨y0, y1, y2, y3, y4, y5, y6, y7, y8⟩ := HK13.out.cells9
  go_wp2_with fail
  refine (HS.out A12 c12 X12 d12 _ HB13.out QYF13.out.rd QYX13.out.rd).mono ?_
  rintro e w14 ⟨rfl, hb14⟩
  have HB14 := Lib.hid (below_then HB13.out.size HB13.out hb14)
  have HZ14 := Lib.hid hb14.size
  have HK14 := Lib.hid (HK13.out.below hb14)
  have OO14 := Lib.hid (OO13.out.below hb14)
  have HL14 := Lib.hid (HL13.out.below hb14)
  have PA14 := Lib.hid (PA13.out.below hb14)
  have PC14 := Lib.hid (PC13.out.below hb14)
  have QXF14 := Lib.hid (QXF13.out.below hb14)
  have QXX14 := Lib.hid (QXX13.out.below hb14)
  have QXB14 := Lib.hid (QXB13.out.below hb14)
  have QYF14 := Lib.hid (QYF13.out.below hb14)
  have QYX14 := Lib.hid (QYX13.out.below hb14)
  have QYB14 := Lib.hid (QYB13.out.below hb14)
  clear hb14 HB13 HK13 OO13 HL13 PA13 PC13 QXF13 QXX13 QXB13 QYF13 QYX13 QYB13 HS x0 x1 x2 x3 x4 x5 x6 x7 x8 y0 y1 y2 y3 y4 y5 y6 y7 y8
  obtain ⟨x0, x1, x2, x3, x4, x5, x6, x7, x8⟩ := QXB14.out.cells9
  obtain ⟨y0, y1, y2, y3, y4, y5, y6, y7, y8⟩ := QYB14.out.cells9
  obtain ⟨q0, q1, q2, q3, q4, q5, q6, q7, q8⟩ := HL14.out.cells9
  have HH := Lib.hid (Blk.new w14 #[.slice A4 PB.length c4, .slice A5 PB.length c5, .slice X10 body.length d10, .slice X12 body.length d12, .slice X1 body.length d1] 22)
  have HBa := Lib.hid (HB14.out.alloc HB14.out.size (.cells #[.slice A4 PB.length c4, .slice A5 PB.length c5, .slice X10 body.length d10, .slice X12 body.length d12, .slice X1 body.length d1] 22))
  have HKa := Lib.hid (HK14.out.alloc (.cells #[.slice A4 PB.length c4, .slice A5 PB.length c5, .slice X10 body.length d10, .slice X12 body.length d12, .slice X1 body.length d1] 22))
  have QXFa := Lib.hid (QXF14.out.alloc (.cells #[.slice A4 PB.length c4, .slice A5 PB.length c5, .slice X10 body.length d10, .slice X12 body.length d12, .slice X1 body.length d1] 22))
  have QYFa := Lib.hid (QYF14.out.alloc (.cells #[.slice A4 PB.length c4, .slice A5 PB.length c5, .slice X10 body.length d10, .slice X12 body.length d12, .slice X1 body.length d1] 22))
  have QXBa := Lib.hid (QXB14.out.alloc (.cells #[.slice A4 PB.length c4, .slice A5 PB.length c5, .slice X10 body.length d10, .slice X12 body.length d12, .slice X1 body.length d1] 22))
  have QYBa := Lib.hid (QYB14.out.alloc (.cells #[.slice A4 PB.length c4, .slice A5 PB.length c5, .slice X10 body.length d10, .slice X12 body.length d12, .slice X1 body.length d1] 22))
  have QXXa := Lib.hid (QXX14.out.alloc (.cells #[.slice A4 PB.length c4, .slice A5 PB.length c5, .slice X10 body.length d10, .slice X12 body.length d12, .slice X1 body.length d1] 22))
  have QYXa := Lib.hid (QYX14.out.alloc (.cells #[.slice A4 PB.length c4, .slice A5 PB.length c5, .slice X10 body.length d10, .slice X12 body.length d12, .slice X1 body.length d1] 22))
  have PAa := Lib.hid (PA14.out.alloc (.cells #[.slice A4 PB.length c4, .slice A5 PB.length c5, .slice X10 body.length d10, .slice X12 body.length d12, .slice X1 body.length d1] 22))
  have PCa := Lib.hid (PC14.out.alloc (.cells #[.slice A4 PB.length c4, .slice A5 PB.length c5, .slice X10 body.length d10, .slice X12 body.length d12, .slice X1 body.length d1] 22))
  have OOa := Lib.hid (OO14.out.alloc (.cells #[.slice A4 PB.length c4, .slice A5 PB.length c5, .slice X10 body.length d10, .slice X12 body.length d12, .slice X1 body.length d1] 22))
  clear HB14 HK14 OO14 HL14 PA14 PC14 QXF14 QXX14 QXB14 QYF14 QYX14 QYB14
  go_wp2_with fail
  clear x0 y0 q0 x1 y1 q1 x2 y2 q2 x3 y3 q3 x4 y4 q4 x5 y5 q5 x6 y6 q6 x7 y7 q7 x8 y8 q8
  have hzl := HH.out.lt
  generalize w14.alloc (.cells #[.slice A4 PB.length c4, .slice A5 PB.length c5, .slice X10 body.length d10, .slice X12 body.length d12, .slice X1 body.length d1] 22) = v0 at *
  have hL : LSt v0 w.heap.size 5 (fiveF A4 A5 X10 X12 X1) (fiveF PB.length PB.length body.length body.length body.length) (fiveF c4 c5 d10 d12 d1) w14.heap.size 0 (fiveF PB PB body body body) v0 := by
    have hz0 := HZ0.out; have hz1 := HZ1.out; have hz2 := HZ2.out; have hz3 := HZ3.out; have hz4 := HZ4.out; have hz5 := HZ5.out; have hz6 := HZ6.out; have hz7 := HZ7.out; have hz8 := HZ8.out; have hz9 := HZ9.out; have hz10 := HZ10.out; have hz11 := HZ11.out; have hz12 := HZ12.out; have hz13 := HZ13.out; have hz14 := HZ14.out;
    refine ⟨fun i hi => ?_, fun i hi => ?_, Below.refl _ _, fun _ _ _ => rfl⟩
    · match i, hi with
      | 0, _ => exact PAa.out.mono (by omega)
      | 1, _ => exact PCa.out.mono (by omega)
      | 2, _ => exact QXXa.out.crow.mono (by omega)
      | 3, _ => exact QYXa.out.crow.mono (by omega)
      | 4, _ => exact OOa.out.mono (by omega)
    · match i, hi with
      | 0, _ => exact HH.out.cell 0 rfl
      | 1, _ => exact HH.out.cell 1 rfl
      | 2, _ => exact HH.out.cell 2 rfl
      | 3, _ => exact HH.out.cell 3 rfl
      | 4, _ => exact HH.out.cell 4 rfl
  have hD : LDis 5 (fiveF A4 A5 X10 X12 X1) (fiveF c4 c5 d10 d12 d1) w14.heap.size := by
    have hz0 := HZ0.out; have hz1 := HZ1.out; have hz2 := HZ2.out; have hz3 := HZ3.out; have hz4 := HZ4.out; have hz5 := HZ5.out; have hz6 := HZ6.out; have hz7 := HZ7.out; have hz8 := HZ8.out; have hz9 := HZ9.out; have hz10 := HZ10.out; have hz11 := HZ11.out; have hz12 := HZ12.out; have hz13 := HZ13.out; have hz14 := HZ14.out;
    refine LDis.of_iv (u := v0) (n := (fiveF PB.length PB.length body.length body.length body.length)) (f := (fiveF PB PB body body body)) (fiveF w3.heap.size w4.heap.size w8.heap.size w10.heap.size w1.heap.size) (fiveF w4.heap.size w5.heap.size w9.heap.size w11.heap.size w2.heap.size) (fun i hi => ?_) (fun i hi b e => ?_) (fun i j hi hj hne => ?_) (fun i hi => ?_)
    · match i, hi with
      | 0, _ => exact PAa.out
      | 1, _ => exact PCa.out
      | 2, _ => exact QXXa.out.crow
      | 3, _ => exact QYXa.out.crow
      | 4, _ => exact OOa.out
    · match i, hi with
      | 0, _ => exact (IA.out b e).2
      | 1, _ => exact (IC.out b e).2
      | 2, _ => exact (IQXX.out b e).2
      | 3, _ => exact (IQYX.out b e).2
      | 4, _ => exact (IO.out b e).2
    · match i, hi, j, hj with
      | 0, _, 0, _ => exact absurd rfl hne
      | 0, _, 1, _ => exact .inl (by show w4.heap.size ≤ w4.heap.size; omega)
      | 0, _, 2, _ => exact .inl (by show w4.heap.size ≤ w8.heap.size; omega)
      | 0, _, 3, _ => exact .inl (by show w4.heap.size ≤ w10.heap.size; omega)
      | 0, _, 4, _ => exact .inr (by show w2.heap.size ≤ w3.heap.size; omega)
      | 1, _, 0, _ => exact .inr (by show w4.heap.size ≤ w4.heap.size; omega)
      | 1, _, 1, _ => exact absurd rfl hne
      | 1, _, 2, _ => exact .inl (by show w5.heap.size ≤ w8.heap.size; omega)
      | 1, _, 3, _ => exact .inl (by show w5.heap.size ≤ w10.heap.size; omega)
      | 1, _, 4, _ => exact .inr (by show w2.heap.size ≤ w4.heap.size; omega)
      | 2, _, 0, _ => exact .inr (by show w4.heap.size ≤ w8.heap.size; omega)
      | 2, _, 1, _ => exact .inr (by show w5.heap.size ≤ w8.heap.size; omega)
      | 2, _, 2, _ => exact absurd rfl hne
      | 2, _, 3, _ => exact .inl (by show w9.heap.size ≤ w10.heap.size; omega)
      | 2, _, 4, _ => exact .inr (by show w2.heap.size ≤ w8.heap.size; omega)
      | 3, _, 0, _ => exact .inr (by show w4.heap.size ≤ w10.heap.size; omega)
      | 3, _, 1, _ => exact .inr (by show w5.heap.size ≤ w10.heap.size; omega)
      | 3, _, 2, _ => exact .inr (by show w9.heap.size ≤ w10.heap.size; omega)
      | 3, _, 3, _ => exact absurd rfl hne
      | 3, _, 4, _ => exact .inr (by show w2.heap.size ≤ w10.heap.size; omega)
      | 4, _, 0, _ => exact .inl (by show w2.heap.size ≤ w3.heap.size; omega)
      | 4, _, 1, _ => exact .inl (by show w2.heap.size ≤ w4.heap.size; omega)
      | 4, _, 2, _ => exact .inl (by show w2.heap.size ≤ w8.heap.size; omega)
      | 4, _, 3, _ => exact .inl (by show w2.heap.size ≤ w10.heap.size; omega)
      | 4, _, 4, _ => exact absurd rfl hne
    · match i, hi with
      | 0, _ => show w4.heap.size ≤ w14.heap.size; omega
      | 1, _ => show w5.heap.size ≤ w14.heap.size; omega
      | 2, _ => show w9.heap.size ≤ w14.heap.size; omega
      | 3, _ => show w11.heap.size ≤ w14.heap.size; omega
      | 4, _ => show w2.heap.size ≤ w14.heap.size; omega
  have hOWN : ∀ (b : Nat), (ownB A4 c4 ≠ some b ∧ ownB A5 c5 ≠ some b ∧ ownB X10 d10 ≠ some b ∧ ownB X12 d12 ≠ some b ∧ ownB X1 d1 ≠ some b) → ∀ i, i < 5 → ownB ((fiveF A4 A5 X10 X12 X1) i) ((fiveF c4 c5 d10 d12 d1) i) ≠ some b := fun b h i hi => by
    match i, hi with
    | 0, _ => exact h.1
    | 1, _ => exact h.2.1
    | 2, _ => exact h.2.2.1
    | 3, _ => exact h.2.2.2.1
    | 4, _ => exact h.2.2.2.2
  refine (apart_anyK w.heap.size 5 (fiveF A4 A5 X10 X12 X1) (fiveF PB.length PB.length body.length body.length body.length) (fiveF c4 c5 d10 d12 d1) w14.heap.size 0 5 (fiveF PB PB body body body) v0 (by omega) (fun i hi => ?_) hD hL HBa.out.size).mono ?_
  · match i, hi with
    | 0, _ => show PB.length ≤ _; omega
    | 1, _ => show PB.length ≤ _; omega
    | 2, _ => show body.length ≤ _; omega
    | 3, _ => show body.length ≤ _; omega
    | 4, _ => show body.length ≤ _; omega
  rintro e v1 ⟨rfl, hbv, hkv⟩
  have hkeep : ∀ b, b < v0.heap.size → ownB A4 c4 ≠ some b → ownB A5 c5 ≠ some b → ownB X10 d10 ≠ some b → ownB X12 d12 ≠ some b → ownB X1 d1 ≠ some b → v1.heap[b]? = v0.heap[b]? := fun b hb h0 h1 h2 h3 h4 => hkv b hb (hOWN b ⟨h0, h1, h2, h3, h4⟩)
  have hz0 := HZ0.out; have hz1 := HZ1.out; have hz2 := HZ2.out; have hz3 := HZ3.out; have hz4 := HZ4.out; have hz5 := HZ5.out; have hz6 := HZ6.out; have hz7 := HZ7.out; have hz8 := HZ8.out; have hz9 := HZ9.out; have hz10 := HZ10.out; have hz11 := HZ11.out; have hz12 := HZ12.out; have hz13 := HZ13.out; have hz14 := HZ14.out;
  have HKb : Hid (Blk v1 w.heap.size #[.string k, .string v, .int .i64 s, .string r, .int .i64 m, .slice A fs.length cf, .slice X body.length cb, .int .i64 asked, .int .i64 got] 29) := Lib.hid ((hkeep w.heap.size HKa.out.lt (fun h => by have h1 := IA.out _ h;  omega) (fun h => by have h1 := IC.out _ h;  omega) (fun h => by have h1 := IQXX.out _ h;  omega) (fun h => by have h1 := IQYX.out _ h;  omega) (fun h => by have h1 := IO.out _ h;  omega)).trans HKa.out)
  have HXb : Hid (Blk v1 w9.heap.size #[.string k, .string v, .int .i64 s, .string r, .int .i64 m, .slice A10 fs.length c10, .slice X10 body.length d10, .int .i64 asked, .int .i64 got] 29) := Lib.hid ((hkeep w9.heap.size QXBa.out.lt (fun h => by have h1 := IA.out _ h;  omega) (fun h => by have h1 := IC.out _ h;  omega) (fun h => by have h1 := IQXX.out _ h;  omega) (fun h => by have h1 := IQYX.out _ h;  omega) (fun h => by have h1 := IO.out _ h;  omega)).trans QXBa.out)
  have HYb : Hid (Blk v1 w11.heap.size #[.string k, .string v, .int .i64 s, .string r, .int .i64 m, .slice A12 fs.length c12, .slice X12 body.length d12, .int .i64 asked, .int .i64 got] 29) := Lib.hid ((hkeep w11.heap.size QYBa.out.lt (fun h => by have h1 := IA.out _ h;  omega) (fun h => by have h1 := IC.out _ h;  omega) (fun h => by have h1 := IQXX.out _ h;  omega) (fun h => by have h1 := IQYX.out _ h;  omega) (fun h => by have h1 := IO.out _ h;  omega)).trans QYBa.out)
  have HXF := Lib.hid (QXFa.out.keepK (u' := v1) (fun b hb => hkeep b (QXFa.out.lt b hb).2 (fun h => by have h1 := IA.out _ h; have h2 := IQXF.out b hb; omega) (fun h => by have h1 := IC.out _ h; have h2 := IQXF.out b hb; omega) (QXFa.out.apartK QXXa.out (by decide) b hb) (fun h => by have h1 := IQYX.out _ h; have h2 := IQXF.out b hb; omega) (fun h => by have h1 := IO.out _ h; have h2 := IQXF.out b hb; omega)))
  have HYF := Lib.hid (QYFa.out.keepK (u' := v1) (fun b hb => hkeep b (QYFa.out.lt b hb).2 (fun h => by have h1 := IA.out _ h; have h2 := IQYF.out b hb; omega) (fun h => by have h1 := IC.out _ h; have h2 := IQYF.out b hb; omega) (fun h => by have h1 := IQXX.out _ h; have h2 := IQYF.out b hb; omega) (QYFa.out.apartK QYXa.out (by decide) b hb) (fun h => by have h1 := IO.out _ h; have h2 := IQYF.out b hb; omega)))
  have HBv := Lib.hid (HBa.out.trans hbv)
  clear hL hD hOWN hkv hkeep hbv HH HBa HKa QXFa QYFa QXBa QYBa QXXa QYXa PAa PCa OOa IA IC IO IQXX IQYX
  obtain ⟨x0, x1, x2, x3, x4, x5, x6, x7, x8⟩ := HXb.out.cells9
  obtain ⟨y0, y1, y2, y3, y4, y5, y6, y7, y8⟩ := HYb.out.cells9
  obtain ⟨q0, q1, q2, q3, q4, q5, q6, q7, q8⟩ := HKb.out.cells9
  go_wp2_with fail
  refine (marked_any w8.heap.size A10 c10 fs v1 (by omega) HXF.out (by have := HXb.out.lt; omega)).mono ?_
  rintro e v2 ⟨rfl, hg⟩
  have HKc := Lib.hid (HKb.out.after hg (fun b h => by have := (IQXF.out b h).1; omega))
  have HYc := Lib.hid (HYb.out.after hg (fun b h => by have := (IQXF.out b h).2; omega))
  have HYG := Lib.hid (HYF.out.after hg (fun b h => by have := (IQXF.out b h).2; omega))
  have HBw := Lib.hid (below_after HBv.out hg HBv.out.size (fun b h => by have := (IQXF.out b h).1; omega))
  clear hg HKb HXb HYb HXF HYF HBv x0 x1 x2 x3 x4 x5 x6 x7 x8 y0 y1 y2 y3 y4 y5 y6 y7 y8 q0 q1 q2 q3 q4 q5 q6 q7 q8
  obtain ⟨y0, y1, y2, y3, y4, y5, y6, y7, y8⟩ := HYc.out.cells9
  obtain ⟨q0, q1, q2, q3, q4, q5, q6, q7, q8⟩ := HKc.out.cells9
  go_wp2_with fail
  refine (sameFO (by omega) HYG.out.rd (HXA.out _ HBw.out)).mono ?_
  rintro e v3 ⟨rfl, hb3⟩
  have HBx := Lib.hid (below_then HBw.out.size HBw.out hb3)
  clear hb3 HBw HYG HXA HKc HYc y0 y1 y2 y3 y4 y5 y6 y7 y8 q0 q1 q2 q3 q4 q5 q6 q7 q8
  go_wp2
  go_ret
  exact ⟨rfl, HBx.out⟩
end Go.Proofs.YtcdbppoohlabnaaGreatDoor
