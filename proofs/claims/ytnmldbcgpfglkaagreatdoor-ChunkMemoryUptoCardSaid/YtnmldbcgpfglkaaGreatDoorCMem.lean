/- The walk of the law ChunkMemory. Conditions: both rows of at most 2^20 bytes; the one cell of math/bits' table that base 16 reads; the library's two tables of UTF-8; internal/bytealg.MaxLen; strconv's two error variables. -/
import Derived.Test.YtnmldbcgpfglkaaGreatDoorChunkT
import Derived.Test.YtnmldbcgpfglkaaGreatDoorChunkU
import Derived.Test.YtnmldbcgpfglkaaGreatDoorChunkV
import Derived.Test.YtnmldbcgpfglkaaGreatDoorChunkL
import Derived.Test.YtnmldbcgpfglkaaGreatDoorMark
namespace Go.Proofs.YtnmldbcgpfglkaaGreatDoor
open Go.RowKit

def six {α : Type} (a b c d e f : α) : Nat → α
  | 0 => a
  | 1 => b
  | 2 => c
  | 3 => d
  | 4 => e
  | _ => f
/-- Two rows of different elements do not share a block. -/
theorem Row.apartT {w : World} {b1 b2 : Nat} {e1 e2 : TypeId} {s1 s2 n1 n2 c1 c2 : Nat} {A1 A2 : Option Addr} {x1 x2 : List Value} (h1 : Row w b1 e1 s1 A1 n1 c1 x1) (h2 : Row w b2 e2 s2 A2 n2 c2 x2) (hne : e1 ≠ e2) (b : Nat) (k1 : ownB A1 c1 = some b) : ownB A2 c2 ≠ some b := by
  intro k2
  have form : ∀ {bb e s n c A x}, Row w bb e s A n c x → ownB A c = some b → ∃ cur : Array Value, w.heap[b]? = some (.cells cur e (0, 0)) := by
    intro bb e s n c A x h k
    unfold ownB at k
    split at k
    · cases k
    · rename_i hc
      rcases h with ⟨_, h⟩ | ⟨_, h, _⟩
      · rcases h with ⟨hv, _⟩ | ⟨g, cap, cur, hv, _, hh, _⟩
        · cases hv; exact absurd rfl hc
        · cases hv
          simp at k
          subst k
          exact ⟨cur, hh⟩
      · exact absurd h hc
  obtain ⟨u1, g1⟩ := form h1 k1
  obtain ⟨u2, g2⟩ := form h2 k2
  rw [g1] at g2
  injection g2 with g2
  injection g2 with _ g2
  exact hne g2

set_option maxRecDepth 100000 in
set_option maxHeartbeats 8000000 in
theorem chunkMemory_any (A : Option Addr) (n c : Nat) (bs : List UInt8) (D : Option Addr) (m dc : Nat) (ds : List UInt8) (size : Int) (w : World) (hnm : bs.length ≤ 1048576) (hl : bs.length = n) (hnc : n ≤ c) (hx : Rd w A n 1 (bcells bs)) (hdm : ds.length ≤ 1048576) (hdl : ds.length = m) (hmc : m ≤ dc) (hy : Rd w D m 1 (bcells ds)) (hs0 : -9223372036854775808 ≤ size) (hs1 : size ≤ 9223372036854775807) (ht : LibOk w) (he : ErrOk w) (hb : BruOk w) :
    Calls Tryz.prog 7 #[.slice A n c, .slice D m dc, .int .i64 size] w (RetB w true) := by
  subst hl
  subst hdl
  have HA := Lib.hid (fun (u : World) (hb : Below w.heap.size w u) => chunkAlive_any u (ht.below hb) (he.below hb))
  have HCB := Lib.hid (fun (u : World) (hu : Below w.heap.size w u) => copyBytes_any A c bs u (by omega) (hx.below hu))
  have HCD := Lib.hid (fun (u : World) (hu : Below w.heap.size w u) => copyBytes_any D dc ds u (by omega) (hy.below hu))
  have HDE := Lib.hid (fun (A1 : Option Addr) (c1 : Nat) (u0 u : World) (hu : Below w.heap.size w u) (hr : CRow u u0.heap.size A1 bs.length c1 bs) => cdecode_any A1 bs.length c1 bs u (by omega) hr.2.1 hr.nilK hr.spotK hr.rd (ht.below hu) (he.below hu))
  have HEN := Lib.hid (fun (A1 : Option Addr) (c1 : Nat) (u : World) (hu : Below w.heap.size w u) (hc : ds.length ≤ c1) (hr : Rd u A1 ds.length 1 (bcells ds)) => show Calls Tryz.prog 22 #[.slice A1 ds.length c1, .int .i64 size, .slice none 0 0] u (RetBE u (C.encB ds size []) (C.encE ds size [])) from cencode_any A1 c1 ds size none 0 [] u hs0 hs1 (by omega) hc hr (by decide) (Rd.nil u none 2) (hb.below hu))
  have HRD := Lib.hid (fun (u : World) (hu : Below w.heap.size w u) => refDecode_any A c bs u (by omega) hnc (hx.below hu))
  have HRE := Lib.hid (fun (u : World) (hu : Below w.heap.size w u) => show Calls Tryz.prog 23 #[.slice D ds.length dc, .int .i64 size, .slice none 0 0] u (RetBE u (C.encB ds size []) (C.encE ds size [])) from refCEncode_any D dc ds size none 0 [] u hs0 hs1 (by omega) hmc (hy.below hu) (by decide) (Rd.nil u none 2))
  have hel := C.encB_len ds size []
  have hll : (F.lines []).length = 0 := rfl
  have hf := C.decode_len bs
  obtain ⟨R, hR⟩ : ∃ R, C.decode bs = R := ⟨_, rfl⟩
  rw [hR] at HDE HRD hf
  obtain ⟨d, fs, N, E⟩ := R
  replace hf : d.length ≤ 65536 ∧ fs.length ≤ 100 := hf
  obtain ⟨hd, hf⟩ := hf
  obtain ⟨Q, hQ⟩ : ∃ Q, C.encB ds size [] = Q := ⟨_, rfl⟩
  obtain ⟨EE, hEE⟩ : ∃ EE, C.encE ds size [] = EE := ⟨_, rfl⟩
  rw [hQ, hEE] at HEN HRE
  have hql : Q.length ≤ 1073741824 := by rw [hQ, hll] at hel; omega
  clear hx hy ht he hb hR hQ hEE hel hll
  go_enter Tryz.func7, Tryz.ntmps7
  have HB0 := Lib.hid (Below.refl w.heap.size w)
  go_wp2_with fail
  refine (HA.out _ HB0.out).mono ?_
  rintro e w1 ⟨rfl, hb1⟩
  have HBZ := Lib.hid hb1.size
  have HB1 := Lib.hid (below_then HB0.out.size HB0.out hb1)
  clear hb1 HB0 HA
  go_wp2_with fail
  refine (HCB.out _ HB1.out).mono ?_
  rintro e w2 ⟨AO, co, rfl, hr, hb2⟩
  have IO : Hid (∀ b, ownB AO co = some b → w1.heap.size ≤ b ∧ b < w2.heap.size) := Lib.hid (fun b e => hr.lt b e)
  have HZ2 := Lib.hid hb2.size
  have HB2 := Lib.hid (below_then HB1.out.size HB1.out hb2)
  have O2 := Lib.hid (hr)
  clear hb2 HB1 hr HCB
  go_wp2_with fail
  refine (HCD.out _ HB2.out).mono ?_
  rintro e w3 ⟨AM, cm, rfl, hr, hb3⟩
  have IM : Hid (∀ b, ownB AM cm = some b → w2.heap.size ≤ b ∧ b < w3.heap.size) := Lib.hid (fun b e => hr.lt b e)
  have HZ3 := Lib.hid hb3.size
  have HB3 := Lib.hid (below_then HB2.out.size HB2.out hb3)
  have O3 := Lib.hid (O2.out.below hb3)
  have M3 := Lib.hid (hr)
  clear hb3 HB2 O2 hr HCD
  go_wp2_with fail
  refine (HDE.out AO co w1 _ HB3.out O3.out).mono ?_
  rintro e w4 ⟨AX, cx, TF, tf, rfl, hr, hq, hb4⟩
  have IX : Hid (∀ b, ownB AX cx = some b → w3.heap.size ≤ b ∧ b < w4.heap.size) := Lib.hid (fun b e => hr.lt b e)
  have IF : Hid (∀ b, ownB TF tf = some b → w3.heap.size ≤ b ∧ b < w4.heap.size) := Lib.hid (fun b e => hq.lt b e)
  have HZ4 := Lib.hid hb4.size
  have HB4 := Lib.hid (below_then HB3.out.size HB3.out hb4)
  have O4 := Lib.hid (O3.out.below hb4)
  have M4 := Lib.hid (M3.out.below hb4)
  have X4 := Lib.hid (hr)
  have F4 := Lib.hid (hq)
  clear hb4 HB3 O3 M3 hr hq
  go_wp2_with fail
  refine (HDE.out AO co w1 _ HB4.out O4.out).mono ?_
  rintro e w5 ⟨AY, cy, TG, tg, rfl, hr, hq, hb5⟩
  have IY : Hid (∀ b, ownB AY cy = some b → w4.heap.size ≤ b ∧ b < w5.heap.size) := Lib.hid (fun b e => hr.lt b e)
  have IG : Hid (∀ b, ownB TG tg = some b → w4.heap.size ≤ b ∧ b < w5.heap.size) := Lib.hid (fun b e => hq.lt b e)
  have HZ5 := Lib.hid hb5.size
  have HB5 := Lib.hid (below_then HB4.out.size HB4.out hb5)
  have O5 := Lib.hid (O4.out.below hb5)
  have M5 := Lib.hid (M4.out.below hb5)
  have X5 := Lib.hid (X4.out.below hb5)
  have F5 := Lib.hid (F4.out.below hb5)
  have Y5 := Lib.hid (hr)
  have G5 := Lib.hid (hq)
  clear hb5 HB4 O4 M4 X4 F4 hr hq HDE
  go_wp2_with fail
  refine (HEN.out AM cm _ HB5.out M5.out.2.1 M5.out.rd).mono ?_
  rintro e w6 ⟨AP, cp, rfl, hr, hb6⟩
  have IP : Hid (∀ b, ownB AP cp = some b → w5.heap.size ≤ b ∧ b < w6.heap.size) := Lib.hid (fun b e => hr.lt b e)
  have HZ6 := Lib.hid hb6.size
  have HB6 := Lib.hid (below_then HB5.out.size HB5.out hb6)
  have O6 := Lib.hid (O5.out.below hb6)
  have M6 := Lib.hid (M5.out.below hb6)
  have X6 := Lib.hid (X5.out.below hb6)
  have F6 := Lib.hid (F5.out.below hb6)
  have Y6 := Lib.hid (Y5.out.below hb6)
  have G6 := Lib.hid (G5.out.below hb6)
  have PP6 := Lib.hid (hr)
  clear hb6 HB5 O5 M5 X5 F5 Y5 G5 hr
  go_wp2_with fail
  refine (HEN.out AM cm _ HB6.out M6.out.2.1 M6.out.rd).mono ?_
  rintro e w7 ⟨AQ, cq, rfl, hr, hb7⟩
  have IQ : Hid (∀ b, ownB AQ cq = some b → w6.heap.size ≤ b ∧ b < w7.heap.size) := Lib.hid (fun b e => hr.lt b e)
  have HZ7 := Lib.hid hb7.size
  have HB7 := Lib.hid (below_then HB6.out.size HB6.out hb7)
  have O7 := Lib.hid (O6.out.below hb7)
  have M7 := Lib.hid (M6.out.below hb7)
  have X7 := Lib.hid (X6.out.below hb7)
  have F7 := Lib.hid (F6.out.below hb7)
  have Y7 := Lib.hid (Y6.out.below hb7)
  have G7 := Lib.hid (G6.out.below hb7)
  have PP7 := Lib.hid (PP6.out.below hb7)
  have QQ7 := Lib.hid (hr)
  clear hb7 HB6 O6 M6 X6 F6 Y6 G6 PP6 hr HEN
  go_wp2_with fail
  refine (HRD.out _ HB7.out).mono ?_
  rintro e w8 ⟨AC, cc, TH, th, rfl, hr, hq, hb8⟩
  have HZ8 := Lib.hid hb8.size
  have HB8 := Lib.hid (below_then HB7.out.size HB7.out hb8)
  have O8 := Lib.hid (O7.out.below hb8)
  have M8 := Lib.hid (M7.out.below hb8)
  have X8 := Lib.hid (X7.out.below hb8)
  have F8 := Lib.hid (F7.out.below hb8)
  have Y8 := Lib.hid (Y7.out.below hb8)
  have G8 := Lib.hid (G7.out.below hb8)
  have PP8 := Lib.hid (PP7.out.below hb8)
  have QQ8 := Lib.hid (QQ7.out.below hb8)
  have C8 := Lib.hid (hr.rd)
  have H8 := Lib.hid (hq)
  clear hb8 HB7 O7 M7 X7 F7 Y7 G7 PP7 QQ7 hr hq HRD
  go_wp2_with fail
  refine (HRE.out _ HB8.out).mono ?_
  rintro e w9 ⟨AW, cw, rfl, hr, hb9⟩
  have HZ9 := Lib.hid hb9.size
  have HB9 := Lib.hid (below_then HB8.out.size HB8.out hb9)
  have O9 := Lib.hid (O8.out.below hb9)
  have M9 := Lib.hid (M8.out.below hb9)
  have X9 := Lib.hid (X8.out.below hb9)
  have F9 := Lib.hid (F8.out.below hb9)
  have Y9 := Lib.hid (Y8.out.below hb9)
  have G9 := Lib.hid (G8.out.below hb9)
  have PP9 := Lib.hid (PP8.out.below hb9)
  have QQ9 := Lib.hid (QQ8.out.below hb9)
  have C9 := Lib.hid (C8.out.below hb9)
  have H9 := Lib.hid (H8.out.below hb9)
  have WW9 := Lib.hid (hr.rd)
  clear hb9 HB8 O8 M8 X8 F8 Y8 G8 PP8 QQ8 C8 H8 hr HRE
  go_wp2_with fail
  refine (sameBC AX AC d.length cx cc d w9 (by omega) rfl X9.out.rd C9.out).mono ?_
  rintro e w10 ⟨rfl, hb10⟩
  have HZ10 := Lib.hid hb10.size
  have HB10 := Lib.hid (below_then HB9.out.size HB9.out hb10)
  have O10 := Lib.hid (O9.out.below hb10)
  have M10 := Lib.hid (M9.out.below hb10)
  have X10 := Lib.hid (X9.out.below hb10)
  have F10 := Lib.hid (F9.out.below hb10)
  have Y10 := Lib.hid (Y9.out.below hb10)
  have G10 := Lib.hid (G9.out.below hb10)
  have PP10 := Lib.hid (PP9.out.below hb10)
  have QQ10 := Lib.hid (QQ9.out.below hb10)
  have C10 := Lib.hid (C9.out.below hb10)
  have H10 := Lib.hid (H9.out.below hb10)
  have WW10 := Lib.hid (WW9.out.below hb10)
  clear hb10 HB9 O9 M9 X9 F9 Y9 G9 PP9 QQ9 C9 H9 WW9
  go_wp2_with fail
  refine (sameBC AY AC d.length cy cc d w10 (by omega) rfl Y10.out.rd C10.out).mono ?_
  rintro e w11 ⟨rfl, hb11⟩
  have HZ11 := Lib.hid hb11.size
  have HB11 := Lib.hid (below_then HB10.out.size HB10.out hb11)
  have O11 := Lib.hid (O10.out.below hb11)
  have M11 := Lib.hid (M10.out.below hb11)
  have X11 := Lib.hid (X10.out.below hb11)
  have F11 := Lib.hid (F10.out.below hb11)
  have Y11 := Lib.hid (Y10.out.below hb11)
  have G11 := Lib.hid (G10.out.below hb11)
  have PP11 := Lib.hid (PP10.out.below hb11)
  have QQ11 := Lib.hid (QQ10.out.below hb11)
  have H11 := Lib.hid (H10.out.below hb11)
  have WW11 := Lib.hid (WW10.out.below hb11)
  clear hb11 HB10 O10 M10 X10 F10 Y10 G10 PP10 QQ10 C10 H10 WW10
  go_wp2_with fail
  refine (sameFC TF TH fs.length tf th fs w11 (by omega) rfl F11.out.rd H11.out.rd).mono ?_
  rintro e w12 ⟨rfl, hb12⟩
  have HZ12 := Lib.hid hb12.size
  have HB12 := Lib.hid (below_then HB11.out.size HB11.out hb12)
  have O12 := Lib.hid (O11.out.below hb12)
  have M12 := Lib.hid (M11.out.below hb12)
  have X12 := Lib.hid (X11.out.below hb12)
  have F12 := Lib.hid (F11.out.below hb12)
  have Y12 := Lib.hid (Y11.out.below hb12)
  have G12 := Lib.hid (G11.out.below hb12)
  have PP12 := Lib.hid (PP11.out.below hb12)
  have QQ12 := Lib.hid (QQ11.out.below hb12)
  have H12 := Lib.hid (H11.out.below hb12)
  have WW12 := Lib.hid (WW11.out.below hb12)
  clear hb12 HB11 O11 M11 X11 F11 Y11 G11 PP11 QQ11 H11 WW11
  go_wp2_with fail
  refine (sameBC AP AW Q.length cp cw Q w12 (by omega) rfl PP12.out.rd WW12.out).mono ?_
  rintro e w13 ⟨rfl, hb13⟩
  have HZ13 := Lib.hid hb13.size
  have HB13 := Lib.hid (below_then HB12.out.size HB12.out hb13)
  have O13 := Lib.hid (O12.out.below hb13)
  have M13 := Lib.hid (M12.out.below hb13)
  have X13 := Lib.hid (X12.out.below hb13)
  have F13 := Lib.hid (F12.out.below hb13)
  have Y13 := Lib.hid (Y12.out.below hb13)
  have G13 := Lib.hid (G12.out.below hb13)
  have PP13 := Lib.hid (PP12.out.below hb13)
  have QQ13 := Lib.hid (QQ12.out.below hb13)
  have H13 := Lib.hid (H12.out.below hb13)
  have WW13 := Lib.hid (WW12.out.below hb13)
  clear hb13 HB12 O12 M12 X12 F12 Y12 G12 PP12 QQ12 H12 WW12
  go_wp2_with fail
  refine (sameBC AQ AW Q.length cq cw Q w13 (by omega) rfl QQ13.out.rd WW13.out).mono ?_
  rintro e w14 ⟨rfl, hb14⟩
  have HZ14 := Lib.hid hb14.size
  have HB14 := Lib.hid (below_then HB13.out.size HB13.out hb14)
  have O14 := Lib.hid (O13.out.below hb14)
  have M14 := Lib.hid (M13.out.below hb14)
  have X14 := Lib.hid (X13.out.below hb14)
  have F14 := Lib.hid (F13.out.below hb14)
  have Y14 := Lib.hid (Y13.out.below hb14)
  have G14 := Lib.hid (G13.out.below hb14)
  have PP14 := Lib.hid (PP13.out.below hb14)
  have QQ14 := Lib.hid (QQ13.out.below hb14)
  have H14 := Lib.hid (H13.out.below hb14)
  clear hb14 HB13 O13 M13 X13 F13 Y13 G13 PP13 QQ13 H13 WW13
  -- the marks
  go_wp2_with fail
  refine (marked_any w3.heap.size TF tf fs _ (by omega) F14.out (by have hz2 := HZ2.out; have hz3 := HZ3.out; have hz4 := HZ4.out; have hz5 := HZ5.out; have hz6 := HZ6.out; have hz7 := HZ7.out; have hz8 := HZ8.out; have hz9 := HZ9.out; have hz10 := HZ10.out; have hz11 := HZ11.out; have hz12 := HZ12.out; have hz13 := HZ13.out; have hz14 := HZ14.out; omega)).mono ?_
  rintro e w15 ⟨rfl, hg15⟩
  have HZ15 := Lib.hid hg15.size
  have HB15 := Lib.hid (below_after HB14.out hg15 HB14.out.size (fun b e => by have h1 := IF.out b e; have h2 := HBZ.out; have hz2 := HZ2.out; have hz3 := HZ3.out; have hz4 := HZ4.out; have hz5 := HZ5.out; have hz6 := HZ6.out; have hz7 := HZ7.out; have hz8 := HZ8.out; have hz9 := HZ9.out; have hz10 := HZ10.out; have hz11 := HZ11.out; have hz12 := HZ12.out; have hz13 := HZ13.out; have hz14 := HZ14.out; omega))
  have O15 := Lib.hid (O14.out.kept hg15 (fun b e e2 => by have h1 := IF.out b e2; have h2 := IO.out b e; have hz2 := HZ2.out; have hz3 := HZ3.out; have hz4 := HZ4.out; have hz5 := HZ5.out; have hz6 := HZ6.out; have hz7 := HZ7.out; have hz8 := HZ8.out; have hz9 := HZ9.out; have hz10 := HZ10.out; have hz11 := HZ11.out; have hz12 := HZ12.out; have hz13 := HZ13.out; have hz14 := HZ14.out; omega))
  have M15 := Lib.hid (M14.out.kept hg15 (fun b e e2 => by have h1 := IF.out b e2; have h2 := IM.out b e; have hz2 := HZ2.out; have hz3 := HZ3.out; have hz4 := HZ4.out; have hz5 := HZ5.out; have hz6 := HZ6.out; have hz7 := HZ7.out; have hz8 := HZ8.out; have hz9 := HZ9.out; have hz10 := HZ10.out; have hz11 := HZ11.out; have hz12 := HZ12.out; have hz13 := HZ13.out; have hz14 := HZ14.out; omega))
  have X15 := Lib.hid (X14.out.kept hg15 (fun b e e2 => X14.out.apartT F14.out (by decide) b e e2))
  have Y15 := Lib.hid (Y14.out.after hg15 (fun b e => by have h1 := IF.out b e; have hz2 := HZ2.out; have hz3 := HZ3.out; have hz4 := HZ4.out; have hz5 := HZ5.out; have hz6 := HZ6.out; have hz7 := HZ7.out; have hz8 := HZ8.out; have hz9 := HZ9.out; have hz10 := HZ10.out; have hz11 := HZ11.out; have hz12 := HZ12.out; have hz13 := HZ13.out; have hz14 := HZ14.out; omega))
  have G15 := Lib.hid (G14.out.after hg15 (fun b e => by have h1 := IF.out b e; have hz2 := HZ2.out; have hz3 := HZ3.out; have hz4 := HZ4.out; have hz5 := HZ5.out; have hz6 := HZ6.out; have hz7 := HZ7.out; have hz8 := HZ8.out; have hz9 := HZ9.out; have hz10 := HZ10.out; have hz11 := HZ11.out; have hz12 := HZ12.out; have hz13 := HZ13.out; have hz14 := HZ14.out; omega))
  have PP15 := Lib.hid (PP14.out.after hg15 (fun b e => by have h1 := IF.out b e; have hz2 := HZ2.out; have hz3 := HZ3.out; have hz4 := HZ4.out; have hz5 := HZ5.out; have hz6 := HZ6.out; have hz7 := HZ7.out; have hz8 := HZ8.out; have hz9 := HZ9.out; have hz10 := HZ10.out; have hz11 := HZ11.out; have hz12 := HZ12.out; have hz13 := HZ13.out; have hz14 := HZ14.out; omega))
  have QQ15 := Lib.hid (QQ14.out.after hg15 (fun b e => by have h1 := IF.out b e; have hz2 := HZ2.out; have hz3 := HZ3.out; have hz4 := HZ4.out; have hz5 := HZ5.out; have hz6 := HZ6.out; have hz7 := HZ7.out; have hz8 := HZ8.out; have hz9 := HZ9.out; have hz10 := HZ10.out; have hz11 := HZ11.out; have hz12 := HZ12.out; have hz13 := HZ13.out; have hz14 := HZ14.out; omega))
  have H15 := Lib.hid (H14.out.after hg15 (fun b e => by have h1 := IF.out b e; have hz2 := HZ2.out; have hz3 := HZ3.out; have hz4 := HZ4.out; have hz5 := HZ5.out; have hz6 := HZ6.out; have hz7 := HZ7.out; have hz8 := HZ8.out; have hz9 := HZ9.out; have hz10 := HZ10.out; have hz11 := HZ11.out; have hz12 := HZ12.out; have hz13 := HZ13.out; have hz14 := HZ14.out; omega))
  clear hg15 HB14 O14 M14 X14 Y14 G14 PP14 QQ14 H14 F14
  go_wp2_with fail
  refine (sameFC TG TH fs.length tg th fs w15 (by omega) rfl G15.out.rd H15.out.rd).mono ?_
  rintro e w16 ⟨rfl, hb16⟩
  have HZ16 := Lib.hid hb16.size
  have HB16 := Lib.hid (below_then HB15.out.size HB15.out hb16)
  have O16 := Lib.hid (O15.out.below hb16)
  have M16 := Lib.hid (M15.out.below hb16)
  have X16 := Lib.hid (X15.out.below hb16)
  have Y16 := Lib.hid (Y15.out.below hb16)
  have PP16 := Lib.hid (PP15.out.below hb16)
  have QQ16 := Lib.hid (QQ15.out.below hb16)
  clear hb16 HB15 O15 M15 X15 Y15 G15 PP15 QQ15 H15
  have HB16' := Lib.hid (HB16.out.alloc HB16.out.size (.cells #[.slice AX d.length cx, .slice AY d.length cy, .slice AP Q.length cp, .slice AQ Q.length cq, .slice AO bs.length co, .slice AM ds.length cm] 22))
  have HH := Lib.hid (Blk.new w16 #[.slice AX d.length cx, .slice AY d.length cy, .slice AP Q.length cp, .slice AQ Q.length cq, .slice AO bs.length co, .slice AM ds.length cm] 22)
  have XA := Lib.hid ((X16.out.crow).alloc (.cells #[.slice AX d.length cx, .slice AY d.length cy, .slice AP Q.length cp, .slice AQ Q.length cq, .slice AO bs.length co, .slice AM ds.length cm] 22))
  have YA := Lib.hid ((Y16.out.crow).alloc (.cells #[.slice AX d.length cx, .slice AY d.length cy, .slice AP Q.length cp, .slice AQ Q.length cq, .slice AO bs.length co, .slice AM ds.length cm] 22))
  have PPA := Lib.hid ((PP16.out).alloc (.cells #[.slice AX d.length cx, .slice AY d.length cy, .slice AP Q.length cp, .slice AQ Q.length cq, .slice AO bs.length co, .slice AM ds.length cm] 22))
  have QQA := Lib.hid ((QQ16.out).alloc (.cells #[.slice AX d.length cx, .slice AY d.length cy, .slice AP Q.length cp, .slice AQ Q.length cq, .slice AO bs.length co, .slice AM ds.length cm] 22))
  have OA := Lib.hid ((O16.out).alloc (.cells #[.slice AX d.length cx, .slice AY d.length cy, .slice AP Q.length cp, .slice AQ Q.length cq, .slice AO bs.length co, .slice AM ds.length cm] 22))
  have MA := Lib.hid ((M16.out).alloc (.cells #[.slice AX d.length cx, .slice AY d.length cy, .slice AP Q.length cp, .slice AQ Q.length cq, .slice AO bs.length co, .slice AM ds.length cm] 22))
  clear HB16 O16 M16 X16 Y16 PP16 QQ16
  go_wp2_with fail
  have hzl := HH.out.lt
  have HZL := Lib.hid (show w16.heap.size ≤ w16.heap.size from Nat.le_refl _)
  generalize w16.alloc (.cells #[.slice AX d.length cx, .slice AY d.length cy, .slice AP Q.length cp, .slice AQ Q.length cq, .slice AO bs.length co, .slice AM ds.length cm] 22) = v0 at *
  have hL : LSt v0 w.heap.size 6 (six AX AY AP AQ AO AM) (six d.length d.length Q.length Q.length bs.length ds.length) (six cx cy cp cq co cm) w16.heap.size 0 (six d d Q Q bs ds) v0 := by
    have hz2 := HZ2.out; have hz3 := HZ3.out; have hz4 := HZ4.out; have hz5 := HZ5.out; have hz6 := HZ6.out; have hz7 := HZ7.out; have hz8 := HZ8.out; have hz9 := HZ9.out; have hz10 := HZ10.out; have hz11 := HZ11.out; have hz12 := HZ12.out; have hz13 := HZ13.out; have hz14 := HZ14.out; have hz15 := HZ15.out; have hz16 := HZ16.out;
    have hz1 := HBZ.out
    refine ⟨fun i hi => ?_, fun i hi => ?_, Below.refl _ _⟩
    · match i, hi with
      | 0, _ => exact XA.out.mono (by omega)
      | 1, _ => exact YA.out.mono (by omega)
      | 2, _ => exact PPA.out.mono (by omega)
      | 3, _ => exact QQA.out.mono (by omega)
      | 4, _ => exact OA.out.mono (by omega)
      | 5, _ => exact MA.out.mono (by omega)
    · match i, hi with
      | 0, _ => exact HH.out.cell 0 rfl
      | 1, _ => exact HH.out.cell 1 rfl
      | 2, _ => exact HH.out.cell 2 rfl
      | 3, _ => exact HH.out.cell 3 rfl
      | 4, _ => exact HH.out.cell 4 rfl
      | 5, _ => exact HH.out.cell 5 rfl
  have hD : LDis 6 (six AX AY AP AQ AO AM) (six cx cy cp cq co cm) w16.heap.size := by
    have hz2 := HZ2.out; have hz3 := HZ3.out; have hz4 := HZ4.out; have hz5 := HZ5.out; have hz6 := HZ6.out; have hz7 := HZ7.out; have hz8 := HZ8.out; have hz9 := HZ9.out; have hz10 := HZ10.out; have hz11 := HZ11.out; have hz12 := HZ12.out; have hz13 := HZ13.out; have hz14 := HZ14.out; have hz15 := HZ15.out; have hz16 := HZ16.out;
    refine LDis.of_iv (u := v0) (n := (six d.length d.length Q.length Q.length bs.length ds.length)) (f := (six d d Q Q bs ds)) (six w3.heap.size w4.heap.size w5.heap.size w6.heap.size w1.heap.size w2.heap.size) (six w4.heap.size w5.heap.size w6.heap.size w7.heap.size w2.heap.size w3.heap.size) (fun i hi => ?_) (fun i hi b e => ?_) (fun i j hi hj hne => ?_) (fun i hi => ?_)
    · match i, hi with
      | 0, _ => exact XA.out
      | 1, _ => exact YA.out
      | 2, _ => exact PPA.out
      | 3, _ => exact QQA.out
      | 4, _ => exact OA.out
      | 5, _ => exact MA.out
    · match i, hi with
      | 0, _ => exact (IX.out b e).2
      | 1, _ => exact (IY.out b e).2
      | 2, _ => exact (IP.out b e).2
      | 3, _ => exact (IQ.out b e).2
      | 4, _ => exact (IO.out b e).2
      | 5, _ => exact (IM.out b e).2
    · match i, hi, j, hj with
      | 0, _, 0, _ => exact absurd rfl hne
      | 0, _, 1, _ => exact .inl (by show w4.heap.size ≤ w4.heap.size; omega)
      | 0, _, 2, _ => exact .inl (by show w4.heap.size ≤ w5.heap.size; omega)
      | 0, _, 3, _ => exact .inl (by show w4.heap.size ≤ w6.heap.size; omega)
      | 0, _, 4, _ => exact .inr (by show w2.heap.size ≤ w3.heap.size; omega)
      | 0, _, 5, _ => exact .inr (by show w3.heap.size ≤ w3.heap.size; omega)
      | 1, _, 0, _ => exact .inr (by show w4.heap.size ≤ w4.heap.size; omega)
      | 1, _, 1, _ => exact absurd rfl hne
      | 1, _, 2, _ => exact .inl (by show w5.heap.size ≤ w5.heap.size; omega)
      | 1, _, 3, _ => exact .inl (by show w5.heap.size ≤ w6.heap.size; omega)
      | 1, _, 4, _ => exact .inr (by show w2.heap.size ≤ w4.heap.size; omega)
      | 1, _, 5, _ => exact .inr (by show w3.heap.size ≤ w4.heap.size; omega)
      | 2, _, 0, _ => exact .inr (by show w4.heap.size ≤ w5.heap.size; omega)
      | 2, _, 1, _ => exact .inr (by show w5.heap.size ≤ w5.heap.size; omega)
      | 2, _, 2, _ => exact absurd rfl hne
      | 2, _, 3, _ => exact .inl (by show w6.heap.size ≤ w6.heap.size; omega)
      | 2, _, 4, _ => exact .inr (by show w2.heap.size ≤ w5.heap.size; omega)
      | 2, _, 5, _ => exact .inr (by show w3.heap.size ≤ w5.heap.size; omega)
      | 3, _, 0, _ => exact .inr (by show w4.heap.size ≤ w6.heap.size; omega)
      | 3, _, 1, _ => exact .inr (by show w5.heap.size ≤ w6.heap.size; omega)
      | 3, _, 2, _ => exact .inr (by show w6.heap.size ≤ w6.heap.size; omega)
      | 3, _, 3, _ => exact absurd rfl hne
      | 3, _, 4, _ => exact .inr (by show w2.heap.size ≤ w6.heap.size; omega)
      | 3, _, 5, _ => exact .inr (by show w3.heap.size ≤ w6.heap.size; omega)
      | 4, _, 0, _ => exact .inl (by show w2.heap.size ≤ w3.heap.size; omega)
      | 4, _, 1, _ => exact .inl (by show w2.heap.size ≤ w4.heap.size; omega)
      | 4, _, 2, _ => exact .inl (by show w2.heap.size ≤ w5.heap.size; omega)
      | 4, _, 3, _ => exact .inl (by show w2.heap.size ≤ w6.heap.size; omega)
      | 4, _, 4, _ => exact absurd rfl hne
      | 4, _, 5, _ => exact .inl (by show w2.heap.size ≤ w2.heap.size; omega)
      | 5, _, 0, _ => exact .inl (by show w3.heap.size ≤ w3.heap.size; omega)
      | 5, _, 1, _ => exact .inl (by show w3.heap.size ≤ w4.heap.size; omega)
      | 5, _, 2, _ => exact .inl (by show w3.heap.size ≤ w5.heap.size; omega)
      | 5, _, 3, _ => exact .inl (by show w3.heap.size ≤ w6.heap.size; omega)
      | 5, _, 4, _ => exact .inr (by show w2.heap.size ≤ w2.heap.size; omega)
      | 5, _, 5, _ => exact absurd rfl hne
    · match i, hi with
      | 0, _ => show w4.heap.size ≤ w16.heap.size; omega
      | 1, _ => show w5.heap.size ≤ w16.heap.size; omega
      | 2, _ => show w6.heap.size ≤ w16.heap.size; omega
      | 3, _ => show w7.heap.size ≤ w16.heap.size; omega
      | 4, _ => show w2.heap.size ≤ w16.heap.size; omega
      | 5, _ => show w3.heap.size ≤ w16.heap.size; omega
  refine (apart_any w.heap.size 6 (six AX AY AP AQ AO AM) (six d.length d.length Q.length Q.length bs.length ds.length) (six cx cy cp cq co cm) w16.heap.size 0 6 (six d d Q Q bs ds) v0 (by omega) (fun i hi => ?_) hD hL HB16'.out.size).mono ?_
  · match i, hi with
    | 0, _ => show d.length ≤ _; omega
    | 1, _ => show d.length ≤ _; omega
    | 2, _ => show Q.length ≤ _; omega
    | 3, _ => show Q.length ≤ _; omega
    | 4, _ => show bs.length ≤ _; omega
    | 5, _ => show ds.length ≤ _; omega
  rintro e v1 ⟨rfl, hb⟩
  have HB := Lib.hid (HB16'.out.trans hb)
  clear hb HB16' hL hD
  go_wp2
  go_ret
  exact ⟨rfl, HB.out⟩
end Go.Proofs.YtnmldbcgpfglkaaGreatDoor
