/- The walk of the law ObjectRound (printed by gen/olaw.py). Conditions: what it reads is of bulk at most 2^20; the library's tables. -/
import Derived.Test.YtcdbppoohlabnaaGreatDoorObjB
import Derived.Test.YtcdbppoohlabnaaGreatDoorObjA
import Derived.Test.YtcdbppoohlabnaaGreatDoorObjLaw
import Derived.Deep.DeepCutAuto
namespace Go.Proofs.YtcdbppoohlabnaaGreatDoor
open Go.RowKit

set_option maxRecDepth 100000 in
set_option maxHeartbeats 4000000 in
theorem objectRound_any (k v : ByteArray) (s : Int) (r : ByteArray) (m : Int) (A : Option Addr) (cf : Nat) (fs : List FD) (X : Option Addr) (cb : Nat) (body : List UInt8) (asked got : Int) (B0 : Option Addr) (n c : Nat) (bs : List UInt8) (w : World) (_hk : k.size ≤ 1048576) (_hv : v.size ≤ 1048576) (hr : r.size ≤ 1048576) (hf : F.bulk fs ≤ 1048576) (hbn : body.length ≤ 1048576) (hx : Rd w A fs.length 2 (fcells fs)) (hX : Rd w X body.length 1 (bcells body))
    (hnm : bs.length ≤ 1048576) (hl : bs.length = n) (hy : Rd w B0 n 1 (bcells bs)) (ht : LibOk w) (he : ErrOk w) (htab : TabOk w) :
    Calls Tryz.prog 4 #[.agg #[.string k, .string v, .int .i64 s, .string r, .int .i64 m, .slice A fs.length cf, .slice X body.length cb, .int .i64 asked, .int .i64 got], .slice B0 n c] w (RetB w true) := by
  subst hl
  have hfl : fs.length ≤ 1048576 := by have := F.len_le_bulk fs; omega
  have HA := Lib.hid (fun (u : World) (hb : Below w.heap.size w u) => objAlive_any u (htab.below hb))
  have HC := Lib.hid (fun (u : World) (hb : Below w.heap.size w u) => copyEntry_any k v s r m A cf fs X cb body asked got u (by omega) (by omega) (hx.below hb) (hX.below hb))
  have HE := Lib.hid (fun (A1 : Option Addr) (c1 : Nat) (X1 : Option Addr) (d1 : Nat) (u : World) (hb : Below w.heap.size w u) (h1 : Rd u A1 fs.length 2 (fcells fs)) (h2 : Rd u X1 body.length 1 (bcells body)) => objEncode_any k v s r m A1 c1 fs X1 d1 body asked got u (by omega) (by omega) h1 h2 (htab.below hb))
  have HD := Lib.hid (fun (l : List UInt8) (A1 : Option Addr) (c1 : Nat) (u : World) (hb : Below w.heap.size w u) (hl : l.length ≤ 1073741824) (hc : l.length ≤ c1) (h1 : Rd u A1 l.length 1 (bcells l)) => odecode_any A1 c1 l u hl hc h1 (ht.below hb) (he.below hb) (htab.below hb))
  have HK0 := Lib.hid (Blk.new w #[.string k, .string v, .int .i64 s, .string r, .int .i64 m, .slice A fs.length cf, .slice X body.length cb, .int .i64 asked, .int .i64 got] 29)
  have HB0 := Lib.hid ((Below.refl w.heap.size w).alloc (Nat.le_refl _) (.cells #[.string k, .string v, .int .i64 s, .string r, .int .i64 m, .slice A fs.length cf, .slice X body.length cb, .int .i64 asked, .int .i64 got] 29))
  have hpb := objB_len k v s r m fs body asked got
  have hways := O.enc_ways k v s r m fs body asked got
  have HS := Lib.hid (fun (A7 : Option Addr) (c7 : Nat) (X7 : Option Addr) (d7 : Nat) (u : World) (hb : Below w.heap.size w u) (h1 : Rd u A7 fs.length 2 (fcells fs)) (h2 : Rd u X7 body.length 1 (bcells body)) => sameEntry_any k v s r m A7 c7 fs X7 d7 body asked got A cf X cb u (by omega) (by omega) h1 (hx.below hb) h2 (hX.below hb))
  have HCB := Lib.hid (fun (u : World) (hu : Below w.heap.size w u) => copyBytes_any B0 c bs u (by omega) (hy.below hu))
  have HCP := Lib.hid (fun (l : List UInt8) (A1 : Option Addr) (c1 : Nat) (u : World) (hl : l.length ≤ 400000) (h1 : Rd u A1 l.length 1 (bcells l)) => copyBytes_any A1 c1 l u (by omega) h1)
  have HY := Lib.hid (fun (u : World) (hu : Below w.heap.size w u) => hy.below hu)
  have HT := Lib.hid (fun (u : World) (hu : Below w.heap.size w u) => htab.below hu)
  generalize objB k v s r m fs body asked got = PB at *
  generalize objE k v s r m fs body.length asked got = PE at *
  clear hx hX ht hf hr he htab hy
  go_enter Tryz.func4, Tryz.ntmps4
  go_wp2_with fail
  generalize w.alloc (.cells #[.string k, .string v, .int .i64 s, .string r, .int .i64 m, .slice A fs.length cf, .slice X body.length cb, .int .i64 asked, .int .i64 got] 29) = w0 at *
  refine (HA.out _ HB0.out).mono ?_
  rintro e w1 ⟨rfl, hb1⟩
  have HK1 := Lib.hid (HK0.out.below hb1)
  have HB1 := Lib.hid (below_then HB0.out.size HB0.out hb1)
  clear hb1 HK0 HB0 HA
  obtain ⟨x0, x1, x2, x3, x4, x5, x6, x7, x8⟩ := HK1.out.cells9
  go_wp2_with fail
  clear x0 x1 x2 x3 x4 x5 x6 x7 x8
  refine (HC.out _ HB1.out).mono ?_
  rintro e w2 ⟨A1, c1, X1, d1, rfl, ha2, hx2, hb2⟩
  have HK2 := Lib.hid (HK1.out.below hb2)
  have HB2 := Lib.hid (below_then HB1.out.size HB1.out hb2)
  have HA2 := Lib.hid ha2
  have HX2 := Lib.hid hx2
  clear hb2 ha2 hx2 HK1 HB1 HC
  go_wp2_with fail
  refine (HE.out A1 c1 X1 d1 _ HB2.out HA2.out HX2.out).mono ?_
  rintro e w3 ⟨A3, c3, rfl, hr3, hb3⟩
  have HK3 := Lib.hid (HK2.out.below hb3)
  have HB3 := Lib.hid (below_then HB2.out.size HB2.out hb3)
  have HR3 := Lib.hid hr3
  clear hb3 hr3 HK2 HB2 HA2 HX2
  go_upto_if 20 with fail
  go_cut [5, 6] (fun s5 s6 wx => Below w.heap.size w wx)
  case first =>
    clear HCB HY HT
    rcases hways with ⟨rfl, hdec⟩ | ⟨rfl, rfl⟩
    · have HDEC := Lib.hid hdec
      clear hdec HE
      go_wp2_with fail
      refine (HCP.out PB A3 c3 _ hpb HR3.out.rd).mono ?_
      rintro e w4 ⟨A4, c4, rfl, hr4, hb4⟩
      have HK4 := Lib.hid (HK3.out.below hb4)
      have HB4 := Lib.hid (below_then HB3.out.size HB3.out hb4)
      have HR4 := Lib.hid hr4
      clear hb4 hr4 HK3 HB3 HR3 HCP
      go_wp2_with fail
      refine (HD.out PB A4 c4 _ HB4.out (by omega) HR4.out.2.1 HR4.out.rd).mono ?_
      rintro e w5 (⟨E, A7, c7, X7, d7, hde, rfl, hr5, hx5, hb5⟩ | ⟨hde, rfl, hb5⟩)
      · rw [HDEC.out] at hde
        injection hde with hde
        subst hde
        have HK6 := Lib.hid ((HK4.out.below hb5).alloc (.cells #[.string k, .string v, .int .i64 s, .string r, .int .i64 m, .slice A7 fs.length c7, .slice X7 body.length d7, .int .i64 asked, .int .i64 got] 29))
        have HB6 := Lib.hid ((below_then HB4.out.size HB4.out hb5).alloc (by have := HB4.out.size; have := hb5.size; omega) (.cells #[.string k, .string v, .int .i64 s, .string r, .int .i64 m, .slice A7 fs.length c7, .slice X7 body.length d7, .int .i64 asked, .int .i64 got] 29))
        have HO6 := Lib.hid (Blk.new w5 #[.string k, .string v, .int .i64 s, .string r, .int .i64 m, .slice A7 fs.length c7, .slice X7 body.length d7, .int .i64 asked, .int .i64 got] 29)
        have HF6 := Lib.hid (hr5.rd.alloc (.cells #[.string k, .string v, .int .i64 s, .string r, .int .i64 m, .slice A7 fs.length c7, .slice X7 body.length d7, .int .i64 asked, .int .i64 got] 29))
        have HX6 := Lib.hid (hx5.rd.alloc (.cells #[.string k, .string v, .int .i64 s, .string r, .int .i64 m, .slice A7 fs.length c7, .slice X7 body.length d7, .int .i64 asked, .int .i64 got] 29))
        clear hb5 hr5 hx5 HK4 HB4 HR4 HD
        go_upto_region 6 with fail
        generalize w5.alloc (.cells #[.string k, .string v, .int .i64 s, .string r, .int .i64 m, .slice A7 fs.length c7, .slice X7 body.length d7, .int .i64 asked, .int .i64 got] 29) = w6 at *
        generalize w5.heap.size = b7 at *
        obtain ⟨x0, x1, x2, x3, x4, x5, x6, x7, x8⟩ := HK6.out.cells9
        obtain ⟨y0, y1, y2, y3, y4, y5, y6, y7, y8⟩ := HO6.out.cells9
        go_wp2_with fail
        clear x0 x1 x2 x3 x4 x5 x6 x7 x8 y0 y1 y2 y3 y4 y5 y6 y7 y8
        refine (HS.out A7 c7 X7 d7 _ HB6.out HF6.out HX6.out).mono ?_
        rintro e w7 ⟨rfl, hb7⟩
        have HB7 := Lib.hid (below_then HB6.out.size HB6.out hb7)
        clear hb7 HB6 HK6 HO6 HF6 HX6 HS
        go_wp2
        go_meet
        exact HB7.out
      · rw [HDEC.out] at hde
        cases hde
    · clear HE HD HS HCP
      go_wp2
      go_meet
      exact HB3.out
  case rest =>
    clear HB3 HK3 HR3 HS HCP HE
    have HBc := Lib.hid hcut
    clear hcut
    go_wp2_with fail
    refine (HCB.out _ HBc.out).mono ?_
    rintro e w4 ⟨A4, c4, rfl, hr4, hb4⟩
    have HB4 := Lib.hid (below_then HBc.out.size HBc.out hb4)
    have HR4 := Lib.hid hr4
    clear hb4 hr4 HBc HCB
    go_wp2_with fail
    refine (HD.out bs A4 c4 _ HB4.out (by omega) HR4.out.2.1 HR4.out.rd).mono ?_
    clear HD
    rintro e w5 (⟨E, A7, c7, X7, d7, hde, rfl, hr5, hx5, hb5⟩ | ⟨hde, rfl, hb5⟩)
    · have hlens := O.dec_lens hde
      have HDE := Lib.hid (O.dec_enc hde)
      have HB6 := Lib.hid ((below_then HB4.out.size HB4.out hb5).alloc (by have := HB4.out.size; have := hb5.size; omega) (.cells #[.string E.k, .string E.v, .int .i64 E.s, .string E.r, .int .i64 E.m, .slice A7 E.fs.length c7, .slice X7 E.body.length d7, .int .i64 E.asked, .int .i64 E.got] 29))
      have HO6 := Lib.hid (Blk.new w5 #[.string E.k, .string E.v, .int .i64 E.s, .string E.r, .int .i64 E.m, .slice A7 E.fs.length c7, .slice X7 E.body.length d7, .int .i64 E.asked, .int .i64 E.got] 29)
      have HEN := Lib.hid (objEncode_any E.k E.v E.s E.r E.m A7 c7 E.fs X7 d7 E.body E.asked E.got (w5.alloc (.cells #[.string E.k, .string E.v, .int .i64 E.s, .string E.r, .int .i64 E.m, .slice A7 E.fs.length c7, .slice X7 E.body.length d7, .int .i64 E.asked, .int .i64 E.got] 29)) (by omega) (by omega) (hr5.rd.alloc (.cells #[.string E.k, .string E.v, .int .i64 E.s, .string E.r, .int .i64 E.m, .slice A7 E.fs.length c7, .slice X7 E.body.length d7, .int .i64 E.asked, .int .i64 E.got] 29)) (hx5.rd.alloc (.cells #[.string E.k, .string E.v, .int .i64 E.s, .string E.r, .int .i64 E.m, .slice A7 E.fs.length c7, .slice X7 E.body.length d7, .int .i64 E.asked, .int .i64 E.got] 29)) (HT.out _ HB6.out))
      rw [HDE.out.1, HDE.out.2] at HEN
      clear hb5 hr5 hx5 HB4 HR4 hlens HDE hde HT
      go_upto_region 11 with fail
      generalize w5.alloc (.cells #[.string E.k, .string E.v, .int .i64 E.s, .string E.r, .int .i64 E.m, .slice A7 E.fs.length c7, .slice X7 E.body.length d7, .int .i64 E.asked, .int .i64 E.got] 29) = w6 at *
      generalize w5.heap.size = b7 at *
      obtain ⟨y0, y1, y2, y3, y4, y5, y6, y7, y8⟩ := HO6.out.cells9
      go_wp2_with fail
      clear y0 y1 y2 y3 y4 y5 y6 y7 y8 HO6
      refine HEN.out.mono ?_
      rintro e w7 ⟨A9, c9, rfl, hr9, hb9⟩
      have HB9 := Lib.hid (below_then HB6.out.size HB6.out hb9)
      have HR9 := Lib.hid hr9.rd
      have HY9 := Lib.hid (HY.out _ HB9.out)
      clear hb9 hr9 HB6 HEN HY
      go_wp2_with fail
      refine (sameBO A9 B0 bs.length c9 c bs w7 (by omega) rfl HR9.out HY9.out).mono ?_
      rintro e w10 ⟨rfl, hb10⟩
      have HB10 := Lib.hid (below_then HB9.out.size HB9.out hb10)
      clear hb10 HB9 HR9 HY9
      go_wp2
      go_ret
      exact ⟨rfl, HB10.out⟩
    · have HB6 := Lib.hid ((below_then HB4.out.size HB4.out hb5).alloc (by have := HB4.out.size; have := hb5.size; omega) (.cells #[.string ⟨#[]⟩, .string ⟨#[]⟩, .int .i64 0, .string ⟨#[]⟩, .int .i64 0, .slice none 0 0, .slice none 0 0, .int .i64 0, .int .i64 0] 29))
      have HO6 := Lib.hid (Blk.new w5 #[.string ⟨#[]⟩, .string ⟨#[]⟩, .int .i64 0, .string ⟨#[]⟩, .int .i64 0, .slice none 0 0, .slice none 0 0, .int .i64 0, .int .i64 0] 29)
      clear hb5 HB4 HR4 hde HT HY
      go_upto_region 11 with fail
      generalize w5.alloc (.cells #[.string ⟨#[]⟩, .string ⟨#[]⟩, .int .i64 0, .string ⟨#[]⟩, .int .i64 0, .slice none 0 0, .slice none 0 0, .int .i64 0, .int .i64 0] 29) = w6 at *
      generalize w5.heap.size = b7 at *
      obtain ⟨y0, y1, y2, y3, y4, y5, y6, y7, y8⟩ := HO6.out.cells9
      go_wp2
      go_ret
      exact ⟨rfl, HB6.out⟩
end Go.Proofs.YtcdbppoohlabnaaGreatDoor
