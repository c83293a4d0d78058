/- The walk of the law ChunkSizes. Conditions: data, fields and what stands behind of bulk at most 2^20; the one cell of math/bits' table that base 16 reads; the library's two tables of UTF-8; internal/bytealg.MaxLen; strconv's two error variables. -/
import Derived.Test.YtnmldbcgpfglkaaGreatDoorChunkU
import Derived.Test.YtnmldbcgpfglkaaGreatDoorChunkL
namespace Go.Proofs.YtnmldbcgpfglkaaGreatDoor
open Go.RowKit

set_option maxRecDepth 100000 in
set_option maxHeartbeats 8000000 in
theorem chunkSizes_any (A : Option Addr) (n c : Nat) (bs : List UInt8) (p q : Int) (T : Option Addr) (m tc : Nat) (fs : List FD) (w : World) (hnm : bs.length ≤ 1048576) (hl : bs.length = n) (hnc : n ≤ c) (hx : Rd w A n 1 (bcells bs)) (hp0 : -9223372036854775808 ≤ p) (hp1 : p ≤ 9223372036854775807) (hq0 : -9223372036854775808 ≤ q) (hq1 : q ≤ 9223372036854775807) (hfb : F.bulk fs ≤ 1048576) (hfl : fs.length = m) (hy : Rd w T m 2 (fcells fs)) (ht : LibOk w) (he : ErrOk w) (hb : BruOk w) :
    Calls Tryz.prog 6 #[.slice A n c, .int .i64 p, .int .i64 q, .slice T m tc] w (RetB w true) := by
  subst hl
  subst hfl
  have hlb := F.len_le_bulk fs
  have HA := Lib.hid (fun (u : World) (hb : Below w.heap.size w u) => chunkAlive_any u (ht.below hb) (he.below hb))
  have HCB := Lib.hid (fun (u : World) (hu : Below w.heap.size w u) => copyBytes_any A c bs u (by omega) (hx.below hu))
  have HCF := Lib.hid (fun (u : World) (hu : Below w.heap.size w u) => copyFields_any T fs.length tc fs u (by omega) (hy.below hu))
  have HEN := Lib.hid (fun (z : Int) (hz0 : -9223372036854775808 ≤ z) (hz1 : z ≤ 9223372036854775807) (A1 : Option Addr) (c1 : Nat) (T1 : Option Addr) (t1 : Nat) (u : World) (hu : Below w.heap.size w u) (hc : bs.length ≤ c1) (hr : Rd u A1 bs.length 1 (bcells bs)) (hf : Rd u T1 fs.length 2 (fcells fs)) => cencode_any A1 c1 bs z T1 t1 fs u hz0 hz1 (by omega) hc hr (by omega) hf (hb.below hu))
  have HDE := Lib.hid (fun (X : List UInt8) (k1 : Nat) (A1 : Option Addr) (c1 : Nat) (u0 u : World) (hk : k1 ≤ 1073741824) (hu : Below w.heap.size w u) (hr : CRow u u0.heap.size A1 k1 c1 X) => cdecode_any A1 k1 c1 X u hk hr.2.1 hr.nilK hr.spotK hr.rd (ht.below hu) (he.below hu))
  have hel1 := C.encB_len bs p fs
  have hel2 := C.encB_len bs q fs
  have hll := F.lines_len fs
  have HROUND := Lib.hid (fun (z : Int) (h : C.encE bs z fs = 0) => show C.decode (C.encB bs z fs) = ⟨bs, fs, (C.encB bs z fs).length, 0⟩ from by
    have := (C.enc_round h []).1
    rw [List.append_nil] at this
    unfold C.encB
    rw [if_pos h]
    exact this)
  have HR1 := Lib.hid (HROUND.out p)
  have HR2 := Lib.hid (HROUND.out q)
  obtain ⟨Q1, hQ1⟩ : ∃ Q, C.encB bs p fs = Q := ⟨_, rfl⟩
  obtain ⟨E1, hE1⟩ : ∃ E, C.encE bs p fs = E := ⟨_, rfl⟩
  obtain ⟨Q2, hQ2⟩ : ∃ Q, C.encB bs q fs = Q := ⟨_, rfl⟩
  obtain ⟨E2, hE2⟩ : ∃ E, C.encE bs q fs = E := ⟨_, rfl⟩
  rw [hQ1, hE1] at HR1
  rw [hQ2, hE2] at HR2
  have HEQ1 := Lib.hid (And.intro hQ1 hE1)
  have HEQ2 := Lib.hid (And.intro hQ2 hE2)
  have hql1 : Q1.length ≤ 1073741824 := by rw [hQ1] at hel1; omega
  have hql2 : Q2.length ≤ 1073741824 := by rw [hQ2] at hel2; omega
  clear hx hy ht he hb hQ1 hE1 hQ2 hE2 hll hel1 hel2 HROUND
  go_enter Tryz.func6, Tryz.ntmps6
  have HB0 := Lib.hid (Below.refl w.heap.size w)
  go_wp2_with fail
  refine (HA.out _ HB0.out).mono ?_
  rintro e w1 ⟨rfl, hb1⟩
  have HB1 := Lib.hid (below_then HB0.out.size HB0.out hb1)
  clear hb1 HB0 HA
  go_wp2_with fail
  refine (HCB.out _ HB1.out).mono ?_
  rintro e w2 ⟨AD, cd, rfl, hrd, hb2⟩
  have HB2 := Lib.hid (below_then HB1.out.size HB1.out hb2)
  have HD2 := Lib.hid (hrd)
  clear hb2 HB1 hrd
  go_wp2_with fail
  refine (HCF.out _ HB2.out).mono ?_
  rintro e w3 ⟨TF, tf, rfl, hrf, hb3⟩
  have HB3 := Lib.hid (below_then HB2.out.size HB2.out hb3)
  have HD3 := Lib.hid (HD2.out.below hb3)
  have HF3 := Lib.hid (hrf.rd)
  clear hb3 HB2 HD2 hrf
  go_wp2_with fail
  refine (HEN.out p hp0 hp1 AD cd TF tf _ HB3.out HD3.out.2.1 HD3.out.rd HF3.out).mono ?_
  rintro e w4 ⟨AQ, cq, eq, hrq, hb4⟩
  rw [HEQ1.out.1, HEQ1.out.2] at eq
  rw [HEQ1.out.1] at hrq
  subst eq
  have HB4 := Lib.hid (below_then HB3.out.size HB3.out hb4)
  have HQ4 := Lib.hid (hrq)
  clear hb4 HB3 HD3 HF3 hrq HEQ1
  go_wp2_with fail
  refine (HCB.out _ HB4.out).mono ?_
  rintro e w5 ⟨AG, cg, rfl, hrd, hb5⟩
  have HB5 := Lib.hid (below_then HB4.out.size HB4.out hb5)
  have HQ5 := Lib.hid (HQ4.out.below hb5)
  have HD5 := Lib.hid (hrd)
  clear hb5 HB4 HQ4 hrd HCB
  go_wp2_with fail
  refine (HCF.out _ HB5.out).mono ?_
  rintro e w6 ⟨TG, tg, rfl, hrf, hb6⟩
  have HB6 := Lib.hid (below_then HB5.out.size HB5.out hb6)
  have HQ6 := Lib.hid (HQ5.out.below hb6)
  have HD6 := Lib.hid (HD5.out.below hb6)
  have HF6 := Lib.hid (hrf.rd)
  clear hb6 HB5 HQ5 HD5 hrf HCF
  go_wp2_with fail
  refine (HEN.out q hq0 hq1 AG cg TG tg _ HB6.out HD6.out.2.1 HD6.out.rd HF6.out).mono ?_
  rintro e w7 ⟨AP, cp, ep, hrp, hb7⟩
  rw [HEQ2.out.1, HEQ2.out.2] at ep
  rw [HEQ2.out.1] at hrp
  subst ep
  have HB7 := Lib.hid (below_then HB6.out.size HB6.out hb7)
  have HQ7 := Lib.hid (HQ6.out.below hb7)
  have HP7 := Lib.hid (hrp)
  clear hb7 HB6 HQ6 HD6 HF6 hrp HEN HEQ2
  by_cases hE1 : E1 = 0
  · subst hE1
    by_cases hE2 : E2 = 0
    · subst hE2
      have hr1 := HR1.out rfl
      have hr2 := HR2.out rfl
      replace HR1 := Lib.hid hr1
      replace HR2 := Lib.hid hr2
      clear hr1 hr2
      go_wp2_with fail
      refine (HDE.out Q1 Q1.length AQ cq w3 _ hql1 HB7.out HQ7.out).mono ?_
      rintro e w8 ⟨AX, cx, TX, tx, ex, hrx, hfx, hb8⟩
      rw [HR1.out] at ex hrx hfx
      subst ex
      have HB8 := Lib.hid (below_then HB7.out.size HB7.out hb8)
      have HP8 := Lib.hid (HP7.out.below hb8)
      have HX8 := Lib.hid (hrx.rd)
      have HT8 := Lib.hid (hfx.rd)
      clear hb8 HB7 HQ7 HP7 hrx hfx
      go_wp2_with fail
      refine (HDE.out Q2 Q2.length AP cp w6 _ hql2 HB8.out HP8.out).mono ?_
      rintro e w9 ⟨AY, cy, TY, ty, ey, hry, hfy, hb9⟩
      rw [HR2.out] at ey hry hfy
      subst ey
      have HB9 := Lib.hid (below_then HB8.out.size HB8.out hb9)
      have HX9 := Lib.hid (HX8.out.below hb9)
      have HT9 := Lib.hid (HT8.out.below hb9)
      have HY9 := Lib.hid (hry.rd)
      have HU9 := Lib.hid (hfy.rd)
      clear hb9 HB8 HP8 HX8 HT8 hry hfy HDE
      go_wp2_with fail
      refine (sameBC AX AY bs.length cx cy bs w9 (by omega) rfl HX9.out HY9.out).mono ?_
      rintro e w10 ⟨rfl, hb10⟩
      have HB10 := Lib.hid (below_then HB9.out.size HB9.out hb10)
      have HT10 := Lib.hid (HT9.out.below hb10)
      have HU10 := Lib.hid (HU9.out.below hb10)
      clear hb10 HB9 HX9 HT9 HY9 HU9
      go_wp2_with fail
      refine (sameFC TX TY fs.length tx ty fs w10 (by omega) rfl HT10.out HU10.out).mono ?_
      rintro e w11 ⟨rfl, hb11⟩
      have HB11 := Lib.hid (below_then HB10.out.size HB10.out hb11)
      clear hb11 HB10 HT10 HU10
      go_wp2
      go_ret
      exact ⟨rfl, HB11.out⟩
    · have hEb : (E2 != 0) = true := by simpa using hE2
      clear HR1 HR2 HQ7 HP7 HDE
      go_wp2
      go_ret
      exact ⟨rfl, HB7.out⟩
  · have hEb : (E1 != 0) = true := by simpa using hE1
    clear HR1 HR2 HQ7 HP7 HDE
    go_wp2
    go_ret
    exact ⟨rfl, HB7.out⟩
end Go.Proofs.YtnmldbcgpfglkaaGreatDoor
