/- The walk of the law ChunkRound. Conditions: data, fields and what stands behind of bulk at most 2^20; the one cell of math/bits' table that base 16 reads; the library's two tables of UTF-8; internal/bytealg.MaxLen; strconv's two error variables. -/
import Derived.Test.YtnmldbcgpfglkaaGreatDoorChunkU
import Derived.Test.YtnmldbcgpfglkaaGreatDoorChunkL
import Derived.Test.YtnmldbcgpfglkaaGreatDoorMarkL
namespace Go.Proofs.YtnmldbcgpfglkaaGreatDoor
open Go.RowKit

set_option maxRecDepth 100000 in
set_option maxHeartbeats 8000000 in
theorem chunkRound_any (A : Option Addr) (n c : Nat) (bs : List UInt8) (size : Int) (T : Option Addr) (m tc : Nat) (fs : List FD) (R : Option Addr) (k rc : Nat) (rs : List UInt8) (w : World) (hnm : bs.length ≤ 1048576) (hl : bs.length = n) (hnc : n ≤ c) (hx : Rd w A n 1 (bcells bs)) (hs0 : -9223372036854775808 ≤ size) (hs1 : size ≤ 9223372036854775807) (hfb : F.bulk fs ≤ 1048576) (hfl : fs.length = m) (hy : Rd w T m 2 (fcells fs)) (hrm : rs.length ≤ 1048576) (hrl : rs.length = k) (hr : Rd w R k 1 (bcells rs)) (ht : LibOk w) (he : ErrOk w) (hb : BruOk w) :
    Calls Tryz.prog 5 #[.slice A n c, .int .i64 size, .slice T m tc, .slice R k rc] w (RetB w true) := by
  subst hl
  subst hfl
  subst hrl
  have hlb := F.len_le_bulk fs
  have HA := Lib.hid (fun (u : World) (hb : Below w.heap.size w u) => chunkAlive_any u (ht.below hb) (he.below hb))
  have HCB := Lib.hid (fun (u : World) (hu : Below w.heap.size w u) => copyBytes_any A c bs u (by omega) (hx.below hu))
  have HCF := Lib.hid (fun (u : World) (hu : Below w.heap.size w u) => copyFields_any T fs.length tc fs u (by omega) (hy.below hu))
  have HEN := Lib.hid (fun (A1 : Option Addr) (c1 : Nat) (T1 : Option Addr) (t1 : Nat) (u : World) (hu : Below w.heap.size w u) (hc : bs.length ≤ c1) (hr : Rd u A1 bs.length 1 (bcells bs)) (hf : Rd u T1 fs.length 2 (fcells fs)) => cencode_any A1 c1 bs size T1 t1 fs u hs0 hs1 (by omega) hc hr (by omega) hf (hb.below hu))
  have HDE := Lib.hid (fun (X : List UInt8) (k1 : Nat) (A1 : Option Addr) (c1 : Nat) (u0 u : World) (hk : k1 ≤ 1073741824) (hu : Below w.heap.size w u) (hr : CRow u u0.heap.size A1 k1 c1 X) => cdecode_any A1 k1 c1 X u hk hr.2.1 hr.nilK hr.spotK hr.rd (ht.below hu) (he.below hu))
  have HXX := Lib.hid (fun (u : World) (hu : Below w.heap.size w u) => hx.below hu)
  have HYY := Lib.hid (fun (u : World) (hu : Below w.heap.size w u) => hy.below hu)
  have HRR := Lib.hid (fun (u : World) (hu : Below w.heap.size w u) => hr.below hu)
  have hel := C.encB_len bs size fs
  have hll := F.lines_len fs
  have HROUND := Lib.hid (fun (h : C.encE bs size fs = 0) => show C.decode (C.encB bs size fs ++ rs) = ⟨bs, fs, (C.encB bs size fs).length, 0⟩ ∧ 0 < (C.encB bs size fs).length ∧ C.decode ((C.encB bs size fs).take ((C.encB bs size fs).length - 1)) = ⟨[], [], 0, 0⟩ from by
    have := C.enc_round h rs
    unfold C.encB
    rw [if_pos h]
    exact this)
  have HNONE : Hid (C.encE bs size fs ≠ 0 → C.encB bs size fs = []) := Lib.hid (fun h => if_neg h)
  obtain ⟨Q, hQ⟩ : ∃ Q, C.encB bs size fs = Q := ⟨_, rfl⟩
  obtain ⟨E, hE⟩ : ∃ E, C.encE bs size fs = E := ⟨_, rfl⟩
  rw [hQ, hE] at HROUND HNONE
  have HEQ := Lib.hid (And.intro hQ hE)
  have hql : Q.length ≤ 1073741824 - 1048576 := by rw [hQ] at hel; omega
  clear hx hy hr ht he hb hQ hE hll hel
  go_enter Tryz.func5, Tryz.ntmps5
  have HB0 := Lib.hid (Below.refl w.heap.size w)
  go_wp2_with fail
  refine (HA.out _ HB0.out).mono ?_
  rintro e w1 ⟨rfl, hb1⟩
  have HB1 := Lib.hid (below_then HB0.out.size HB0.out hb1)
  clear hb1 HB0 HA
  go_wp2_with fail
  refine (HCB.out _ HB1.out).mono ?_
  rintro e w2 ⟨AD, cd, rfl, hrd, hb2⟩
  have HB2 := Lib.hid (below_then HB1.out.size HB1.out hb2)
  have HD2 := Lib.hid (hrd)
  clear hb2 HB1 hrd HCB
  go_wp2_with fail
  refine (HCF.out _ HB2.out).mono ?_
  rintro e w3 ⟨TF, tf, rfl, hrf, hb3⟩
  have HB3 := Lib.hid (below_then HB2.out.size HB2.out hb3)
  have HD3 := Lib.hid (HD2.out.below hb3)
  have HF3 := Lib.hid (hrf.rd)
  clear hb3 HB2 HD2 hrf HCF
  go_wp2_with fail
  refine (HEN.out AD cd TF tf _ HB3.out HD3.out.2.1 HD3.out.rd HF3.out).mono ?_
  rintro e w4 ⟨AQ, cq, eq, hrq, hb4⟩
  rw [HEQ.out.1, HEQ.out.2] at eq
  rw [HEQ.out.1] at hrq
  subst eq
  have HB4 := Lib.hid (below_then HB3.out.size HB3.out hb4)
  have HQ4 := Lib.hid (hrq)
  clear hb4 HB3 HD3 HF3 hrq HEN HEQ
  by_cases hE0 : E = 0
  · subst hE0
    obtain ⟨hr1, hr2, hr3⟩ := HROUND.out rfl
    have HR1 := Lib.hid hr1
    obtain ⟨j, hj⟩ : ∃ j, Q.length = j + 1 := ⟨Q.length - 1, by omega⟩
    have hjs : Q.length - 1 = j := by omega
    rw [hjs] at hr3
    have HR3 := Lib.hid hr3
    have HJ := Lib.hid hj
    rw [hj] at hql
    have HLN : Hid ((Q ++ rs).length = j + 1 + rs.length) := Lib.hid (by rw [List.length_append, hj])
    have HTK : Hid ((Q ++ rs).take j = Q.take j) := Lib.hid (List.take_append_of_le_length (by omega))
    clear hr1 hr2 hr3 hjs hj HROUND HNONE
    rw [HJ.out] at HQ4
    rw [HJ.out] at HR1
    rw [HJ.out]
    go_wp2_with fail
    refine ((show Calls Tryz.prog 24 #[.slice AQ (j + 1) cq] w4 (RetC w4 Q) from by have := copyBytes_any AQ cq Q w4 (by rw [HJ.out]; omega) (by rw [HJ.out]; exact HQ4.out.rd); rwa [HJ.out] at this)).mono ?_
    rintro e w5 ⟨AB, cb, eb, hrb, hb5⟩
    rw [HJ.out] at eb hrb
    subst eb
    have HB5 := Lib.hid (below_then HB4.out.size HB4.out hb5)
    have HB25 := Lib.hid (hrb)
    have hzb := hb5.size
    have HZ0 := Lib.hid HB4.out.size
    clear hb5 HB4 HQ4 hrb
    have HRS := Lib.hid (HRR.out _ HB5.out)
    have hz5 := HB5.out.size
    have h63 : j + 1 + rs.length ≤ 4398046511104 := by omega
    have hzz : w4.heap.size ≤ w5.heap.size := hzb
    go_upto_region 9 with (at_builtin; refine appC _ rfl (.tmp 36) (.tmp 37) rfl w4.heap.size AB (j + 1) cb Q rfl HB25.out R rs.length rc rs rfl HRS.out h63 hzz ?_; intro A9 c9 w9 hr9 ha9; have HR9 := Lib.hid hr9; have HB9 := Lib.hid (HB5.out.trans ((ha9.belowC HB25.out hzz).mono HZ0.out)); clear hr9 ha9)
    clear HRS HB25 HB5 HRR hzz
    go_wp2_with fail
    refine (HDE.out (Q ++ rs) (j + 1 + rs.length) A9 c9 w4 _ (by omega) HB9.out HR9.out).mono ?_
    rintro e w10 ⟨AX, cx, TX, tx, ex, hrx, hfx, hb10⟩
    rw [HR1.out] at ex hrx hfx
    subst ex
    have HB10 := Lib.hid (below_then HB9.out.size HB9.out hb10)
    have HR10 := Lib.hid (HR9.out.below hb10)
    have HX10 := Lib.hid (hrx.rd)
    have HT10 := Lib.hid (hfx.rd)
    clear hb10 HB9 HR9 hrx hfx
    go_wp2_with fail
    refine (sameBC AX A bs.length cx c bs w10 (by omega) rfl HX10.out (HXX.out _ HB10.out)).mono ?_
    rintro e w11 ⟨rfl, hb11⟩
    have HB11 := Lib.hid (below_then HB10.out.size HB10.out hb11)
    have HR11 := Lib.hid (HR10.out.below hb11)
    have HT11 := Lib.hid (HT10.out.below hb11)
    clear hb11 HB10 HR10 HX10 HT10 HXX
    go_wp2_with fail
    refine (sameFC TX T fs.length tx tc fs w11 (by omega) rfl HT11.out (HYY.out _ HB11.out)).mono ?_
    rintro e w12 ⟨rfl, hb12⟩
    have HB12 := Lib.hid (below_then HB11.out.size HB11.out hb12)
    have HR12 := Lib.hid (HR11.out.below hb12)
    clear hb12 HB11 HR11 HT11 HYY
    have HFR := Lib.hid (show CRow w12 w4.heap.size A9 j c9 (Q.take j) from by rw [← HTK.out]; exact HR12.out.front (by omega))
    have hjc : (j : Int) ≤ (c9 : Int) := by have := HFR.out.2.1; omega
    go_wp2_with fail
    refine (HDE.out (Q.take j) j A9 c9 w4 _ (by omega) HB12.out HFR.out).mono ?_
    rintro e w13 ⟨AY, cy, TY, ty, ey, hry, hfy, hb13⟩
    rw [HR3.out] at ey
    subst ey
    have HB13 := Lib.hid (below_then HB12.out.size HB12.out hb13)
    clear hb13 HB12 HR12 hry hfy HDE
    go_wp2
    go_ret
    exact ⟨rfl, HB13.out⟩
  · have hq := HNONE.out hE0
    subst hq
    have hEb : (E != 0) = true := by simpa using hE0
    clear HROUND HNONE HQ4 HDE HXX HYY HRR
    go_wp2
    go_ret
    exact ⟨rfl, HB4.out⟩
end Go.Proofs.YtnmldbcgpfglkaaGreatDoor
