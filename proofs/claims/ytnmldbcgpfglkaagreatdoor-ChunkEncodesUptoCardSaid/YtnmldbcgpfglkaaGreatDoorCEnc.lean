/- The walk of the law ChunkEncodes. Conditions: data and fields of bulk at most 2^20; the one cell of math/bits' table that base 16 reads; the library's two tables of UTF-8; internal/bytealg.MaxLen; strconv's two error variables. -/
import Derived.Test.YtnmldbcgpfglkaaGreatDoorChunkU
import Derived.Test.YtnmldbcgpfglkaaGreatDoorChunkV
import Derived.Test.YtnmldbcgpfglkaaGreatDoorChunkL
import Derived.Test.YtnmldbcgpfglkaaGreatDoorHeads
namespace Go.Proofs.YtnmldbcgpfglkaaGreatDoor
open Go.RowKit

set_option maxRecDepth 100000 in
set_option maxHeartbeats 4000000 in
theorem chunkEncodes_any (A : Option Addr) (n c : Nat) (bs : List UInt8) (size : Int) (T : Option Addr) (m tc : Nat) (fs : List FD) (w : World) (hnm : bs.length ≤ 1048576) (hl : bs.length = n) (hnc : n ≤ c) (hx : Rd w A n 1 (bcells bs)) (hs0 : -9223372036854775808 ≤ size) (hs1 : size ≤ 9223372036854775807) (hfb : F.bulk fs ≤ 1048576) (hfl : fs.length = m) (hy : Rd w T m 2 (fcells fs)) (ht : LibOk w) (he : ErrOk w) (hb : BruOk w) :
    Calls Tryz.prog 4 #[.slice A n c, .int .i64 size, .slice T m tc] w (RetB w true) := by
  subst hl
  subst hfl
  have hlb := F.len_le_bulk fs
  have HA := Lib.hid (fun (u : World) (hb : Below w.heap.size w u) => chunkAlive_any u (ht.below hb) (he.below hb))
  have HSP := Lib.hid (fun (u : World) (hu : Below w.heap.size w u) => spare_any A c bs u (by omega) (hx.below hu))
  have HCF := Lib.hid (fun (u : World) (hu : Below w.heap.size w u) => copyFields_any T fs.length tc fs u (by omega) (hy.below hu))
  have HRQ := Lib.hid (fun (g c3 : Nat) (T1 : Option Addr) (t1 : Nat) (u : World) (hu : Below w.heap.size w u) (hc : bs.length ≤ c3) (hr : Rd u (some ⟨g, 0, none⟩) bs.length 1 (bcells bs)) (hf : Rd u T1 fs.length 2 (fcells fs)) => cencode_any (some ⟨g, 0, none⟩) c3 bs size T1 t1 fs u hs0 hs1 (by omega) hc hr (by omega) hf (hb.below hu))
  have HRR := Lib.hid (fun (u : World) (hu : Below w.heap.size w u) => refCEncode_any A c bs size T tc fs u hs0 hs1 (by omega) hnc (hx.below hu) (by omega) (hy.below hu))
  have HLM : Hid ((bs ++ marks).length = bs.length + 8) := by rw [List.length_append]; exact Lib.hid rfl
  have HMK : Hid (marks.length = 8) := Lib.hid rfl
  have HYT := Lib.hid (fun (u : World) (hu : Below w.heap.size w u) => hy.below hu)
  have hel := C.encB_len bs size fs
  have hll := F.lines_len fs
  obtain ⟨Q, hQ⟩ : ∃ Q, C.encB bs size fs = Q := ⟨_, rfl⟩
  obtain ⟨E, hE⟩ : ∃ E, C.encE bs size fs = E := ⟨_, rfl⟩
  rw [hQ, hE] at HRQ HRR
  rw [hQ] at hel
  have hql : Q.length ≤ 1099511627776 := by omega
  clear hx hy ht he hb hQ hE hll hel
  go_enter Tryz.func4, Tryz.ntmps4
  go_wp2_with fail
  refine (HA.out _ (Below.refl _ _)).mono ?_
  rintro e w1 ⟨rfl, hb1⟩
  have HB1 := Lib.hid hb1
  clear hb1 HA
  go_wp2_with fail
  refine (HSP.out _ HB1.out).mono ?_
  rintro e w2 ⟨A3, c3, e3, hr3, hb3⟩
  rw [HLM.out] at e3 hr3
  subst e3
  have hc3 := hr3.2.1
  obtain ⟨g, rfl, hgb⟩ : ∃ g, A3 = some ⟨g, 0, none⟩ ∧ w1.heap.size ≤ g := by
    rcases hr3.2.2 with h | ⟨g, h, h2, _⟩
    · omega
    · exact ⟨g, h, h2⟩
  have hrd := hr3.rd
  rw [← HMK.out] at hrd
  have HB2 := Lib.hid (below_then HB1.out.size HB1.out hb3)
  have HR2 := Lib.hid hrd
  have hc4 : bs.length ≤ c3 := by omega
  have hc5 : (bs.length : Int) ≤ (c3 : Int) := by omega
  clear hb3 hr3 hrd HB1 hgb
  go_wp2_with fail
  refine (HCF.out _ HB2.out).mono ?_
  rintro e w3 ⟨T3, t3, rfl, hf3, hb3⟩
  have HB3 := Lib.hid (below_then HB2.out.size HB2.out hb3)
  have HR3 := Lib.hid (HR2.out.below hb3)
  have HF3 := Lib.hid hf3.rd
  clear hb3 hf3 HB2 HR2 HCF
  go_wp2_with fail
  refine (HRQ.out g c3 T3 t3 _ HB3.out hc4 (rd_frontH HR3.out) HF3.out).mono ?_
  rintro e w4 ⟨A4, c4, rfl, hr4, hb4⟩
  have HB4 := Lib.hid (below_then HB3.out.size HB3.out hb4)
  have HM4 := Lib.hid (HR3.out.below hb4)
  have HF4 := Lib.hid (HF3.out.below hb4)
  have HR4 := Lib.hid hr4.rd
  clear hb4 hr4 HB3 HR3 HF3 HRQ
  go_wp2_with fail
  refine (HRR.out _ HB4.out).mono ?_
  rintro e w6 ⟨A6, c6, rfl, hr6, hb6⟩
  have HB6 := Lib.hid (below_then HB4.out.size HB4.out hb6)
  have HM6 := Lib.hid (HM4.out.below hb6)
  have HF6 := Lib.hid (HF4.out.below hb6)
  have HSB := Lib.hid (sameBC A4 A6 Q.length c4 c6 Q w6 hql rfl (HR4.out.below hb6) hr6.rd)
  clear hb6 hr6 HB4 HM4 HR4 HF4 HRR
  go_wp2_with fail
  refine HSB.out.mono ?_
  rintro e w7 ⟨rfl, hb7⟩
  have HB7 := Lib.hid (below_then HB6.out.size HB6.out hb7)
  have HM7 := Lib.hid (HM6.out.below hb7)
  have HF7 := Lib.hid (HF6.out.below hb7)
  clear hb7 HSB HB6 HM6 HF6
  go_wp2_with fail
  refine (HSP.out _ HB7.out).mono ?_
  rintro e w9 ⟨A9, c9, e9, hr9, hb9⟩
  rw [HLM.out] at e9 hr9
  subst e9
  have HR9 := Lib.hid hr9.rd
  have HB9 := Lib.hid (below_then HB7.out.size HB7.out hb9)
  have HF9 := Lib.hid (HF7.out.below hb9)
  have HM9 : Hid (Rd w9 (some ⟨g, 0, none⟩) (bs.length + 8) 1 (bcells (bs ++ marks))) := by
    have := HM7.out.below hb9
    rw [HMK.out] at this
    exact Lib.hid this
  clear hb9 hr9 HSP HB7 HM7 HF7
  go_wp2_with fail
  refine (sameBC (some ⟨g, 0, none⟩) A9 (bs.length + 8) c3 c9 (bs ++ marks) w9 (by omega) HLM.out HM9.out HR9.out).mono ?_
  rintro e w10 ⟨rfl, hb10⟩
  have HB10 := Lib.hid (below_then HB9.out.size HB9.out hb10)
  have HSF := Lib.hid (sameFC T3 T fs.length t3 tc fs w10 (by omega) rfl (HF9.out.below hb10) (HYT.out _ HB10.out))
  clear hb10 HB9 HM9 HR9 HF9 HYT
  go_wp2_with fail
  refine HSF.out.mono ?_
  rintro e w11 ⟨rfl, hb11⟩
  have HB11 := Lib.hid (below_then HB10.out.size HB10.out hb11)
  clear hb11 HB10 HSF
  go_wp2
  go_ret
  exact ⟨rfl, HB11.out⟩
end Go.Proofs.YtnmldbcgpfglkaaGreatDoor
