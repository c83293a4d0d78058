/- The walk of the law ChunkDecodes. Conditions: a row of at most 2^20 bytes; the library's two tables of UTF-8 as its text lays them; internal/bytealg.MaxLen holds some number; strconv's two error variables hold errors. -/
import Derived.Test.YtnmldbcgpfglkaaGreatDoorChunkT
import Derived.Test.YtnmldbcgpfglkaaGreatDoorChunkL
import Derived.Test.YtnmldbcgpfglkaaGreatDoorHeads
namespace Go.Proofs.YtnmldbcgpfglkaaGreatDoor
open Go.RowKit

set_option maxRecDepth 100000 in
set_option maxHeartbeats 4000000 in
theorem chunkDecodes_any (A : Option Addr) (n c : Nat) (bs : List UInt8) (w : World) (hnm : bs.length ≤ 1048576) (hl : bs.length = n) (hnc : n ≤ c) (hx : Rd w A n 1 (bcells bs)) (ht : LibOk w) (he : ErrOk w) :
    Calls Tryz.prog 3 #[.slice A n c] w (RetB w true) := by
  subst hl
  have HA := Lib.hid (fun (u : World) (hb : Below w.heap.size w u) => chunkAlive_any u (ht.below hb) (he.below hb))
  have HSP := Lib.hid (fun (u : World) (hu : Below w.heap.size w u) => spare_any A c bs u (by omega) (hx.below hu))
  have HRQ := Lib.hid (fun (g c3 : Nat) (u : World) (hu : Below w.heap.size w u) (hc : bs.length ≤ c3) (hr : Rd u (some ⟨g, 0, none⟩) bs.length 1 (bcells bs)) => cdecode_any (some ⟨g, 0, none⟩) bs.length c3 bs u (by omega) hc (fun h => by cases h) (fun a h => by cases h; exact .inl rfl) hr (ht.below hu) (he.below hu))
  have HRR := Lib.hid (fun (u : World) (hu : Below w.heap.size w u) => refDecode_any A c bs u (by omega) hnc (hx.below hu))
  have HLM : Hid ((bs ++ marks).length = bs.length + 8) := by rw [List.length_append]; exact Lib.hid rfl
  have HMK : Hid (marks.length = 8) := Lib.hid rfl
  have hf := C.decode_len bs
  obtain ⟨Q, hQ⟩ : ∃ Q, C.decode bs = Q := ⟨_, rfl⟩
  rw [hQ] at HRQ HRR hf
  obtain ⟨d, fs, N, E⟩ := Q
  replace hf : d.length ≤ 65536 ∧ fs.length ≤ 100 := hf
  obtain ⟨hd, hf⟩ := hf
  clear hx ht he hQ
  go_enter Tryz.func3, Tryz.ntmps3
  go_wp2_with fail
  refine (HA.out _ (Below.refl _ _)).mono ?_
  rintro e w1 ⟨rfl, hb1⟩
  have HB1 := Lib.hid hb1
  clear hb1 HA
  go_wp2_with fail
  refine (HSP.out _ HB1.out).mono ?_
  rintro e w3 ⟨A3, c3, e3, hr3, hb3⟩
  rw [HLM.out] at e3 hr3
  subst e3
  have hc3 := hr3.2.1
  obtain ⟨g, rfl, hgb⟩ : ∃ g, A3 = some ⟨g, 0, none⟩ ∧ w1.heap.size ≤ g := by
    rcases hr3.2.2 with h | ⟨g, h, h2, _⟩
    · omega
    · exact ⟨g, h, h2⟩
  have hrd := hr3.rd
  rw [← HMK.out] at hrd
  have HB3 := Lib.hid (below_then HB1.out.size HB1.out hb3)
  have HR3 := Lib.hid hrd
  have hc4 : bs.length ≤ c3 := by omega
  have hc5 : (bs.length : Int) ≤ (c3 : Int) := by omega
  clear hb3 hr3 hrd HB1 hgb
  go_wp2_with fail
  refine (HRQ.out g c3 _ HB3.out hc4 (rd_frontH HR3.out)).mono ?_
  rintro e w4 ⟨A4, c4, T4, t4, rfl, hr4, hf4, hb4⟩
  have HB4 := Lib.hid (below_then HB3.out.size HB3.out hb4)
  have HM4 := Lib.hid (HR3.out.below hb4)
  have HR4 := Lib.hid hr4.rd
  have HF4 := Lib.hid hf4.rd
  clear hb4 hr4 hf4 HB3 HR3 HRQ
  go_wp2_with fail
  refine (HRR.out _ HB4.out).mono ?_
  rintro e w6 ⟨A6, c6, T6, t6, rfl, hr6, hf6, hb6⟩
  have HB6 := Lib.hid (below_then HB4.out.size HB4.out hb6)
  have HM6 := Lib.hid (HM4.out.below hb6)
  have HSB := Lib.hid (sameBC A4 A6 d.length c4 c6 d w6 (by omega) rfl (HR4.out.below hb6) hr6.rd)
  have HSF := Lib.hid (fun (u : World) (hu : Below w6.heap.size w6 u) => sameFC T4 T6 fs.length t4 t6 fs u (by omega) rfl ((HF4.out.below hb6).below hu) (hf6.rd.below hu))
  clear hb6 hr6 hf6 HB4 HM4 HR4 HF4 HRR
  go_wp2_with fail
  refine HSB.out.mono ?_
  rintro e w7 ⟨rfl, hb7⟩
  have HB7 := Lib.hid (below_then HB6.out.size HB6.out hb7)
  have HM7 := Lib.hid (HM6.out.below hb7)
  have HSF2 := Lib.hid (HSF.out w7 hb7)
  clear hb7 HSB HSF HB6 HM6
  go_wp2_with fail
  refine HSF2.out.mono ?_
  rintro e w8 ⟨rfl, hb8⟩
  have HB8 := Lib.hid (below_then HB7.out.size HB7.out hb8)
  have HM8 := Lib.hid (HM7.out.below hb8)
  clear hb8 HB7 HM7 HSF2
  go_wp2_with fail
  refine (HSP.out _ HB8.out).mono ?_
  rintro e w9 ⟨A9, c9, e9, hr9, hb9⟩
  rw [HLM.out] at e9 hr9
  subst e9
  have HR9 := Lib.hid hr9.rd
  have HB9 := Lib.hid (below_then HB8.out.size HB8.out hb9)
  have HM9 : Hid (Rd w9 (some ⟨g, 0, none⟩) (bs.length + 8) 1 (bcells (bs ++ marks))) := by
    have := HM8.out.below hb9
    rw [HMK.out] at this
    exact Lib.hid this
  clear hb9 hr9 HSP HB8 HM8
  go_wp2_with fail
  refine (sameBC (some ⟨g, 0, none⟩) A9 (bs.length + 8) c3 c9 (bs ++ marks) w9 (by omega) HLM.out HM9.out HR9.out).mono ?_
  rintro e w10 ⟨rfl, hb10⟩
  have HB10 := Lib.hid (below_then HB9.out.size HB9.out hb10)
  clear hb10 HB9 HM9 HR9
  go_wp2
  go_ret
  exact ⟨rfl, HB10.out⟩
end Go.Proofs.YtnmldbcgpfglkaaGreatDoor
