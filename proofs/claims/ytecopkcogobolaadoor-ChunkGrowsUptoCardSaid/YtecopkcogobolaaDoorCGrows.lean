/- The walk of the law ChunkGrows. Conditions: rows of at most 2^20 bytes; the library's two tables of UTF-8 as its text lays them; internal/bytealg.MaxLen holds some number; strconv's two error variables hold errors. -/
import Derived.Test.YtecopkcogobolaaDoorChunkL
namespace Go.Proofs.YtecopkcogobolaaDoor
open Go.RowKit

set_option maxRecDepth 100000 in
set_option maxHeartbeats 8000000 in
theorem chunkGrows_any (A : Option Addr) (n c : Nat) (bs : List UInt8) (B0 : Option Addr) (m d : Nat) (ms : List UInt8) (w : World) (hnm : bs.length ≤ 1048576) (hl : bs.length = n) (hnc : n ≤ c) (hx : Rd w A n 1 (bcells bs)) (hmm : ms.length ≤ 1048576) (hml : ms.length = m) (hy : Rd w B0 m 1 (bcells ms)) (ht : LibOk w) (he : ErrOk w) :
    Calls Tryd.prog 4 #[.slice A n c, .slice B0 m d] w (RetB w true) := by
  subst hl
  subst hml
  have HA := Lib.hid (fun (u : World) (hb : Below w.heap.size w u) => chunkAlive_any u (ht.below hb) (he.below hb))
  have HCB := Lib.hid (fun (u : World) (hu : Below w.heap.size w u) => copyBytes_any A c bs u (by omega) (hx.below hu))
  have HLA : Hid ((bs ++ ms).length = bs.length + ms.length) := Lib.hid List.length_append
  have HY := Lib.hid (fun (u : World) (hu : Below w.heap.size w u) => hy.below hu)
  have HRQ := Lib.hid (fun (A1 : Option Addr) (c1 : Nat) (u0 u : World) (hu : Below w.heap.size w u) (hr : CRow u u0.heap.size A1 bs.length c1 bs) => cdecode_any A1 bs.length c1 bs u (by omega) hr.2.1 hr.nilK hr.spotK hr.rd (ht.below hu) (he.below hu))
  have HRA := Lib.hid (fun (A1 : Option Addr) (c1 : Nat) (u0 u : World) (hu : Below w.heap.size w u) (hr : CRow u u0.heap.size A1 (bs.length + ms.length) c1 (bs ++ ms)) => cdecode_any A1 (bs.length + ms.length) c1 (bs ++ ms) u (by omega) hr.2.1 hr.nilK hr.spotK hr.rd (ht.below hu) (he.below hu))
  have HTK := Lib.hid (fun (k : Nat) (hk : k ≤ bs.length) (u : World) (hu : Below w.heap.size w u) => show Calls Tryd.prog 14 #[.slice A k c] u (fun e w' => ∃ A' c', e = .returned (.slice A' k c') ∧ CRow w' u.heap.size A' k c' (bs.take k) ∧ Below u.heap.size u w') from by
    have hlk : (bs.take k).length = k := by rw [List.length_take]; omega
    have := copyBytes_any A c (bs.take k) u (by omega) (by rw [hlk]; exact (hx.below hu).upto hk)
    rw [hlk] at this
    refine this.mono ?_
    rintro e w' ⟨A', c', h1, h2, h3⟩
    rw [hlk] at h1 h2
    exact ⟨A', c', h1, h2, h3⟩)
  have HRK := Lib.hid (fun (k : Nat) (hk : k ≤ bs.length) (A1 : Option Addr) (c1 : Nat) (u0 u : World) (hu : Below w.heap.size w u) (hr : CRow u u0.heap.size A1 k c1 (bs.take k)) => cdecode_any A1 k c1 (bs.take k) u (by omega) hr.2.1 hr.nilK hr.spotK hr.rd (ht.below hu) (he.below hu))
  have HW1 := Lib.hid (C.decode_ways bs)
  have HM1 := Lib.hid (C.decode_more bs ms)
  have hf1 := C.decode_len bs
  have hf2 := C.decode_len (bs ++ ms)
  clear hx hy ht he
  obtain ⟨R1, hR1⟩ : ∃ Q, C.decode bs = Q := ⟨_, rfl⟩
  rw [hR1] at HRQ HW1 HM1 hf1
  obtain ⟨R2, hR2⟩ : ∃ Q, C.decode (bs ++ ms) = Q := ⟨_, rfl⟩
  rw [hR2] at HRA HM1 hf2
  obtain ⟨d1, fs1, N1, E1⟩ := R1
  obtain ⟨d2, fs2, N2, E2⟩ := R2
  replace hf1 : d1.length ≤ 65536 ∧ fs1.length ≤ 100 := hf1
  replace hf2 : d2.length ≤ 65536 ∧ fs2.length ≤ 100 := hf2
  obtain ⟨hd1, hf1⟩ := hf1
  obtain ⟨hd2, hf2⟩ := hf2
  clear hR1 hR2
  go_enter Tryd.func4, Tryd.ntmps4
  go_wp2_with fail
  refine (HA.out _ (Below.refl _ _)).mono ?_
  rintro e w1 ⟨rfl, hb1⟩
  have HB1 := Lib.hid hb1
  clear hb1 HA
  go_wp2_with fail
  refine (HCB.out _ HB1.out).mono ?_
  rintro e w2 ⟨A2, c2, rfl, hr2, hb2⟩
  have HB2 := Lib.hid (below_then HB1.out.size HB1.out hb2)
  have HR2 := Lib.hid hr2
  have hz2 := hb2.size
  have HY2 := Lib.hid (HY.out _ HB2.out)
  have hz12 := HB1.out.size
  clear hb2 hr2 HB1
  go_wp2_with (at_builtin; refine appC _ rfl (.tmp 18) (.tmp 19) rfl w1.heap.size A2 bs.length c2 bs rfl HR2.out B0 ms.length d ms rfl HY2.out (by omega) (by omega) ?_; intro A3 c3 w3 hr3 ha3; have HR3 := Lib.hid hr3; have HB3 := Lib.hid (HB2.out.trans ((ha3.belowC HR2.out (by omega)).mono (by omega))); clear hr3 ha3 HB2 HR2 HY2 HY)
  refine (HCB.out _ HB3.out).mono ?_
  rintro e w4 ⟨A4, c4, rfl, hr4, hb4⟩
  have HB4 := Lib.hid (below_then HB3.out.size HB3.out hb4)
  have HR34 := Lib.hid (HR3.out.below hb4)
  have HR4 := Lib.hid hr4
  clear hb4 hr4 HB3 HR3 HCB
  go_wp2_with fail
  refine (HRQ.out A4 c4 w3 _ HB4.out HR4.out).mono ?_
  rintro e w5 ⟨A5, c5, T5, t5, rfl, hr5, hf5, hb5⟩
  have HB5 := Lib.hid (below_then HB4.out.size HB4.out hb5)
  have HR35 := Lib.hid (HR34.out.below hb5)
  have HD5 := Lib.hid hr5.rd
  have HF5 := Lib.hid hf5.rd
  clear hb5 hr5 hf5 HB4 HR34 HR4 HRQ
  go_wp2_with fail
  refine (HRA.out A3 c3 w1 _ HB5.out HR35.out).mono ?_
  rintro e w6 ⟨A6, c6, T6, t6, rfl, hr6, hf6, hb6⟩
  have HB6 := Lib.hid (below_then HB5.out.size HB5.out hb6)
  have HD56 := Lib.hid (HD5.out.below hb6)
  have HF56 := Lib.hid (HF5.out.below hb6)
  have HD6 := Lib.hid hr6.rd
  have HF6 := Lib.hid hf6.rd
  clear hb6 hr6 hf6 HB5 HR35 HD5 HF5 HRA
  rcases HW1.out with ⟨h1, h2, h3, h4⟩ | ⟨h1, h2, h3⟩ | ⟨h1, h2, h3, h4⟩
  · replace h1 : E1 = 0 := h1
    replace h2 : N1 = 0 := h2
    replace h3 : d1 = [] := h3
    replace h4 : fs1 = [] := h4
    subst h1 h2 h3 h4
    clear HW1 HM1 HTK HRK HD56 HF56 HD6 HF6
    go_wp2
    go_ret
    exact ⟨rfl, HB6.out⟩
  · replace h1 : E1 ≠ 0 := h1
    replace h2 : N1 = 0 := h2
    replace h3 : d1 = [] := h3
    have hm := HM1.out (.inl h1)
    injection hm with e1 e2 e3 e4
    subst e1 e2 e3 e4
    subst h2 h3
    have hEb : (E2 == 0) = false := by simpa using h1
    have hEb2 : (E2 != 0) = true := by simpa using h1
    clear HW1 HM1 HTK HRK
    have HSB := Lib.hid (sameBC A5 A6 0 c5 c6 [] w6 (by omega) rfl HD56.out HD6.out)
    have HF6b := Lib.hid (fun (u : World) (hu : Below w6.heap.size w6 u) => sameFC T5 T6 fs2.length t5 t6 fs2 u (by omega) rfl (HF56.out.below hu) (HF6.out.below hu))
    clear HD56 HF56 HD6 HF6
    go_wp2_with fail
    refine HSB.out.mono ?_
    rintro e w7 ⟨rfl, hb7⟩
    have HB7 := Lib.hid (below_then HB6.out.size HB6.out hb7)
    have HSF := Lib.hid (HF6b.out w7 hb7)
    clear hb7 HSB HF6b HB6
    go_wp2_with fail
    refine HSF.out.mono ?_
    rintro e w8 ⟨rfl, hb8⟩
    have HB8 := Lib.hid (below_then HB7.out.size HB7.out hb8)
    clear hb8 HSF HB7
    go_wp2
    go_ret
    exact ⟨rfl, HB8.out⟩
  · replace h1 : E1 = 0 := h1
    replace h2 : 0 < N1 := h2
    replace h3 : N1 ≤ bs.length := h3
    have hm := HM1.out (.inr (by show N1 ≠ 0; omega))
    injection hm with e1 e2 e3 e4
    subst e1 e2 e3 e4
    subst h1
    have h2i : (0 : Int) < (N2 : Int) := by omega
    have h2j : ¬ (N2 : Int) = 0 := by omega
    have h3c : (N2 : Int) ≤ (c : Int) := by omega
    have HTK2 := Lib.hid (fun (u : World) (hu : Below w.heap.size w u) => HTK.out N2 h3 u hu)
    have HRK2 := Lib.hid (fun A1 c1 u0 u hu hr => HRK.out N2 h3 A1 c1 u0 u hu hr)
    replace h4 : C.decode (bs.take N2) = ⟨d2, fs2, N2, 0⟩ := h4
    rw [h4] at HRK2
    clear HW1 HM1 HTK HRK h4
    have HSB := Lib.hid (sameBC A5 A6 d2.length c5 c6 d2 w6 (by omega) rfl HD56.out HD6.out)
    have HF6b := Lib.hid (fun (u : World) (hu : Below w6.heap.size w6 u) => sameFC T5 T6 fs2.length t5 t6 fs2 u (by omega) rfl (HF56.out.below hu) (HF6.out.below hu))
    clear HD56 HF56 HD6 HF6
    go_wp2_with fail
    refine HSB.out.mono ?_
    rintro e w7 ⟨rfl, hb7⟩
    have HB7 := Lib.hid (below_then HB6.out.size HB6.out hb7)
    have HSF := Lib.hid (HF6b.out w7 hb7)
    clear hb7 HSB HF6b HB6
    go_wp2_with fail
    refine HSF.out.mono ?_
    rintro e w8 ⟨rfl, hb8⟩
    have HB8 := Lib.hid (below_then HB7.out.size HB7.out hb8)
    clear hb8 HSF HB7
    go_wp2_with fail
    refine (HTK2.out _ HB8.out).mono ?_
    rintro e w9 ⟨A9, c9, rfl, hr9, hb9⟩
    have HB9 := Lib.hid (below_then HB8.out.size HB8.out hb9)
    have HR9 := Lib.hid hr9
    clear hb9 hr9 HB8 HTK2
    go_wp2_with fail
    refine (HRK2.out A9 c9 w8 _ HB9.out HR9.out).mono ?_
    rintro e w10 ⟨A10, c10, T10, t10, rfl, hr10, hf10, hb10⟩
    have HB10 := Lib.hid (below_then HB9.out.size HB9.out hb10)
    clear hb10 hr10 hf10 HB9 HR9 HRK2
    go_wp2
    go_ret
    exact ⟨rfl, HB10.out⟩
end Go.Proofs.YtecopkcogobolaaDoor
