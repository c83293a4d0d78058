/- The walk of the law HeadGrows. Conditions: rows of at most 2^20 bytes; the library's two tables of UTF-8 as its text lays them; internal/bytealg.MaxLen holds some number; strconv's two error variables hold errors. -/
import Derived.Test.YtecopkcogobolaaGreatDoorResps
namespace Go.Proofs.YtecopkcogobolaaGreatDoor
open Go.RowKit

theorem CRow.nilC {w : World} {base : Nat} {A : Option Addr} {n c : Nat} {bs : List UInt8} (h : CRow w base A n c bs) (hA : A = none) : n = 0 ∧ c = 0 := by
  rcases h.2.2 with h0 | ⟨g, hg, _⟩
  · have := h.2.1; omega
  · rw [hA] at hg; cases hg
theorem CRow.spotC {w : World} {base : Nat} {A : Option Addr} {n c : Nat} {bs : List UInt8} (h : CRow w base A n c bs) (a : Addr) (ha : A = some a) : a.spot = none ∨ c = 0 := by
  rcases h.2.2 with h0 | ⟨g, hg, _⟩
  · exact .inr h0
  · rw [hg] at ha; cases ha; exact .inl rfl
/-- The three ways that a head's reading ends. -/
theorem request_ways (bs : List UInt8) : ((P.request bs).e = 0 ∧ (P.request bs).n = 0) ∨ ((P.request bs).e ≠ 0 ∧ (P.request bs).n = 0) ∨ ((P.request bs).e = 0 ∧ ∃ k : Nat, 0 < k ∧ k ≤ bs.length ∧ (P.request bs).n = (k : Int) ∧ P.request (bs.take k) = P.request bs) := by
  by_cases hn : (P.request bs).n = 0
  · by_cases he : (P.request bs).e = 0
    · exact .inl ⟨he, hn⟩
    · exact .inr (.inl ⟨he, hn⟩)
  · obtain ⟨i, h1, h2, h3⟩ := P.request_n hn
    have he : (P.request bs).e = 0 := by
      by_cases he : (P.request bs).e = 0
      · exact he
      · exact absurd ((request_facts bs).2.1 (.inl he)).1 hn
    refine .inr (.inr ⟨he, P.skip bs + i + 4, by omega, h2, h3, ?_⟩)
    have := P.request_cut hn
    rwa [h3, Int.toNat_natCast] at this
theorem response_bad (bs : List UInt8) (h : (P.response bs).e ≠ 0 ∨ (P.response bs).n = 0) : (P.response bs).n = 0 := by
  unfold P.response at h ⊢
  split
  · rfl
  · rename_i h1
    rw [if_neg h1] at h
    unfold P.respOf at h ⊢
    repeat' split
    all_goals first | rfl | skip
    rename_i a1 a2 a3 a4
    rw [if_neg a1, if_neg a2, if_neg a3, if_neg a4] at h
    rcases h with h | h
    · exact absurd rfl h
    · exact h
theorem response_ways (bs : List UInt8) : ((P.response bs).e = 0 ∧ (P.response bs).n = 0) ∨ ((P.response bs).e ≠ 0 ∧ (P.response bs).n = 0) ∨ ((P.response bs).e = 0 ∧ (P.response bs).n ≠ 0) := by
  by_cases hn : (P.response bs).n = 0
  · by_cases he : (P.response bs).e = 0
    · exact .inl ⟨he, hn⟩
    · exact .inr (.inl ⟨he, hn⟩)
  · by_cases he : (P.response bs).e = 0
    · exact .inr (.inr ⟨he, hn⟩)
    · exact absurd (response_bad bs (.inl he)) hn

set_option maxRecDepth 100000 in
set_option maxHeartbeats 8000000 in
theorem headGrows_any (A : Option Addr) (n c : Nat) (bs : List UInt8) (B0 : Option Addr) (m d : Nat) (ms : List UInt8) (w : World) (hnm : bs.length ≤ 1048576) (hl : bs.length = n) (hnc : n ≤ c) (hx : Rd w A n 1 (bcells bs)) (hmm : ms.length ≤ 1048576) (hml : ms.length = m) (hy : Rd w B0 m 1 (bcells ms)) (ht : LibOk w) (he : ErrOk w) :
    Calls Tryz.prog 7 #[.slice A n c, .slice B0 m d] w (RetB w true) := by
  subst hl
  subst hml
  have HA := Lib.hid (fun (u : World) (hb : Below w.heap.size w u) => headAlive_any u (ht.below hb))
  have HCB := Lib.hid (fun (u : World) (hu : Below w.heap.size w u) => copyBytes_any A c bs u (by omega) (hx.below hu))
  have HLA : Hid ((bs ++ ms).length = bs.length + ms.length) := Lib.hid List.length_append
  have HCA := Lib.hid (fun (A1 : Option Addr) (c1 : Nat) (u : World) (hr : Rd u A1 (bs.length + ms.length) 1 (bcells (bs ++ ms))) => show Calls Tryz.prog 23 #[.slice A1 (bs.length + ms.length) c1] u (fun e w' => ∃ A' c', e = .returned (.slice A' (bs.length + ms.length) c') ∧ CRow w' u.heap.size A' (bs.length + ms.length) c' (bs ++ ms) ∧ Below u.heap.size u w') from by
    have := copyBytes_any A1 c1 (bs ++ ms) u (by rw [HLA.out]; omega) (by rw [HLA.out]; exact hr)
    unfold RetC at this
    rw [HLA.out] at this
    exact this)
  have HY := Lib.hid (fun (u : World) (hu : Below w.heap.size w u) => hy.below hu)
  have HRQ := Lib.hid (fun (A1 : Option Addr) (c1 : Nat) (u0 u : World) (hu : Below w.heap.size w u) (hr : CRow u u0.heap.size A1 bs.length c1 bs) => request_any A1 bs.length c1 bs u (by omega) hr.2.1 hr.nilC hr.spotC hr.rd (ht.below hu))
  have HRA := Lib.hid (fun (A1 : Option Addr) (c1 : Nat) (u0 u : World) (hu : Below w.heap.size w u) (hr : CRow u u0.heap.size A1 (bs.length + ms.length) c1 (bs ++ ms)) => request_any A1 (bs.length + ms.length) c1 (bs ++ ms) u (by omega) hr.2.1 hr.nilC hr.spotC hr.rd (ht.below hu))
  have HSQ := Lib.hid (fun (A1 : Option Addr) (c1 : Nat) (u0 u : World) (hu : Below w.heap.size w u) (hr : CRow u u0.heap.size A1 bs.length c1 bs) => hresponse_any A1 bs.length c1 bs u (by omega) hr.2.1 hr.nilC hr.spotC hr.rd (ht.below hu) (he.below hu))
  have HSA := Lib.hid (fun (A1 : Option Addr) (c1 : Nat) (u0 u : World) (hu : Below w.heap.size w u) (hr : CRow u u0.heap.size A1 (bs.length + ms.length) c1 (bs ++ ms)) => hresponse_any A1 (bs.length + ms.length) c1 (bs ++ ms) u (by omega) hr.2.1 hr.nilC hr.spotC hr.rd (ht.below hu) (he.below hu))
  have HTK := Lib.hid (fun (k : Nat) (hk : k ≤ bs.length) (u : World) (hu : Below w.heap.size w u) => show Calls Tryz.prog 23 #[.slice A k c] u (fun e w' => ∃ A' c', e = .returned (.slice A' k c') ∧ CRow w' u.heap.size A' k c' (bs.take k) ∧ Below u.heap.size u w') from by
    have hlk : (bs.take k).length = k := by rw [List.length_take]; omega
    have := copyBytes_any A c (bs.take k) u (by omega) (by rw [hlk]; exact (hx.below hu).upto hk)
    rw [hlk] at this
    refine this.mono ?_
    rintro e w' ⟨A', c', h1, h2, h3⟩
    rw [hlk] at h1 h2
    exact ⟨A', c', h1, h2, h3⟩)
  have HRK := Lib.hid (fun (k : Nat) (hk : k ≤ bs.length) (A1 : Option Addr) (c1 : Nat) (u0 u : World) (hu : Below w.heap.size w u) (hr : CRow u u0.heap.size A1 k c1 (bs.take k)) => request_any A1 k c1 (bs.take k) u (by omega) hr.2.1 hr.nilC hr.spotC hr.rd (ht.below hu))
  have HW1 := Lib.hid (request_ways bs)
  have HM1 := Lib.hid (P.request_more bs ms)
  have HW2 := Lib.hid (response_ways bs)
  have HM2 := Lib.hid (P.response_more bs ms)
  have hf1 := (request_facts bs).1
  have hf2 := (request_facts (bs ++ ms)).1
  have hf3 := response_fs bs
  have hf4 := response_fs (bs ++ ms)
  clear hx hy ht he
  obtain ⟨R1, hR1⟩ : ∃ Q, P.request bs = Q := ⟨_, rfl⟩
  rw [hR1] at HRQ HW1 HM1 hf1
  obtain ⟨R2, hR2⟩ : ∃ Q, P.request (bs ++ ms) = Q := ⟨_, rfl⟩
  rw [hR2] at HRA HM1 hf2
  obtain ⟨S1, hS1⟩ : ∃ Q, P.response bs = Q := ⟨_, rfl⟩
  rw [hS1] at HSQ HW2 HM2 hf3
  obtain ⟨S2, hS2⟩ : ∃ Q, P.response (bs ++ ms) = Q := ⟨_, rfl⟩
  rw [hS2] at HSA HM2 hf4
  obtain ⟨q1, t1, v1, fs1, N1, E1⟩ := R1
  obtain ⟨q2, t2, v2, fs2, N2, E2⟩ := R2
  obtain ⟨s3, r3, v3, fs3, N3, E3⟩ := S1
  obtain ⟨s4, r4, v4, fs4, N4, E4⟩ := S2
  replace hf1 : fs1.length ≤ 100 := hf1
  replace hf2 : fs2.length ≤ 100 := hf2
  replace hf3 : fs3.length ≤ 100 := hf3
  replace hf4 : fs4.length ≤ 100 := hf4
  clear hR1 hR2 hS1 hS2
  go_enter Tryz.func7, Tryz.ntmps7
  go_wp2_with fail
  refine (HA.out _ (Below.refl _ _)).mono ?_
  rintro e w1 ⟨rfl, hb1⟩
  have HB1 := Lib.hid hb1
  clear hb1 HA
  go_wp2_with fail
  refine (HCB.out _ HB1.out).mono ?_
  rintro e w2 ⟨A2, c2, rfl, hr2, hb2⟩
  have HB2 := Lib.hid (below_then HB1.out.size HB1.out hb2)
  have HR2 := Lib.hid hr2
  have hz2 := hb2.size
  have HY2 := Lib.hid (HY.out _ HB2.out)
  have hz12 := HB1.out.size
  clear hb2 hr2 HB1
  go_wp2_with (at_builtin; refine appC _ rfl (.tmp 18) (.tmp 19) rfl w1.heap.size A2 bs.length c2 bs rfl HR2.out B0 ms.length d ms rfl HY2.out (by omega) (by omega) ?_; intro A3 c3 w3 hr3 ha3; have HR3 := Lib.hid hr3; have HB3 := Lib.hid (HB2.out.trans ((ha3.belowC HR2.out (by omega)).mono (by omega))); clear hr3 ha3 HB2 HR2 HY2)
  -- the head of the first bytes
  refine (HCB.out _ HB3.out).mono ?_
  rintro e w4 ⟨A4, c4, rfl, hr4, hb4⟩
  have HB4 := Lib.hid (below_then HB3.out.size HB3.out hb4)
  have HR34 := Lib.hid (HR3.out.below hb4)
  have HR4 := Lib.hid hr4
  clear hb4 hr4 HB3 HR3
  go_wp2_with fail
  refine (HRQ.out A4 c4 w3 _ HB4.out HR4.out).mono ?_
  rintro e w5 ⟨A5, c5, rfl, hr5, hb5⟩
  have hB5 := below_then HB4.out.size HB4.out hb5
  have HB5 := Lib.hid (hB5.alloc hB5.size (.cells #[.string q1, .string t1, .int .i64 v1, .slice A5 fs1.length c5] 24))
  have HR35 := Lib.hid ((HR34.out.below hb5).alloc (.cells #[.string q1, .string t1, .int .i64 v1, .slice A5 fs1.length c5] 24))
  have HX5 := Lib.hid (Blk.new w5 #[.string q1, .string t1, .int .i64 v1, .slice A5 fs1.length c5] 24)
  have HF5 := Lib.hid (hr5.rd.alloc (.cells #[.string q1, .string t1, .int .i64 v1, .slice A5 fs1.length c5] 24))
  clear hb5 hr5 hB5 HB4 HR34 HR4
  go_wp2_with fail
  generalize w5.heap.size = b5 at *
  generalize w5.alloc (.cells #[.string q1, .string t1, .int .i64 v1, .slice A5 fs1.length c5] 24) = w6 at *
  -- .. of all
  refine (HCA.out A3 c3 _ HR35.out.rd).mono ?_
  rintro e w7 ⟨A7, c7, rfl, hr7, hb7⟩
  have HB7 := Lib.hid (below_then HB5.out.size HB5.out hb7)
  have HR37 := Lib.hid (HR35.out.below hb7)
  have HX7 := Lib.hid (HX5.out.below hb7)
  have HF7 := Lib.hid (HF5.out.below hb7)
  have HR7 := Lib.hid hr7
  clear hb7 hr7 HB5 HR35 HX5 HF5
  go_wp2_with fail
  refine (HRA.out A7 c7 w6 _ HB7.out HR7.out).mono ?_
  rintro e w8 ⟨A8, c8, rfl, hr8, hb8⟩
  have hB8 := below_then HB7.out.size HB7.out hb8
  have HB8 := Lib.hid (hB8.alloc hB8.size (.cells #[.string q2, .string t2, .int .i64 v2, .slice A8 fs2.length c8] 24))
  have HR38 := Lib.hid ((HR37.out.below hb8).alloc (.cells #[.string q2, .string t2, .int .i64 v2, .slice A8 fs2.length c8] 24))
  have HX8 := Lib.hid ((HX7.out.below hb8).alloc (.cells #[.string q2, .string t2, .int .i64 v2, .slice A8 fs2.length c8] 24))
  have HF58 := Lib.hid ((HF7.out.below hb8).alloc (.cells #[.string q2, .string t2, .int .i64 v2, .slice A8 fs2.length c8] 24))
  have HY8 := Lib.hid (Blk.new w8 #[.string q2, .string t2, .int .i64 v2, .slice A8 fs2.length c8] 24)
  have HF8 := Lib.hid (hr8.rd.alloc (.cells #[.string q2, .string t2, .int .i64 v2, .slice A8 fs2.length c8] 24))
  clear hb8 hr8 hB8 HB7 HR37 HX7 HF7 HR7
  go_upto_region 7 with fail
  generalize w8.heap.size = b8 at *
  generalize w8.alloc (.cells #[.string q2, .string t2, .int .i64 v2, .slice A8 fs2.length c8] 24) = w9 at *
  go_cut [56] (fun s56 wx => s56 = .bool false ∧ Below w.heap.size w wx ∧ CRow wx w1.heap.size A3 (bs.length + ms.length) c3 (bs ++ ms))
  case first =>
    obtain ⟨x0, x1, x2, x3⟩ := HX8.out.cells4
    obtain ⟨y0, y1, y2, y3⟩ := HY8.out.cells4
    clear HRQ HRA HSQ HSA HTK HRK HW2 HM2 HCB HCA HY
    rcases HW1.out with ⟨h1, h2⟩ | ⟨h1, h2⟩ | ⟨h1, k, hk0, hkl, h2, h3⟩
    · replace h1 : E1 = 0 := h1
      replace h2 : N1 = 0 := h2
      subst h1
      subst h2
      clear HW1 HM1
      go_wp2_with fail
      go_meet
      exact ⟨rfl, HB8.out, HR38.out⟩
    · replace h1 : E1 ≠ 0 := h1
      replace h2 : N1 = 0 := h2
      have hm := HM1.out (.inl h1)
      injection hm with e1 e2 e3 e4 e5 e6
      subst e1 e2 e3 e4 e5 e6
      have hEb : (E2 != 0) = true := by simpa using h1
      clear HW1 HM1 h1 h2
      go_wp2_with fail
      refine (sameTQ v2 q2 t2 A5 A8 c5 c8 fs2 _ (by omega) HF58.out HF8.out).mono ?_
      rintro e w10 ⟨rfl, hb10⟩
      have HB10 := Lib.hid (below_then HB8.out.size HB8.out hb10)
      have HR10 := Lib.hid (HR38.out.below hb10)
      clear hb10
      go_wp2_with fail
      go_meet
      exact ⟨rfl, HB10.out, HR10.out⟩
    · replace h1 : E1 = 0 := h1
      replace h2 : N1 = (k : Int) := h2
      have hm := HM1.out (.inr (by show N1 ≠ 0; omega))
      injection hm with e1 e2 e3 e4 e5 e6
      subst e1 e2 e3 e4 e5 e6
      subst h1
      subst h2
      have hki : (0 : Int) < (k : Int) := by omega
      clear HW1 HM1 h3
      go_wp2_with fail
      refine (sameTQ v2 q2 t2 A5 A8 c5 c8 fs2 _ (by omega) HF58.out HF8.out).mono ?_
      rintro e w10 ⟨rfl, hb10⟩
      have HB10 := Lib.hid (below_then HB8.out.size HB8.out hb10)
      have HR10 := Lib.hid (HR38.out.below hb10)
      clear hb10
      go_wp2_with fail
      go_meet
      exact ⟨rfl, HB10.out, HR10.out⟩
  case rest =>
    obtain ⟨rfl, hcb, hcr⟩ := hcut
    have HBC := Lib.hid hcb
    have HRC := Lib.hid hcr
    clear hcb hcr HX8 HY8 HF58 HF8 HB8 HR38 HRQ HRA HM1
    go_upto_if 58 with fail
    go_cut [] (fun wx => Below w.heap.size w wx ∧ CRow wx w1.heap.size A3 (bs.length + ms.length) c3 (bs ++ ms))
    case first =>
      clear HSQ HSA HW2 HM2 HCB HCA HY
      rcases HW1.out with ⟨h1, h2⟩ | ⟨h1, h2⟩ | ⟨h1, k, hk0, hkl, h2, h3⟩
      · replace h2 : N1 = 0 := h2
        subst h2
        clear HW1 HTK HRK h1
        go_wp2_with fail
        go_meet
        exact ⟨HBC.out, HRC.out⟩
      · replace h2 : N1 = 0 := h2
        subst h2
        clear HW1 HTK HRK h1
        go_wp2_with fail
        go_meet
        exact ⟨HBC.out, HRC.out⟩
      · replace h2 : N1 = (k : Int) := h2
        replace h1 : E1 = 0 := h1
        subst h2
        subst h1
        have hki : (0 : Int) < (k : Int) := by omega
        have hkc : (k : Int) ≤ (c : Int) := by omega
        have HTK2 := Lib.hid (fun (u : World) (hu : Below w.heap.size w u) => HTK.out k hkl u hu)
        have HRK2 := Lib.hid (fun A1 c1 u0 u hu hr => HRK.out k hkl A1 c1 u0 u hu hr)
        rw [h3] at HRK2
        clear HW1 HTK HRK h3
        go_wp2_with fail
        refine (HTK2.out _ HBC.out).mono ?_
        rintro e w10 ⟨A10, c10, rfl, hr10, hb10⟩
        have HB10 := Lib.hid (below_then HBC.out.size HBC.out hb10)
        have HRC10 := Lib.hid (HRC.out.below hb10)
        have HR10 := Lib.hid hr10
        clear hb10 hr10 HBC HRC HTK2
        go_wp2_with fail
        refine (HRK2.out A10 c10 _ _ HB10.out HR10.out).mono ?_
        rintro e w11 ⟨A11, c11, rfl, hr11, hb11⟩
        have HB11 := Lib.hid (below_then HB10.out.size HB10.out hb11)
        have HRC11 := Lib.hid (HRC10.out.below hb11)
        clear hb11 hr11 HB10 HRC10 HR10 HRK2
        go_wp2_with fail
        go_meet
        exact ⟨HB11.out, HRC11.out⟩
    case rest =>
      obtain ⟨hcb, hcr⟩ := hcut
      have HBD := Lib.hid hcb
      have HRD := Lib.hid hcr
      clear hcb hcr HBC HRC HW1 HTK HRK HY
      go_wp2_with fail
      refine (HCB.out _ HBD.out).mono ?_
      rintro e w12 ⟨A12, c12, rfl, hr12, hb12⟩
      have HB12 := Lib.hid (below_then HBD.out.size HBD.out hb12)
      have HRD12 := Lib.hid (HRD.out.below hb12)
      have HR12 := Lib.hid hr12
      clear hb12 hr12 HBD HRD HCB
      go_wp2_with fail
      refine (HSQ.out A12 c12 _ _ HB12.out HR12.out).mono ?_
      rintro e w13 ⟨A13, c13, rfl, hr13, hb13⟩
      have hB13 := below_then HB12.out.size HB12.out hb13
      have HB13 := Lib.hid (hB13.alloc hB13.size (.cells #[.int .i64 s3, .string r3, .int .i64 v3, .slice A13 fs3.length c13] 26))
      have HRD13 := Lib.hid ((HRD12.out.below hb13).alloc (.cells #[.int .i64 s3, .string r3, .int .i64 v3, .slice A13 fs3.length c13] 26))
      have HX13 := Lib.hid (Blk.new w13 #[.int .i64 s3, .string r3, .int .i64 v3, .slice A13 fs3.length c13] 26)
      have HF13 := Lib.hid (hr13.rd.alloc (.cells #[.int .i64 s3, .string r3, .int .i64 v3, .slice A13 fs3.length c13] 26))
      clear hb13 hr13 hB13 HB12 HRD12 HR12 HSQ
      go_wp2_with fail
      generalize w13.heap.size = b13 at *
      generalize w13.alloc (.cells #[.int .i64 s3, .string r3, .int .i64 v3, .slice A13 fs3.length c13] 26) = w14 at *
      refine (HCA.out A3 c3 _ HRD13.out.rd).mono ?_
      rintro e w15 ⟨A15, c15, rfl, hr15, hb15⟩
      have HB15 := Lib.hid (below_then HB13.out.size HB13.out hb15)
      have HX15 := Lib.hid (HX13.out.below hb15)
      have HF15 := Lib.hid (HF13.out.below hb15)
      have HR15 := Lib.hid hr15
      clear hb15 hr15 HB13 HRD13 HX13 HF13 HCA
      go_wp2_with fail
      refine (HSA.out A15 c15 _ _ HB15.out HR15.out).mono ?_
      rintro e w16 ⟨A16, c16, rfl, hr16, hb16⟩
      have hB16 := below_then HB15.out.size HB15.out hb16
      have HB16 := Lib.hid (hB16.alloc hB16.size (.cells #[.int .i64 s4, .string r4, .int .i64 v4, .slice A16 fs4.length c16] 26))
      have HX16 := Lib.hid ((HX15.out.below hb16).alloc (.cells #[.int .i64 s4, .string r4, .int .i64 v4, .slice A16 fs4.length c16] 26))
      have HF136 := Lib.hid ((HF15.out.below hb16).alloc (.cells #[.int .i64 s4, .string r4, .int .i64 v4, .slice A16 fs4.length c16] 26))
      have HY16 := Lib.hid (Blk.new w16 #[.int .i64 s4, .string r4, .int .i64 v4, .slice A16 fs4.length c16] 26)
      have HF16 := Lib.hid (hr16.rd.alloc (.cells #[.int .i64 s4, .string r4, .int .i64 v4, .slice A16 fs4.length c16] 26))
      clear hb16 hr16 hB16 HB15 HX15 HF15 HR15 HSA
      obtain ⟨x0, x1, x2, x3⟩ := HX16.out.cells4
      obtain ⟨y0, y1, y2, y3⟩ := HY16.out.cells4
      rcases HW2.out with ⟨h1, h2⟩ | ⟨h1, h2⟩ | ⟨h1, h2⟩
      · replace h1 : E3 = 0 := h1
        replace h2 : N3 = 0 := h2
        subst h1
        subst h2
        clear HW2 HM2 HF136 HF16
        go_wp2
        go_ret
        exact ⟨rfl, HB16.out⟩
      · replace h1 : E3 ≠ 0 := h1
        have hm := HM2.out (.inl h1)
        injection hm with e1 e2 e3 e4 e5 e6
        subst e1 e2 e3 e4 e5 e6
        have hEb : (E4 == 0) = false := by simpa using h1
        clear HW2 HM2 h1 h2
        go_wp2_with fail
        refine (sameTR s4 v4 r4 A13 A16 c13 c16 fs4 _ (by omega) HF136.out HF16.out).mono ?_
        rintro e w17 ⟨rfl, hb17⟩
        have HB17 := Lib.hid (below_then HB16.out.size HB16.out hb17)
        clear hb17
        go_wp2
        go_ret
        exact ⟨rfl, HB17.out⟩
      · replace h1 : E3 = 0 := h1
        replace h2 : N3 ≠ 0 := h2
        have hm := HM2.out (.inr h2)
        injection hm with e1 e2 e3 e4 e5 e6
        subst e1 e2 e3 e4 e5 e6
        subst h1
        have hNb : (N4 == 0) = false := by simpa using h2
        clear HW2 HM2 h2
        go_wp2_with fail
        refine (sameTR s4 v4 r4 A13 A16 c13 c16 fs4 _ (by omega) HF136.out HF16.out).mono ?_
        rintro e w17 ⟨rfl, hb17⟩
        have HB17 := Lib.hid (below_then HB16.out.size HB16.out hb17)
        clear hb17
        go_wp2
        go_ret
        exact ⟨rfl, HB17.out⟩
end Go.Proofs.YtecopkcogobolaaGreatDoor
