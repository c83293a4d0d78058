/- The walk of the law HopFramed (printed by gen/hopfr.py). Conditions: lists of bulk at most 2^20, texts and bodies of at most 2^20 bytes, numbers of 64 bits; the library's tables of UTF-8 and of powers of ten; internal/bytealg.MaxLen; strconv's two error variables. -/
import Derived.Test.YteehjkfmlcfffaaGreatDoorHopPA
namespace Go.Proofs.YteehjkfmlcfffaaGreatDoor
open Go.RowKit

set_option maxRecDepth 100000 in
set_option maxHeartbeats 4000000 in
theorem hopFramed_any (s : Int) (t : ByteArray) (m : Int) (A : Option Addr) (c : Nat) (fs : List FD) (B0 : Option Addr) (e0 : Nat) (body : List UInt8) (method : ByteArray) (last : Bool) (C0 : Option Addr) (f0 : Nat) (rest : List UInt8) (w : World) (hs0 : -9223372036854775808 ≤ s) (hs1 : s ≤ 9223372036854775807) (hts : t.size ≤ 1048576) (hf : F.bulk fs ≤ 1048576) (hx : Rd w A fs.length 2 (fcells fs))
    (hbl : body.length ≤ 1048576) (hbx : Rd w B0 body.length 1 (bcells body)) (hrl : rest.length ≤ 1048576) (hrx : Rd w C0 rest.length 1 (bcells rest)) (ht : TabOk w) (hlib : LibOk w) (he : ErrOk w) :
    Calls Tryz.prog 7 #[.agg #[.int .i64 s, .string t, .int .i64 m, .slice A fs.length c], .slice B0 body.length e0, .string method, .bool last, .slice C0 rest.length f0] w (RetB w true) := by
  have hn : fs.length ≤ 1048576 := by have := F.len_le_bulk fs; omega
  have hpl := bytesB_len s t m fs (F.bareOf s method) last body
  have HA := Lib.hid (fun (u : World) (hb : Below w.heap.size w u) => alive_any u (ht.below hb))
  have H1 := Lib.hid (fun (u : World) (hb : Below w.heap.size w u) => copyResponse_any s m t A fs.length c fs u rfl (by omega) (hx.below hb))
  have HCB := Lib.hid (fun (u : World) (hb : Below w.heap.size w u) => copyBytes_any B0 e0 body u (by omega) (hbx.below hb))
  have HAK := Lib.hid (fun (A1 : Option Addr) (c1 : Nat) (hn1 : A1 = none → fs.length = 0 ∧ c1 = 0) (C : Option Addr) (d : Nat) (u : World) (hb : Below w.heap.size w u) (hx1 : Rd u A1 fs.length 2 (fcells fs)) (hx2 : Rd u C body.length 1 (bcells body)) => bytes_any s m t A1 c1 fs C d body method last u hs0 hs1 hts hf hx1 hn1 hbl hx2 (ht.below hb))
  have HBX := Lib.hid (fun (u : World) (hb : Below w.heap.size w u) => hbx.below hb)
  have HRX := Lib.hid (fun (u : World) (hb : Below w.heap.size w u) => hrx.below hb)
  have HINB := Lib.hid (fun (A1 : Option Addr) (c1 : Nat) (b0 : Nat) (bs : List UInt8) (hbs : bs.length ≤ 268435456) (u : World) (hu : Below w.heap.size w u) (hr : CRow u b0 A1 bs.length c1 bs) => inboxResponse_any A1 bs.length c1 bs method false u hbs hr.2.1 hr.nilE hr.spotE hr.rd (hlib.below hu) (he.below hu))
  have HEN : F.bytesE s t m fs (F.bareOf s method) last body.length ≠ 0 → F.bytesB s t m fs (F.bareOf s method) last body = [] := fun h => by unfold F.bytesB; rw [if_neg h]
  have HRD := fun h => M.out_round (s := s) (r := t) (v := m) (fs := fs) (last := last) (bd := body) (method := method) h rest
  have HCN := F.out_conn fs (F.bareOf s method) last body.length
  have hbo := F.bulk_out fs (F.bareOf s method) last body.length (by omega)
  have HBO : Hid ((decide (L method = [72, 69, 65, 68]) || decide (100 ≤ s ∧ s ≤ 199) || decide (s = 204) || decide (s = 304) || (decide (L method = [67, 79, 78, 78, 69, 67, 84]) && decide (200 ≤ s ∧ s ≤ 299))) = F.bareOf s method) := Lib.hid rfl
  generalize F.bareOf s method = bb at *
  generalize F.bytesE s t m fs bb last body.length = PE at *
  generalize F.bytesB s t m fs bb last body = PB at *
  generalize F.outF fs bb last body.length = GS at *
  have hgl := F.len_le_bulk GS
  have HTK := Lib.hid (fun (A2 : Option Addr) (c2 : Nat) (u : World) (hx1 : Rd u A2 GS.length 2 (fcells GS)) => tokens_any A2 GS.length c2 GS F.connN u (by omega) rfl (fun f hf => by have := F.mem_bulk hf; omega) (by decide) (by rw [HCN]; cases last <;> decide) hx1)
  rw [HCN] at HTK
  have HRD := Lib.hid HRD
  have HEN := Lib.hid HEN
  clear hx hbx hrx ht hlib he hts hs0 hs1 hf HCN hbo
  go_enter Tryz.func7, Tryz.ntmps7
  go_wp2_with fail
  have HK0 := Lib.hid (Blk.new w #[.int .i64 s, .string t, .int .i64 m, .slice A fs.length c] 27)
  have HB0 := Lib.hid ((Below.refl w.heap.size w).alloc (Nat.le_refl _) (.cells #[.int .i64 s, .string t, .int .i64 m, .slice A fs.length c] 27))
  generalize w.alloc (.cells #[.int .i64 s, .string t, .int .i64 m, .slice A fs.length c] 27) = w0 at *
  refine (HA.out _ HB0.out).mono ?_
  rintro e w1 ⟨rfl, hb1⟩
  have HK1 := Lib.hid (HK0.out.below hb1)
  have HB1 := Lib.hid (below_then HB0.out.size HB0.out hb1)
  obtain ⟨x0, x1, x2, x3⟩ := HK1.out.cells4
  clear hb1 HK0 HB0 HA
  go_wp2_with fail
  refine (H1.out _ HB1.out).mono ?_
  rintro e w2 ⟨A1, c1, rfl, hr2, hb2⟩
  have HN1 := Lib.hid (fun h => hr2.nilB h)
  have HK2 := Lib.hid (HK1.out.below hb2)
  have HB2 := Lib.hid (below_then HB1.out.size HB1.out hb2)
  have HR2 := Lib.hid hr2.rd
  clear hb2 hr2 HK1 HB1 H1 x0 x1 x2 x3
  go_wp2_with fail
  refine (HCB.out _ HB2.out).mono ?_
  rintro e w3 ⟨A2, c2, rfl, hr3, hb3⟩
  have HK3 := Lib.hid (HK2.out.below hb3)
  have HB3 := Lib.hid (below_then HB2.out.size HB2.out hb3)
  have HR3 := Lib.hid (HR2.out.below hb3)
  have HQ3 := Lib.hid hr3.rd
  clear hb3 hr3 HK2 HB2 HCB HR2
  go_wp2_with fail
  refine (HAK.out A1 c1 HN1.out A2 c2 _ HB3.out HR3.out HQ3.out).mono ?_
  rintro e w4 ⟨A4, c4, rfl, hr4, hb4⟩
  have HK4 := Lib.hid (HK3.out.below hb4)
  have HB4 := Lib.hid (below_then HB3.out.size HB3.out hb4)
  have HR4 := Lib.hid hr4
  clear hb4 hr4 HK3 HB3 HAK HR3 HQ3 HN1
  by_cases hPE : PE = 0
  rotate_left
  · have hpb : (PE != 0) = true := by rw [bne_iff_ne]; exact hPE
    have h0 := HEN.out hPE
    subst h0
    go_wp2
    go_ret
    exact ⟨rfl, HB4.out⟩
  subst hPE
  obtain ⟨hq, hs100, hne⟩ := HRD.out rfl
  have HQM := Lib.hid hq
  have hHC := Lib.hid (fun (u : World) (A4 : Option Addr) (c4 : Nat) (hx : Rd u A4 PB.length 1 (bcells PB)) => copyBytes_any A4 c4 PB u (by omega) hx)
  clear HRD HEN hq hne
  go_wp2_with fail
  refine (hHC.out _ A4 c4 HR4.out.rd).mono ?_
  rintro e w5 ⟨A5, c5, rfl, hr5, hb5⟩
  have HK5 := Lib.hid (HK4.out.below hb5)
  have HB5 := Lib.hid (below_then HB4.out.size HB4.out hb5)
  have HC5 := Lib.hid hb5
  have HR5 := Lib.hid hr5
  have HY5 := Lib.hid (HRX.out _ HB5.out)
  clear hb5 hr5 HRX hHC
  have hz4 := HB4.out.size
  have hz5 := HC5.out.size
  go_wp2_with (at_builtin; refine appC _ rfl (.tmp 40) (.tmp 41) rfl w4.heap.size A5 PB.length c5 PB rfl HR5.out C0 rest.length f0 rest rfl HY5.out (by omega) (by omega) ?_; intro A6 c6 w6 hr6 ha6; have HR6 := Lib.hid hr6; have HC6 := Lib.hid (HC5.out.trans (ha6.belowC HR5.out (by omega))); clear hr6 ha6 HR5 HC5 HY5 HB5)
  have HB6 := Lib.hid (below_then hz4 HB4.out HC6.out)
  have HK6 := Lib.hid (HK4.out.below HC6.out)
  have hlm : (PB ++ rest).length = PB.length + rest.length := List.length_append
  have HIN := HINB.out A6 c6 w4.heap.size (PB ++ rest) (by omega) _ HB6.out (by rw [hlm]; exact HR6.out)
  rw [HQM.out, hlm] at HIN
  have HIN := Lib.hid HIN
  clear HK4 HB4 HC6 HR4 HK5 HR6 HINB HQM hz4 hz5
  obtain ⟨BD, hBD⟩ : ∃ BD, BD = (if bb = true then [] else body) := ⟨_, rfl⟩
  rw [← hBD] at HIN
  have HBD := Lib.hid hBD
  clear hBD
  refine HIN.out.mono ?_
  rintro e w7 ⟨A5, c5, D5, d5, T5, k5, rfl, hr7, hd7, hf7, hb7⟩
  replace hr7 : Row w7 w6.heap.size 148 2 A5 GS.length c5 (fcells GS) := hr7
  replace hd7 : CRow w7 w6.heap.size D5 BD.length d5 BD := hd7
  have HK8 := Lib.hid ((HK6.out.below hb7).alloc (.cells #[.string ⟨#[]⟩, .string ⟨#[]⟩, .int .i64 0, .slice none 0 0, .int .i64 s, .string t, .int .i64 m, .slice A5 GS.length c5, .slice D5 BD.length d5, .slice T5 0 k5] 29))
  have HB8 := Lib.hid ((below_then HB6.out.size HB6.out hb7).alloc (by have := HB6.out.size; have := hb7.size; omega) (.cells #[.string ⟨#[]⟩, .string ⟨#[]⟩, .int .i64 0, .slice none 0 0, .int .i64 s, .string t, .int .i64 m, .slice A5 GS.length c5, .slice D5 BD.length d5, .slice T5 0 k5] 29))
  have HX8 := Lib.hid (Blk.new w7 #[.string ⟨#[]⟩, .string ⟨#[]⟩, .int .i64 0, .slice none 0 0, .int .i64 s, .string t, .int .i64 m, .slice A5 GS.length c5, .slice D5 BD.length d5, .slice T5 0 k5] 29)
  have HR8 := Lib.hid (hr7.rd.alloc (.cells #[.string ⟨#[]⟩, .string ⟨#[]⟩, .int .i64 0, .slice none 0 0, .int .i64 s, .string t, .int .i64 m, .slice A5 GS.length c5, .slice D5 BD.length d5, .slice T5 0 k5] 29))
  have HD8 := Lib.hid (hd7.rd.alloc (.cells #[.string ⟨#[]⟩, .string ⟨#[]⟩, .int .i64 0, .slice none 0 0, .int .i64 s, .string t, .int .i64 m, .slice A5 GS.length c5, .slice D5 BD.length d5, .slice T5 0 k5] 29))
  clear hr7 hd7 hf7 hb7 HK6 HB6 HIN
  go_upto_region 10 with fail
  generalize w7.heap.size = b8 at *
  generalize w7.alloc (.cells #[.string ⟨#[]⟩, .string ⟨#[]⟩, .int .i64 0, .slice none 0 0, .int .i64 s, .string t, .int .i64 m, .slice A5 GS.length c5, .slice D5 BD.length d5, .slice T5 0 k5] 29) = w8 at *
  obtain ⟨x0, x1, x2, x3⟩ := HK8.out.cells4
  obtain ⟨y0, y1, y2, y3, y4, y5, y6, y7, y8, y9⟩ := HX8.out.cells10
  go_wp2_with fail
  refine (HTK.out A5 c5 _ HR8.out).mono ?_
  rintro e w9 ⟨A9, c9, rfl, hr9, hb9⟩
  have HK9 := Lib.hid (HK8.out.below hb9)
  have HB9 := Lib.hid (below_then HB8.out.size HB8.out hb9)
  have HX9 := Lib.hid (HX8.out.below hb9)
  have HD9 := Lib.hid (HD8.out.below hb9)
  have HR9 := Lib.hid hr9.rd
  clear hr9 hb9 HK8 HB8 HX8 HD8 HTK x0 x1 x2 x3 y0 y1 y2 y3 y4 y5 y6 y7 y8 y9
  go_upto_region 13 with fail
  obtain ⟨x0, x1, x2, x3⟩ := HK9.out.cells4
  obtain ⟨y0, y1, y2, y3, y4, y5, y6, y7, y8, y9⟩ := HX9.out.cells10
  have HSB := Lib.hid (fun (u : World) (h0 : BD = body) (hb : Below w9.heap.size w9 u) => sameBB D5 B0 body.length d5 e0 body u (by omega) rfl (by have := HD9.out.below hb; rw [h0] at this; exact this) (HBX.out u (below_then HB9.out.size HB9.out hb)))
  clear HD9 HBX HR8
  cases last
  all_goals
    simp only [Bool.false_eq_true, if_false, if_true] at HR9

  · -- last = false
    by_cases g1 : method.toList = [72, 69, 65, 68]
    · have g1L : L method = [72, 69, 65, 68] := by rw [← L_toList]; exact g1
      have hbb : bb = true := by
        rw [← HBO.out]
        simp [g1L]
      have hbd : BD = [] := by rw [HBD.out, if_pos hbb]
      subst hbd
      go_wp2
      go_ret
      exact ⟨rfl, HB9.out⟩
    have g1n : ¬ method.toList = [72, 69, 65, 68] := g1
    have g1b : (method.toList == [72, 69, 65, 68]) = false := beq_eq_false_iff_ne.2 g1
    by_cases g2 : s < 200
    · have g2b : decide (s < 200) = true := decide_eq_true g2
      have hbb : bb = true := by
        rw [← HBO.out]
        have : decide (100 ≤ s ∧ s ≤ 199) = true := decide_eq_true ⟨hs100, by omega⟩
        simp [this]
      have hbd : BD = [] := by rw [HBD.out, if_pos hbb]
      subst hbd
      go_wp2
      go_ret
      exact ⟨rfl, HB9.out⟩
    have g2b : decide (s < 200) = false := decide_eq_false g2
    by_cases g3 : s = 204
    · have g3b : (s == 204) = true := beq_iff_eq.2 g3
      have hbb : bb = true := by
        rw [← HBO.out]
        simp [g3]
      have hbd : BD = [] := by rw [HBD.out, if_pos hbb]
      subst hbd
      go_wp2
      go_ret
      exact ⟨rfl, HB9.out⟩
    have g3b : (s == 204) = false := beq_eq_false_iff_ne.2 g3
    by_cases g4 : s = 304
    · have g4b : (s == 304) = true := beq_iff_eq.2 g4
      have hbb : bb = true := by
        rw [← HBO.out]
        simp [g4]
      have hbd : BD = [] := by rw [HBD.out, if_pos hbb]
      subst hbd
      go_wp2
      go_ret
      exact ⟨rfl, HB9.out⟩
    have g4b : (s == 304) = false := beq_eq_false_iff_ne.2 g4
    by_cases g5 : method.toList = [67, 79, 78, 78, 69, 67, 84]
    · by_cases g6 : s < 300
      · have g6b : decide (s < 300) = true := decide_eq_true g6
        have g5L : L method = [67, 79, 78, 78, 69, 67, 84] := by rw [← L_toList]; exact g5
        have hbb : bb = true := by
          rw [← HBO.out]
          have : decide (200 ≤ s ∧ s ≤ 299) = true := decide_eq_true ⟨by omega, by omega⟩
          simp [g5L, this]
        have hbd : BD = [] := by rw [HBD.out, if_pos hbb]
        subst hbd
        go_wp2
        go_ret
        exact ⟨rfl, HB9.out⟩
      · have g6b : decide (s < 300) = false := decide_eq_false g6
        have n1 : ¬ L method = [72, 69, 65, 68] := by rw [← L_toList]; exact g1
        have hbb : bb = false := by
          rw [← HBO.out]
          have a1 : decide (100 ≤ s ∧ s ≤ 199) = false := decide_eq_false (by omega)
          have a2 : decide (200 ≤ s ∧ s ≤ 299) = false := decide_eq_false (by omega)
          simp [n1, a1, a2, g3, g4]
        have hbd : BD = body := by rw [HBD.out, hbb]; rfl
        have HSC := Lib.hid (HSB.out w9 hbd (Below.refl _ _))
        have hbl2 : BD.length = body.length := by rw [hbd]
        rw [hbl2] at *
        go_wp2_with fail
        refine HSC.out.mono ?_
        rintro e w10 ⟨rfl, hb10⟩
        have HB10 := Lib.hid (below_then HB9.out.size HB9.out hb10)
        go_wp2
        go_ret
        exact ⟨rfl, HB10.out⟩
    · have g5n : ¬ method.toList = [67, 79, 78, 78, 69, 67, 84] := g5
      have g5b : (method.toList == [67, 79, 78, 78, 69, 67, 84]) = false := beq_eq_false_iff_ne.2 g5
      have n1 : ¬ L method = [72, 69, 65, 68] := by rw [← L_toList]; exact g1
      have n5 : ¬ L method = [67, 79, 78, 78, 69, 67, 84] := by rw [← L_toList]; exact g5
      have hbb : bb = false := by
        rw [← HBO.out]
        have a1 : decide (100 ≤ s ∧ s ≤ 199) = false := decide_eq_false (by omega)
        simp [n1, n5, a1, g3, g4]
      have hbd : BD = body := by rw [HBD.out, hbb]; rfl
      have HSC := Lib.hid (HSB.out w9 hbd (Below.refl _ _))
      have hbl2 : BD.length = body.length := by rw [hbd]
      rw [hbl2] at *
      go_wp2_with fail
      refine HSC.out.mono ?_
      rintro e w10 ⟨rfl, hb10⟩
      have HB10 := Lib.hid (below_then HB9.out.size HB9.out hb10)
      go_wp2
      go_ret
      exact ⟨rfl, HB10.out⟩
  · -- last = true
    obtain ⟨b9, o9, rfl, hb9, cx9⟩ := HR9.out.str (k := 0) (by decide) rfl
    rw [Nat.add_zero] at cx9
    replace cx9 : w9.cell? ⟨b9, o9, none⟩ = some (.string ⟨#[99, 108, 111, 115, 101]⟩) := cx9
    by_cases g1 : method.toList = [72, 69, 65, 68]
    · have g1L : L method = [72, 69, 65, 68] := by rw [← L_toList]; exact g1
      have hbb : bb = true := by
        rw [← HBO.out]
        simp [g1L]
      have hbd : BD = [] := by rw [HBD.out, if_pos hbb]
      subst hbd
      go_wp2
      go_ret
      exact ⟨rfl, HB9.out⟩
    have g1n : ¬ method.toList = [72, 69, 65, 68] := g1
    have g1b : (method.toList == [72, 69, 65, 68]) = false := beq_eq_false_iff_ne.2 g1
    by_cases g2 : s < 200
    · have g2b : decide (s < 200) = true := decide_eq_true g2
      have hbb : bb = true := by
        rw [← HBO.out]
        have : decide (100 ≤ s ∧ s ≤ 199) = true := decide_eq_true ⟨hs100, by omega⟩
        simp [this]
      have hbd : BD = [] := by rw [HBD.out, if_pos hbb]
      subst hbd
      go_wp2
      go_ret
      exact ⟨rfl, HB9.out⟩
    have g2b : decide (s < 200) = false := decide_eq_false g2
    by_cases g3 : s = 204
    · have g3b : (s == 204) = true := beq_iff_eq.2 g3
      have hbb : bb = true := by
        rw [← HBO.out]
        simp [g3]
      have hbd : BD = [] := by rw [HBD.out, if_pos hbb]
      subst hbd
      go_wp2
      go_ret
      exact ⟨rfl, HB9.out⟩
    have g3b : (s == 204) = false := beq_eq_false_iff_ne.2 g3
    by_cases g4 : s = 304
    · have g4b : (s == 304) = true := beq_iff_eq.2 g4
      have hbb : bb = true := by
        rw [← HBO.out]
        simp [g4]
      have hbd : BD = [] := by rw [HBD.out, if_pos hbb]
      subst hbd
      go_wp2
      go_ret
      exact ⟨rfl, HB9.out⟩
    have g4b : (s == 304) = false := beq_eq_false_iff_ne.2 g4
    by_cases g5 : method.toList = [67, 79, 78, 78, 69, 67, 84]
    · by_cases g6 : s < 300
      · have g6b : decide (s < 300) = true := decide_eq_true g6
        have g5L : L method = [67, 79, 78, 78, 69, 67, 84] := by rw [← L_toList]; exact g5
        have hbb : bb = true := by
          rw [← HBO.out]
          have : decide (200 ≤ s ∧ s ≤ 299) = true := decide_eq_true ⟨by omega, by omega⟩
          simp [g5L, this]
        have hbd : BD = [] := by rw [HBD.out, if_pos hbb]
        subst hbd
        go_wp2
        go_ret
        exact ⟨rfl, HB9.out⟩
      · have g6b : decide (s < 300) = false := decide_eq_false g6
        have n1 : ¬ L method = [72, 69, 65, 68] := by rw [← L_toList]; exact g1
        have hbb : bb = false := by
          rw [← HBO.out]
          have a1 : decide (100 ≤ s ∧ s ≤ 199) = false := decide_eq_false (by omega)
          have a2 : decide (200 ≤ s ∧ s ≤ 299) = false := decide_eq_false (by omega)
          simp [n1, a1, a2, g3, g4]
        have hbd : BD = body := by rw [HBD.out, hbb]; rfl
        have HSC := Lib.hid (HSB.out w9 hbd (Below.refl _ _))
        have hbl2 : BD.length = body.length := by rw [hbd]
        rw [hbl2] at *
        go_wp2_with fail
        refine HSC.out.mono ?_
        rintro e w10 ⟨rfl, hb10⟩
        have HB10 := Lib.hid (below_then HB9.out.size HB9.out hb10)
        go_wp2
        go_ret
        exact ⟨rfl, HB10.out⟩
    · have g5n : ¬ method.toList = [67, 79, 78, 78, 69, 67, 84] := g5
      have g5b : (method.toList == [67, 79, 78, 78, 69, 67, 84]) = false := beq_eq_false_iff_ne.2 g5
      have n1 : ¬ L method = [72, 69, 65, 68] := by rw [← L_toList]; exact g1
      have n5 : ¬ L method = [67, 79, 78, 78, 69, 67, 84] := by rw [← L_toList]; exact g5
      have hbb : bb = false := by
        rw [← HBO.out]
        have a1 : decide (100 ≤ s ∧ s ≤ 199) = false := decide_eq_false (by omega)
        simp [n1, n5, a1, g3, g4]
      have hbd : BD = body := by rw [HBD.out, hbb]; rfl
      have HSC := Lib.hid (HSB.out w9 hbd (Below.refl _ _))
      have hbl2 : BD.length = body.length := by rw [hbd]
      rw [hbl2] at *
      go_wp2_with fail
      refine HSC.out.mono ?_
      rintro e w10 ⟨rfl, hb10⟩
      have HB10 := Lib.hid (below_then HB9.out.size HB9.out hb10)
      go_wp2
      go_ret
      exact ⟨rfl, HB10.out⟩
end Go.Proofs.YteehjkfmlcfffaaGreatDoor
