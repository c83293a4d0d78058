/- The walk of the law HeadRound. Conditions: lists of bulk at most 2^20, texts and rows of at most 2^20 bytes, numbers of 64 bits; the library's tables; internal/bytealg.MaxLen holds some number; strconv's two error variables hold errors. -/
import Derived.Test.YtecopkcogobolaaGreatDoorGrows
import Derived.Test.YtecopkcogobolaaGreatDoorRound
import Derived.Test.YtecopkcogobolaaGreatDoorPrints
import Derived.Test.YtecopkcogobolaaGreatDoorMarkL
namespace Go.Proofs.YtecopkcogobolaaGreatDoor
open Go.RowKit

theorem Two.appC {w u v : World} {X O : Array Value} {tX tO : TypeId} {A A' : Option Addr} {c c' base n : Nat} {bs : List UInt8} (h : Two w X tX O tO u) (ha : App u v A c A' c') (hr : CRow u base A n c bs) (hb : w.heap.size + 2 ≤ base) (hbu : base ≤ u.heap.size) : Two w X tX O tO v :=
  ⟨h.1.app ha (fun k hk => by have := (hr.lt k hk).1; omega), h.2.1.app ha (fun k hk => by have := (hr.lt k hk).1; omega), h.2.2.trans ((ha.belowC hr hbu).mono (by omega))⟩
theorem reqE_minor {s t : ByteArray} {m : Int} {fs : List FD} (h : F.reqE s t m fs = 0) : 0 ≤ m ∧ m ≤ 1 := by
  unfold F.reqE at h
  split at h
  · rename_i hok
    unfold F.reqOk at hok
    simp only [Bool.and_eq_true, decide_eq_true_eq] at hok
    omega
  · cases h
theorem respB_bad {k : Int} {r : ByteArray} {v : Int} {gs : List FD} (h : F.respE k r v gs ≠ 0) : F.respB k r v gs = [] := if_neg h

set_option maxRecDepth 100000 in
set_option maxHeartbeats 8000000 in
theorem headRound_any (s t : ByteArray) (m : Int) (A : Option Addr) (c : Nat) (fs : List FD) (k : Int) (r : ByteArray) (v : Int) (B0 : Option Addr) (d : Nat) (gs : List FD) (C0 : Option Addr) (e0 : Nat) (rs : List UInt8) (w : World)
    (hs : s.size ≤ 1048576) (hts : t.size ≤ 1048576) (h0 : -9223372036854775808 ≤ m) (h1 : m ≤ 9223372036854775807) (hf : F.bulk fs ≤ 1048576) (hx : Rd w A fs.length 2 (fcells fs)) (hr : r.size ≤ 1048576) (hg : F.bulk gs ≤ 1048576) (hy : Rd w B0 gs.length 2 (fcells gs)) (hrl : rs.length ≤ 1048576) (hz : Rd w C0 rs.length 1 (bcells rs)) (ht : TabOk w) (hlib : LibOk w) (her : ErrOk w) :
    Calls Tryz.prog 8 #[.agg #[.string s, .string t, .int .i64 m, .slice A fs.length c], .agg #[.int .i64 k, .string r, .int .i64 v, .slice B0 gs.length d], .slice C0 rs.length e0] w (RetB w true) := by
  have hn : fs.length ≤ 1048576 := by have := F.len_le_bulk fs; omega
  have hn2 : gs.length ≤ 1048576 := by have := F.len_le_bulk gs; omega
  have hpl := reqB_le s t m fs
  have hpl2 := respB_le k r v gs
  have hsm : FSmall fs := fun f hfm => by have h1 := F.mem_bulk hfm; omega
  have HA := Lib.hid (fun (u : World) (hb : Below w.heap.size w u) => headAlive_any u (hlib.below hb))
  have H1 := Lib.hid (fun (u : World) (hb : Below w.heap.size w u) => copyRequest_any m s t A fs.length c fs u rfl (by omega) (hx.below hb))
  have H2 := Lib.hid (fun (u : World) (hb : Below w.heap.size w u) => copyResponse_any k v r B0 gs.length d gs u rfl (by omega) (hy.below hb))
  have H3 := Lib.hid (fun (u : World) (hb : Below w.heap.size w u) => copyFields_any A fs.length c fs u (by omega) (hx.below hb))
  have H4 := Lib.hid (fun (A1 : Option Addr) (c1 : Nat) (u : World) (hr : Rd u A1 fs.length 2 (fcells fs)) => values_any A1 fs.length c1 fs ⟨#[72, 111, 115, 116]⟩ u (by omega) rfl hsm (by decide) hr)
  have HP := Lib.hid (fun (A1 : Option Addr) (c1 : Nat) (u : World) (hb : Below w.heap.size w u) (hx1 : Rd u A1 fs.length 2 (fcells fs)) => printRequest_any s t m A1 c1 fs u (by omega) (by omega) h0 h1 (by omega) hx1 (ht.below hb))
  have HS := Lib.hid (fun (A1 : Option Addr) (c1 : Nat) (u : World) (hb : Below w.heap.size w u) (hx1 : Rd u A1 gs.length 2 (fcells gs)) => printResponse_any k r v A1 c1 gs u (by omega) (by omega) hx1 (ht.below hb))
  have HQ := Lib.hid (fun (A1 : Option Addr) (c1 : Nat) (u : World) (hb : Below w.heap.size w u) (hx1 : Rd u A1 fs.length 2 (fcells fs)) => sameTQ m s t A1 A c1 c fs u (by omega) hx1 (hx.below hb))
  have HR := Lib.hid (fun (A1 : Option Addr) (c1 : Nat) (u : World) (hb : Below w.heap.size w u) (hx1 : Rd u A1 gs.length 2 (fcells gs)) => sameTR k v r A1 B0 c1 d gs u (by omega) hx1 (hy.below hb))
  have HYY := Lib.hid (fun (u : World) (hb : Below w.heap.size w u) => hz.below hb)
  have HCP := Lib.hid (fun (A1 : Option Addr) (c1 : Nat) (l : List UInt8) (u : World) (hl : l.length ≤ 8192) (hr : Rd u A1 l.length 1 (bcells l)) => copyBytes_any A1 c1 l u (by omega) hr)
  have HRQ := Lib.hid (fun (A1 : Option Addr) (n1 c1 b1 : Nat) (l : List UInt8) (u : World) (hl : l.length ≤ 1073741824) (hu : Below w.heap.size w u) (hr : CRow u b1 A1 n1 c1 l) => request_any A1 n1 c1 l u (by have := hr.1; omega) hr.2.1 hr.nilC hr.spotC hr.rd (hlib.below hu))
  have HSQ := Lib.hid (fun (A1 : Option Addr) (n1 c1 b1 : Nat) (l : List UInt8) (u : World) (hl : l.length ≤ 1073741824) (hu : Below w.heap.size w u) (hr : CRow u b1 A1 n1 c1 l) => hresponse_any A1 n1 c1 l u (by have := hr.1; omega) hr.2.1 hr.nilC hr.spotC hr.rd (hlib.below hu) (her.below hu))
  have HF1 := Lib.hid (fun (h : F.reqE s t m fs = 0) (hh : P.hostsOf fs = 1 ∨ (P.hostsOf fs = 0 ∧ m = 0)) => P.request_round h hh rs)
  have HF2 := Lib.hid (fun (h : F.respE k r v gs = 0) => P.response_round h rs)
  have HF3 := Lib.hid (fun (h : F.reqE s t m fs = 0) => reqE_minor h)
  have HF4 := Lib.hid (fun (h : F.respE k r v gs ≠ 0) => respB_bad h)
  have hvl := F.values_le fs ⟨#[72, 111, 115, 116]⟩
  have HHO : Hid (P.hostsOf fs = ((F.values fs ⟨#[72, 111, 115, 116]⟩).length : Int)) := Lib.hid rfl
  rw [HHO.out] at HF1
  generalize F.reqB s t m fs = PB at *
  generalize F.reqE s t m fs = PE at *
  generalize F.respB k r v gs = SB at *
  generalize F.respE k r v gs = SE at *
  clear hx hy hz ht hlib her hs hts h0 h1 hf hr hg hsm HHO
  have HS0 := Lib.hid (Two.start w #[.string s, .string t, .int .i64 m, .slice A fs.length c] 24 #[.int .i64 k, .string r, .int .i64 v, .slice B0 gs.length d] 26)
  go_enter Tryz.func8, Tryz.ntmps8
  go_wp2_with fail
  generalize (w.alloc (.cells #[.string s, .string t, .int .i64 m, .slice A fs.length c] 24)).alloc (.cells #[.int .i64 k, .string r, .int .i64 v, .slice B0 gs.length d] 26) = w0 at *
  refine (HA.out _ HS0.out.2.2).mono ?_
  rintro e w1 ⟨rfl, hb1⟩
  have HS1 := Lib.hid (HS0.out.below hb1)
  obtain ⟨x0, x1, x2, x3⟩ := HS1.out.1.cells4
  clear hb1 HS0 HA
  go_wp2_with fail
  clear x0 x1 x2 x3
  refine (H1.out _ HS1.out.2.2).mono ?_
  rintro e w2 ⟨A2, c2, rfl, hr2, hb2⟩
  have HS2 := Lib.hid (HS1.out.below hb2)
  have HR2 := Lib.hid hr2.rd
  clear hb2 hr2 HS1 H1
  go_wp2_with fail
  refine (HP.out A2 c2 _ HS2.out.2.2 HR2.out).mono ?_
  rintro e w3 ⟨A3, c3, rfl, hr3, hb3⟩
  have HS3 := Lib.hid (HS2.out.below hb3)
  have HR3 := Lib.hid hr3.rd
  obtain ⟨x0, x1, x2, x3⟩ := HS3.out.1.cells4
  clear hb3 hr3 HS2 HR2 HP
  go_wp2_with fail
  clear x0 x1 x2 x3
  refine (H3.out _ HS3.out.2.2).mono ?_
  rintro e w4 ⟨A4, c4, rfl, hr4, hb4⟩
  have HS4 := Lib.hid (HS3.out.below hb4)
  have HR34 := Lib.hid (HR3.out.below hb4)
  have HR4 := Lib.hid hr4.rd
  clear hb4 hr4 HS3 HR3 H3
  go_wp2_with fail
  refine (H4.out A4 c4 _ HR4.out).mono ?_
  rintro e w5 ⟨A5, c5, rfl, hr5, hb5⟩
  have HS5 := Lib.hid (HS4.out.below hb5)
  have HR35 := Lib.hid (HR34.out.below hb5)
  clear hb5 hr5 HS4 HR34 HR4 H4
  generalize (F.values fs ⟨#[72, 111, 115, 116]⟩).length = HN at *
  go_upto_region 5 with fail
  obtain ⟨bb, hbb⟩ : ∃ bb : Bool, bb = decide (PE = 0 ∧ ((HN : Int) = 1 ∨ ((HN : Int) = 0 ∧ m = 0))) := ⟨_, rfl⟩
  have HBB := Lib.hid hbb
  clear hbb
  go_cut [47] (fun s47 wx => s47 = .bool bb ∧ wx = w5)
  case first =>
    obtain ⟨x0, x1, x2, x3⟩ := HS5.out.1.cells4
    have hbb := HBB.out
    have HM := Lib.hid (fun h => HF3.out h)
    clear HBB H2 HS HQ HR HYY HCP HRQ HSQ HF1 HF2 HF3 HF4 HR35
    by_cases hpe : PE = 0
    · obtain ⟨hm0, hm1⟩ := HM.out hpe
      have hpb : (PE == 0) = true := by simpa using hpe
      subst hpe
      by_cases hh1 : (HN : Int) = 1
      · have hh1b : ((HN : Int) == 1) = true := by simpa using hh1
        obtain rfl : bb = true := by rw [hbb]; exact decide_eq_true ⟨rfl, .inl hh1⟩
        clear hbb HM
        go_wp2_with fail
        go_meet
        exact ⟨rfl, rfl⟩
      · have hh1b : ((HN : Int) == 1) = false := by simpa using hh1
        by_cases hh0 : (HN : Int) = 0
        · have hh0b : ((HN : Int) == 0) = true := by simpa using hh0
          by_cases hm : m = 0
          · have hmb : (m == 0) = true := by simpa using hm
            obtain rfl : bb = true := by rw [hbb]; exact decide_eq_true ⟨rfl, .inr ⟨hh0, hm⟩⟩
            clear hbb HM
            go_wp2_with fail
            go_meet
            exact ⟨rfl, rfl⟩
          · have hmb : (m == 0) = false := by simpa using hm
            obtain rfl : bb = false := by rw [hbb]; exact decide_eq_false (by rintro ⟨_, h | h⟩; exact hh1 h; exact hm h.2)
            clear hbb HM
            go_wp2_with fail
            go_meet
            exact ⟨rfl, rfl⟩
        · have hh0b : ((HN : Int) == 0) = false := by simpa using hh0
          obtain rfl : bb = false := by rw [hbb]; exact decide_eq_false (by rintro ⟨_, h | h⟩; exact hh1 h; exact hh0 h.1)
          clear hbb HM
          go_wp2_with fail
          go_meet
          exact ⟨rfl, rfl⟩
    · have hpb : (PE == 0) = false := by simpa using hpe
      obtain rfl : bb = false := by rw [hbb]; exact decide_eq_false (fun h => hpe h.1)
      clear hbb HM
      go_wp2_with fail
      go_meet
      exact ⟨rfl, rfl⟩
  case rest =>
    obtain ⟨rfl, rfl⟩ := hcut
    clear HF3
    go_upto_if 47 with fail
    go_cut [] (fun wx => Two w #[.string s, .string t, .int .i64 m, .slice A fs.length c] 24 #[.int .i64 k, .string r, .int .i64 v, .slice B0 gs.length d] 26 wx)
    case first =>
      clear H2 HS HR HSQ HF2 HF4
      cases bb
      · clear HBB HQ HYY HCP HRQ HF1 HR35
        go_wp2_with fail
        go_meet
        exact HS5.out
      · obtain ⟨hpe, hho⟩ := of_decide_eq_true HBB.out.symm
        obtain ⟨g1, g2, g3, g4⟩ := HF1.out hpe hho
        have HG1 := Lib.hid g1
        have HG4 := Lib.hid g4
        have hpz : 0 < PB.length := g3
        clear HBB HF1 g1 g2 g3 g4 hpe hho
        go_wp2_with fail
        refine (HCP.out A3 c3 PB _ hpl HR35.out).mono ?_
        rintro e w7 ⟨A7, c7, rfl, hr7, hb7⟩
        have HS7 := Lib.hid (HS5.out.below hb7)
        have HR7 := Lib.hid hr7
        have HY7 := Lib.hid (HYY.out _ HS7.out.2.2)
        have hz7 := hb7.size
        have hz5 := HS5.out.size
        clear hb7 hr7 HS5 HR35 HYY HCP
        go_wp2_with (at_builtin; refine appC _ rfl (.tmp 52) (.tmp 53) rfl wc.heap.size A7 PB.length c7 PB rfl HR7.out C0 rs.length e0 rs rfl HY7.out (by omega) hz7 ?_; intro A8 c8 w8 hr8 ha8; have HR8 := Lib.hid hr8; have HS8 := Lib.hid (HS7.out.appC ha8 HR7.out hz5 hz7); clear hr8 ha8 HS7 HR7 HY7)
        refine (HRQ.out A8 _ c8 _ (PB ++ rs) _ (by rw [List.length_append]; omega) HS8.out.2.2 HR8.out).mono ?_
        rw [HG1.out]
        rintro e w9 ⟨A9, c9, rfl, hr9, hb9⟩
        have HS9 := Lib.hid ((HS8.out.below hb9).alloc (.cells #[.string s, .string t, .int .i64 m, .slice A9 fs.length c9] 24))
        have HR89 := Lib.hid ((HR8.out.below hb9).alloc (.cells #[.string s, .string t, .int .i64 m, .slice A9 fs.length c9] 24))
        have HX9 := Lib.hid (Blk.new w9 #[.string s, .string t, .int .i64 m, .slice A9 fs.length c9] 24)
        have HF9 := Lib.hid (hr9.rd.alloc (.cells #[.string s, .string t, .int .i64 m, .slice A9 fs.length c9] 24))
        clear hb9 hr9 HS8 HR8 HG1
        obtain ⟨x0, x1, x2, x3⟩ := HX9.out.cells4
        obtain ⟨y0, y1, y2, y3⟩ := HS9.out.1.cells4
        go_wp2_with fail
        clear x0 x1 x2 x3 y0 y1 y2 y3
        generalize w9.alloc (.cells #[.string s, .string t, .int .i64 m, .slice A9 fs.length c9] 24) = w10 at *
        refine (HQ.out A9 c9 _ HS9.out.2.2 HF9.out).mono ?_
        rintro e w11 ⟨rfl, hb11⟩
        have HS11 := Lib.hid (HS9.out.below hb11)
        have HR811 := Lib.hid (HR89.out.below hb11)
        clear hb11 HS9 HR89 HX9 HF9 HQ
        obtain ⟨p, hp⟩ : ∃ p, PB.length = p + 1 := ⟨PB.length - 1, by omega⟩
        have e6 : (PB.length : Int) - 1 = (p : Int) := by omega
        have hcap := HR811.out.2.1
        have hpc : (p : Int) ≤ (c8 : Int) := by omega
        have HR12 := Lib.hid (HR811.out.front (m := p) (by omega))
        have htk : (PB ++ rs).take p = PB.take (PB.length - 1) := by rw [List.take_append_of_le_length (by omega), hp]; rfl
        rw [htk] at HR12
        obtain ⟨g, rfl⟩ : ∃ g, A8 = some ⟨g, 0, none⟩ := by
          rcases HR811.out.2.2 with h | ⟨g, h, _⟩
          · omega
          · exact ⟨g, h⟩
        clear htk HR811 hp
        go_wp2_with fail
        refine (HRQ.out (some ⟨g, 0, none⟩) p c8 _ (PB.take (PB.length - 1)) _ (by rw [List.length_take]; omega) HS11.out.2.2 HR12.out).mono ?_
        rw [HG4.out]
        rintro e w12 ⟨A12, c12, rfl, hr12, hb12⟩
        have HS12 := Lib.hid (HS11.out.below hb12)
        have hq1 : (P.RQ.bad 0).n = 0 := rfl
        have hq2 : (P.RQ.bad 0).e = 0 := rfl
        rw [hq1, hq2]
        clear hb12 hr12 HS11 HR12 HG4 HRQ hq1 hq2
        go_wp2_with fail
        go_meet
        exact HS12.out
    case rest =>
      have HS6 := Lib.hid hcut
      clear hcut HS5 HR35 HBB HF1 HRQ HQ
      obtain ⟨x0, x1, x2, x3⟩ := HS6.out.2.1.cells4
      go_wp2_with fail
      clear x0 x1 x2 x3
      refine (H2.out _ HS6.out.2.2).mono ?_
      rintro e w2 ⟨A2, c2, rfl, hr2, hb2⟩
      have HS2 := Lib.hid (HS6.out.below hb2)
      have HR2 := Lib.hid hr2.rd
      clear hb2 hr2 HS6 H2
      go_wp2_with fail
      refine (HS.out A2 c2 _ HS2.out.2.2 HR2.out).mono ?_
      rintro e w3 ⟨A3', c3', rfl, hr3, hb3⟩
      have HS3 := Lib.hid (HS2.out.below hb3)
      have HR3 := Lib.hid hr3.rd
      clear hb3 hr3 HS2 HR2 HS
      by_cases hse : SE = 0
      · obtain ⟨g1, g2, g3, g4⟩ := HF2.out hse
        have HG1 := Lib.hid g1
        have HG4 := Lib.hid g4
        have hpz : 0 < SB.length := g3
        subst hse
        clear HF2 HF4 g1 g2 g3 g4
        go_wp2_with fail
        refine (HCP.out A3' c3' SB _ hpl2 HR3.out).mono ?_
        rintro e w7 ⟨A7, c7, rfl, hr7, hb7⟩
        have HS7 := Lib.hid (HS3.out.below hb7)
        have HR7 := Lib.hid hr7
        have HY7 := Lib.hid (HYY.out _ HS7.out.2.2)
        have hz7 := hb7.size
        have hz5 := HS3.out.size
        clear hb7 hr7 HS3 HR3 HYY HCP
        go_wp2_with (at_builtin; refine appC _ rfl (.tmp 104) (.tmp 105) rfl w3.heap.size A7 SB.length c7 SB rfl HR7.out C0 rs.length e0 rs rfl HY7.out (by omega) hz7 ?_; intro A8 c8 w8 hr8 ha8; have HR8 := Lib.hid hr8; have HS8 := Lib.hid (HS7.out.appC ha8 HR7.out hz5 hz7); clear hr8 ha8 HS7 HR7 HY7)
        refine (HSQ.out A8 _ c8 _ (SB ++ rs) _ (by rw [List.length_append]; omega) HS8.out.2.2 HR8.out).mono ?_
        rw [HG1.out]
        rintro e w9 ⟨A9, c9, rfl, hr9, hb9⟩
        have HS9 := Lib.hid ((HS8.out.below hb9).alloc (.cells #[.int .i64 k, .string r, .int .i64 v, .slice A9 gs.length c9] 26))
        have HR89 := Lib.hid ((HR8.out.below hb9).alloc (.cells #[.int .i64 k, .string r, .int .i64 v, .slice A9 gs.length c9] 26))
        have HX9 := Lib.hid (Blk.new w9 #[.int .i64 k, .string r, .int .i64 v, .slice A9 gs.length c9] 26)
        have HF9 := Lib.hid (hr9.rd.alloc (.cells #[.int .i64 k, .string r, .int .i64 v, .slice A9 gs.length c9] 26))
        clear hb9 hr9 HS8 HR8 HG1
        obtain ⟨x0, x1, x2, x3⟩ := HX9.out.cells4
        obtain ⟨y0, y1, y2, y3⟩ := HS9.out.2.1.cells4
        go_wp2_with fail
        clear x0 x1 x2 x3 y0 y1 y2 y3
        generalize w9.alloc (.cells #[.int .i64 k, .string r, .int .i64 v, .slice A9 gs.length c9] 26) = w10 at *
        refine (HR.out A9 c9 _ HS9.out.2.2 HF9.out).mono ?_
        rintro e w11 ⟨rfl, hb11⟩
        have HS11 := Lib.hid (HS9.out.below hb11)
        have HR811 := Lib.hid (HR89.out.below hb11)
        clear hb11 HS9 HR89 HX9 HF9 HR
        obtain ⟨p, hp⟩ : ∃ p, SB.length = p + 1 := ⟨SB.length - 1, by omega⟩
        have e6 : (SB.length : Int) - 1 = (p : Int) := by omega
        have hcap := HR811.out.2.1
        have hpc : (p : Int) ≤ (c8 : Int) := by omega
        have HR12 := Lib.hid (HR811.out.front (m := p) (by omega))
        have htk : (SB ++ rs).take p = SB.take (SB.length - 1) := by rw [List.take_append_of_le_length (by omega), hp]; rfl
        rw [htk] at HR12
        obtain ⟨g, rfl⟩ : ∃ g, A8 = some ⟨g, 0, none⟩ := by
          rcases HR811.out.2.2 with h | ⟨g, h, _⟩
          · omega
          · exact ⟨g, h⟩
        clear htk HR811 hp
        go_wp2_with fail
        refine (HSQ.out (some ⟨g, 0, none⟩) p c8 _ (SB.take (SB.length - 1)) _ (by rw [List.length_take]; omega) HS11.out.2.2 HR12.out).mono ?_
        rw [HG4.out]
        rintro e w12 ⟨A12, c12, rfl, hr12, hb12⟩
        have HS12 := Lib.hid (HS11.out.below hb12)
        have hq1 : (P.RS.bad 0).n = 0 := rfl
        have hq2 : (P.RS.bad 0).e = 0 := rfl
        rw [hq1, hq2]
        clear hb12 hr12 HS11 HR12 HG4 HSQ hq1 hq2
        go_wp2
        go_ret
        exact ⟨rfl, HS12.out.2.2⟩
      · have hsb : SB = [] := HF4.out hse
        subst hsb
        have hseb : (SE != 0) = true := by simpa using hse
        clear HF2 HF4 HR HYY HCP HSQ
        go_wp2
        go_ret
        exact ⟨rfl, HS3.out.2.2⟩
end Go.Proofs.YtecopkcogobolaaGreatDoor
