/- The walks of the document's Put and Bytes. Conditions: a list of bulk at most 2^20, texts and bodies of at most 2^20 bytes, numbers of 64 bits. -/
import Derived.Test.YtcoohkgamogmgaaGreatDoorRPResp
import Derived.Test.YtcoohkgamogmgaaGreatDoorResp
import Derived.Test.YtcoohkgamogmgaaGreatDoorBytes
import Derived.Deep.DeepCutAuto
namespace Go.Proofs.YtcoohkgamogmgaaGreatDoor
open Go.RowKit

set_option maxHeartbeats 400000 in
theorem refPut_any (A : Option Addr) (n c : Nat) (fs : List FD) (name v : ByteArray) (w : World) (hl : fs.length = n) (hf : F.bulk fs ≤ 8589934592) (h2 : name.size ≤ 1099511627776) (hx : Rd w A n 2 (fcells fs)) :
    Calls Tryz.prog 21 #[.slice A n c, .string name, .string v] w (RetRow w 37 2 (F.put fs name v).length (fcells (F.put fs name v))) := by
  have hn : n ≤ 8589934592 := by have := F.len_le_bulk fs; omega
  have hsm : FSmall fs := fun f hf' => by have := F.mem_bulk hf'; omega
  have HW := Lib.hid (fun X d w1 (hb : Below w.heap.size w w1) (hX : Rd w1 X 1 1 (scells [name])) =>
    refWithout_any A n c fs X 1 d [name] w1 (by omega) hl hsm (hx.below hb) (by decide) rfl (fun s hs => by rw [List.mem_singleton.1 hs]; exact h2) hX)
  have hwl : (F.without fs [name]).length ≤ 8589934592 := by
    have := List.length_filter_le (fun f => !([name].any fun n => F.is f n)) fs
    unfold F.without
    omega
  have hpl : (F.put fs name v).length = (F.without fs [name]).length + 1 := by unfold F.put; rw [List.length_append]; rfl
  have HPL := Lib.hid hpl
  have HPC := Lib.hid (show F.put fs name v = F.without fs [name] ++ [(name, v)] from rfl)
  obtain ⟨ws, hws⟩ : ∃ ws, ws = F.without fs [name] := ⟨_, rfl⟩
  rw [← hws] at HW hwl HPL HPC
  obtain ⟨N, hN⟩ : ∃ N, N = ws.length := ⟨_, rfl⟩
  rw [← hN] at HW hwl HPL
  have HNN := Lib.hid hN.symm
  clear hl hf hx hsm hws hN hpl hn
  go_enter Tryz.func21, Tryz.ntmps21
  go_wp2_with fail
  refine (HW.out _ _ _ ((Below.refl _ _).alloc (Nat.le_refl _) _) (newS w name)).mono ?_
  rintro e w1 ⟨A1, c1, rfl, hr1, hb1⟩
  have hB1 := below_new (Below.refl w.heap.size w) (Nat.le_refl _) hb1
  have hz1 := hB1.size
  have hr2 := hr1.mono (show w.heap.size ≤ (w.alloc (.cells #[.string name] 9)).heap.size by rw [World.size_alloc]; omega)
  clear hb1 hr1 HW
  go_wp2_with (at_builtin; refine appF _ rfl (.tmp 10) (.tmp 14) rfl w.heap.size A1 N c1 ws rfl (hr2.alloc _) _ 1 1 [(name, v)] rfl (newF _ _) (by omega) (by simp; omega) ?_; intro A2 c2 w2 hr3 ha3)
  have hB2 : Below w.heap.size w w2 := (hB1.alloc hz1 _).trans (ha3.below (hr2.alloc _) (by simp; omega))
  go_ret
  refine ⟨A2, c2, ?_, ?_, hB2⟩
  · rw [HPL.out]; rfl
  · rw [HPL.out, HPC.out]; exact hr3


set_option maxRecDepth 100000 in
set_option maxHeartbeats 4000000 in
theorem refBytes_any (s m : Int) (r : ByteArray) (A : Option Addr) (c : Nat) (fs : List FD) (B0 : Option Addr) (e0 : Nat) (body : List UInt8) (method : ByteArray) (last : Bool) (w : World) (hrs : r.size ≤ 1048576) (hf : F.bulk fs ≤ 1048576) (hx : Rd w A fs.length 2 (fcells fs))
    (hbl : body.length ≤ 1048576) (hbx : Rd w B0 body.length 1 (bcells body)) :
    Calls Tryz.prog 8 #[.agg #[.int .i64 s, .string r, .int .i64 m, .slice A fs.length c], .slice B0 body.length e0, .string method, .bool last] w (RetBE w (F.bytesB s r m fs (F.bareOf s method) last body) (F.bytesE s r m fs (F.bareOf s method) last body.length)) := by
  have hn : fs.length ≤ 1048576 := by have := F.len_le_bulk fs; omega
  have hn1 : (F.without fs F.two).length ≤ 1048576 := by have := F.len_le_bulk (F.without fs F.two); have := F.bulk_without fs F.two; omega
  by_cases hbig : 65536 < body.length
  · have HBG := Lib.hid (bytes_big (s := s) (r := r) (m := m) (fs := fs) (b := F.bareOf s method) (l := last) (body := body) hbig)
    generalize F.bytesB s r m fs (F.bareOf s method) last body = WB at *
    generalize F.bytesE s r m fs (F.bareOf s method) last body.length = WE at *
    clear hx hbx
    go_enter Tryz.func8, Tryz.ntmps8
    go_wp2
    refine bodyPost_ret (v := .tuple #[.slice none 0 0, .int .i64 71]) (by simp [results, Tryz.results8, go_sem]) rfl ?_
    exact RetBE.none_ ((Below.refl _ _).alloc (Nat.le_refl _) _) HBG.out.1 HBG.out.2
  · have HBD := Lib.hid (fun (u : World) (hb : Below w.heap.size w u) => hbx.below hb)
    have HCR := Lib.hid (fun (u : World) (hb : Below w.heap.size w u) => copyResponse_any s m r A fs.length c fs u rfl (by omega) (hx.below hb))
    have HW1 : Hid (∀ A1 c1 X0 u, Rd u A1 fs.length 2 (fcells fs) → Rd u X0 2 1 (scells F.twoLow) → Calls Tryz.prog 20 #[.slice A1 fs.length c1, .slice X0 2 2] u (RetRow u 37 2 (F.without fs F.two).length (fcells (F.without fs F.two)))) := Lib.hid (fun A1 c1 X0 u hA hX => by
      rw [F.without_two]
      exact refWithout_any A1 fs.length c1 fs X0 2 2 F.twoLow u (by omega) rfl (small_of_bulk (by omega)) hA (by omega) rfl (by unfold NSmall F.twoLow; decide) hX)
    have HSH := Lib.hid (fun u : World => show_any (body.length : Int) u (by omega) (by omega))
    have HPUT : Hid (∀ A1 c1 u, Rd u A1 (F.without fs F.two).length 2 (fcells (F.without fs F.two)) → Calls Tryz.prog 21 #[.slice A1 (F.without fs F.two).length c1, .string F.clenN, .string (B (Lib.itoa body.length))] u (RetRow u 37 2 (F.put (F.without fs F.two) F.clenN (B (Lib.itoa body.length))).length (fcells (F.put (F.without fs F.two) F.clenN (B (Lib.itoa body.length)))))) := Lib.hid (fun A1 c1 u hA => refPut_any A1 _ c1 (F.without fs F.two) F.clenN (B (Lib.itoa body.length)) u rfl (by have := F.bulk_without fs F.two; omega) (by decide) hA)
    have hbo : F.bulk (F.outF fs (F.bareOf s method) last body.length) ≤ 1073741824 := by have := F.bulk_out fs (F.bareOf s method) last body.length (by omega); omega
    have HPR := Lib.hid (fun (u : World) A5 c5 (hr : Rd u A5 (F.outF fs (F.bareOf s method) last body.length).length 2 (fcells (F.outF fs (F.bareOf s method) last body.length))) => refPrintResponse_any s r m A5 c5 (F.outF fs (F.bareOf s method) last body.length) u (by omega) hbo hr)
    have hpl := respB_len s r m (F.outF fs (F.bareOf s method) last body.length)
    have hln : (F.outF fs (F.bareOf s method) last body.length).length ≤ 1099511627776 := by have := F.len_le_bulk (F.outF fs (F.bareOf s method) last body.length); omega
    have HOK := Lib.hid (fun h => bytes_ok (s := s) (r := r) (m := m) (fs := fs) (b := F.bareOf s method) (l := last) (body := body) hbig h)
    have HBADE := Lib.hid (fun h => bytes_bad (s := s) (r := r) (m := m) (fs := fs) (b := F.bareOf s method) (l := last) (body := body) hbig h)
    generalize F.bytesB s r m fs (F.bareOf s method) last body = WB at *
    generalize F.bytesE s r m fs (F.bareOf s method) last body.length = WE at *
    obtain ⟨bb, hbb⟩ : ∃ bb, bb = F.bareOf s method := ⟨_, rfl⟩
    rw [← hbb] at HPR hpl hln HOK HBADE hbo
    obtain ⟨LG, hLG⟩ : ∃ LG, F.outF fs bb last body.length = LG := ⟨_, rfl⟩
    rw [hLG] at HPR hpl hln HOK HBADE
    have HLG : Hid ((if bb = true then F.without fs F.two else F.put (F.without fs F.two) F.clenN (B (Lib.itoa body.length))) ++ F.lastF last = LG) := Lib.hid hLG
    generalize F.respB s r m LG = PB at *
    generalize F.respE s r m LG = PE at *
    generalize F.put (F.without fs F.two) F.clenN (B (Lib.itoa body.length)) = T2 at *
    generalize F.without fs F.two = T1 at *
    generalize B (Lib.itoa body.length) = I at *
    obtain ⟨LF, hLF⟩ : ∃ LF, LF = (if bb = true then T1 else T2) := ⟨_, rfl⟩
    rw [← hLF] at HLG
    have hlf : LF.length ≤ 1099511627776 := by
      have := HLG.out
      rw [← this, List.length_append] at hln
      omega
    have HLF := Lib.hid hLF
    have hbig2 : ¬ (65536 : Int) < (body.length : Int) := by omega
    have HBBX := Lib.hid hbb
    clear hx hbx hbo hLG hLF hf hbig hbb
    go_enter Tryz.func8, Tryz.ntmps8
    go_upto_region 3 with fail
    go_cut [10] (fun s10 wx => s10 = .bool bb ∧ wx = w.alloc (.cells #[.int .i64 s, .string r, .int .i64 m, .slice A fs.length c] 24))
    case first =>
      clear HPR HOK HBADE HLG HLF HW1 HPUT HSH HCR HBD
      have hbb := HBBX.out
      clear HBBX
      rw [F.bareOf_eq, ← L_toList] at hbb
      unfold F.bareB at hbb
      rw [← L_toList] at hbb
      by_cases hh : method.toList = [72, 69, 65, 68]
      · have h1 : (method.toList == [72, 69, 65, 68]) = true := by simpa using hh
        obtain rfl : bb = true := by rw [hbb, decide_eq_true hh]; rfl
        clear hbb
        go_wp2_with fail
        go_meet
        exact ⟨rfl, rfl⟩
      · have h1 : (method.toList == [72, 69, 65, 68]) = false := by simpa using hh
        rw [decide_eq_false hh, Bool.false_or] at hbb
        rcases (by omega : (100 ≤ s ∧ s ≤ 199) ∨ s = 204 ∨ s = 304 ∨ ((s < 100 ∨ 299 < s) ∧ ¬ s = 204 ∧ ¬ s = 304) ∨ ((200 ≤ s ∧ s ≤ 299) ∧ ¬ s = 204 ∧ ¬ s = 304)) with ha | ha | ha | ⟨ha, hb2, hb3⟩ | ⟨ha, hb2, hb3⟩
        · obtain rfl : bb = true := by rw [hbb, decide_eq_true ha]; rfl
          obtain ⟨ha1, ha2⟩ := ha
          have g1 : decide (s ≥ 100) = true := by simpa using ha1
          have g2 : decide (s ≤ 199) = true := by simpa using ha2
          clear hbb
          go_wp2_with fail
          go_meet
          exact ⟨rfl, rfl⟩
        · subst ha
          obtain rfl : bb = true := by rw [hbb]; simp
          clear hbb
          go_wp2_with fail
          go_meet
          exact ⟨rfl, rfl⟩
        · subst ha
          obtain rfl : bb = true := by rw [hbb]; simp
          clear hbb
          go_wp2_with fail
          go_meet
          exact ⟨rfl, rfl⟩
        · obtain rfl : bb = false := by
            rw [hbb, decide_eq_false (by omega : ¬ (100 ≤ s ∧ s ≤ 199)), decide_eq_false hb2, decide_eq_false hb3, decide_eq_false (by omega : ¬ (200 ≤ s ∧ s ≤ 299))]
            simp
          clear hbb
          have g4 : (s == 204) = false := by simpa using hb2
          have g5 : (s == 304) = false := by simpa using hb3
          rcases ha with ha | ha
          · have g1 : decide (s ≥ 100) = false := by rw [decide_eq_false_iff_not]; omega
            have g3 : decide (s ≥ 200) = false := by rw [decide_eq_false_iff_not]; omega
            have g6 : ¬ 100 ≤ s := by omega
            have g7 : ¬ 200 ≤ s := by omega
            by_cases hc : method.toList = [67, 79, 78, 78, 69, 67, 84]
            · have h2 : (method.toList == [67, 79, 78, 78, 69, 67, 84]) = true := by simpa using hc
              go_wp2_with fail
              go_meet
              exact ⟨rfl, rfl⟩
            · have h2 : (method.toList == [67, 79, 78, 78, 69, 67, 84]) = false := by simpa using hc
              go_wp2_with fail
              go_meet
              exact ⟨rfl, rfl⟩
          · have g1 : decide (s ≥ 100) = true := by rw [decide_eq_true_eq]; omega
            have g2 : decide (s ≤ 199) = false := by rw [decide_eq_false_iff_not]; omega
            have g3 : decide (s ≥ 200) = true := by rw [decide_eq_true_eq]; omega
            have g8 : decide (s ≤ 299) = false := by rw [decide_eq_false_iff_not]; omega
            have g6 : 100 ≤ s := by omega
            have g7 : 200 ≤ s := by omega
            have g9 : ¬ s ≤ 199 := by omega
            have g10 : ¬ s ≤ 299 := by omega
            by_cases hc : method.toList = [67, 79, 78, 78, 69, 67, 84]
            · have h2 : (method.toList == [67, 79, 78, 78, 69, 67, 84]) = true := by simpa using hc
              go_wp2_with fail
              go_meet
              exact ⟨rfl, rfl⟩
            · have h2 : (method.toList == [67, 79, 78, 78, 69, 67, 84]) = false := by simpa using hc
              go_wp2_with fail
              go_meet
              exact ⟨rfl, rfl⟩
        · have g4 : (s == 204) = false := by simpa using hb2
          have g5 : (s == 304) = false := by simpa using hb3
          have g1 : decide (s ≥ 100) = true := by rw [decide_eq_true_eq]; omega
          have g2 : decide (s ≤ 199) = false := by rw [decide_eq_false_iff_not]; omega
          have g3 : decide (s ≥ 200) = true := by rw [decide_eq_true_eq]; omega
          have g8 : decide (s ≤ 299) = true := by rw [decide_eq_true_eq]; omega
          have g6 : 100 ≤ s := by omega
          have g7 : 200 ≤ s := by omega
          have g9 : ¬ s ≤ 199 := by omega
          have g10 : s ≤ 299 := by omega
          by_cases hc : method.toList = [67, 79, 78, 78, 69, 67, 84]
          · have h2 : (method.toList == [67, 79, 78, 78, 69, 67, 84]) = true := by simpa using hc
            obtain rfl : bb = true := by
              rw [hbb, decide_eq_true hc, decide_eq_true ha]
              simp
            clear hbb
            go_wp2_with fail
            go_meet
            exact ⟨rfl, rfl⟩
          · have h2 : (method.toList == [67, 79, 78, 78, 69, 67, 84]) = false := by simpa using hc
            obtain rfl : bb = false := by
              rw [hbb, decide_eq_false hc, decide_eq_false hb2, decide_eq_false hb3, decide_eq_false (by omega : ¬ (100 ≤ s ∧ s ≤ 199))]
              simp
            clear hbb
            go_wp2_with fail
            go_meet
            exact ⟨rfl, rfl⟩
    case rest =>
      obtain ⟨rfl, rfl⟩ := hcut
      have HK0 := Lib.hid (Blk.new w #[.int .i64 s, .string r, .int .i64 m, .slice A fs.length c] 24)
      have HB0 := Lib.hid ((Below.refl w.heap.size w).alloc (Nat.le_refl _) (.cells #[.int .i64 s, .string r, .int .i64 m, .slice A fs.length c] 24))
      generalize w.alloc (.cells #[.int .i64 s, .string r, .int .i64 m, .slice A fs.length c] 24) = w0 at *
      obtain ⟨x0, x1, x2, x3⟩ := HK0.out.cells4
      clear HBBX
      go_wp2_with fail
      refine (HCR.out _ HB0.out).mono ?_
      rintro e w1 ⟨A1, c1, rfl, hr1, hb1⟩
      have HK1 := Lib.hid (((HK0.out.below hb1).alloc (.cells #[.int .i64 s, .string r, .int .i64 m, .slice A1 fs.length c1] 24)).alloc (.cells #[.string ⟨#[99, 111, 110, 110, 101, 99, 116, 105, 111, 110]⟩, .string ⟨#[116, 114, 97, 110, 115, 102, 101, 114, 45, 101, 110, 99, 111, 100, 105, 110, 103]⟩] 9))
      have HB1' := Lib.hid (below_then HB0.out.size HB0.out hb1)
      have HQ1 := Lib.hid ((Blk.new w1 #[.int .i64 s, .string r, .int .i64 m, .slice A1 fs.length c1] 24).alloc (.cells #[.string ⟨#[99, 111, 110, 110, 101, 99, 116, 105, 111, 110]⟩, .string ⟨#[116, 114, 97, 110, 115, 102, 101, 114, 45, 101, 110, 99, 111, 100, 105, 110, 103]⟩] 9))
      have HR1 := Lib.hid ((hr1.rd.alloc (.cells #[.int .i64 s, .string r, .int .i64 m, .slice A1 fs.length c1] 24)).alloc (.cells #[.string ⟨#[99, 111, 110, 110, 101, 99, 116, 105, 111, 110]⟩, .string ⟨#[116, 114, 97, 110, 115, 102, 101, 114, 45, 101, 110, 99, 111, 100, 105, 110, 103]⟩] 9))
      have HB1 := Lib.hid (((HB1'.out.alloc HB1'.out.size (.cells #[.int .i64 s, .string r, .int .i64 m, .slice A1 fs.length c1] 24))).alloc (by rw [World.size_alloc]; have := HB1'.out.size; omega) (.cells #[.string ⟨#[99, 111, 110, 110, 101, 99, 116, 105, 111, 110]⟩, .string ⟨#[116, 114, 97, 110, 115, 102, 101, 114, 45, 101, 110, 99, 111, 100, 105, 110, 103]⟩] 9))
      have HN1 := Lib.hid (Rd.newRow (w1.alloc (.cells #[.int .i64 s, .string r, .int .i64 m, .slice A1 fs.length c1] 24)) 9 #[.string ⟨#[99, 111, 110, 110, 101, 99, 116, 105, 111, 110]⟩, .string ⟨#[116, 114, 97, 110, 115, 102, 101, 114, 45, 101, 110, 99, 111, 100, 105, 110, 103]⟩] 2 1 rfl)
      rw [World.size_alloc] at HN1
      have HB1Z : Hid (w.heap.size ≤ w1.heap.size) := Lib.hid HB1'.out.size
      have HNE : Hid (w.heap.size ≠ w1.heap.size) := Lib.hid (by have := (HK0.out.below hb1).lt; omega)
      clear hb1 hr1 HCR HK0 HB0 HB1' x0 x1 x2 x3
      go_wp2_with fail
      generalize (w1.alloc (.cells #[.int .i64 s, .string r, .int .i64 m, .slice A1 fs.length c1] 24)).alloc (.cells #[.string ⟨#[99, 111, 110, 110, 101, 99, 116, 105, 111, 110]⟩, .string ⟨#[116, 114, 97, 110, 115, 102, 101, 114, 45, 101, 110, 99, 111, 100, 105, 110, 103]⟩] 9) = w2 at *
      generalize w1.heap.size = b1 at *
      refine (HW1.out A1 c1 _ w2 HR1.out HN1.out).mono ?_
      rintro e w3 ⟨A3, c3, rfl, hr3, hb3⟩
      have HK3 := Lib.hid (HK1.out.below hb3)
      have HQ3 := Lib.hid (HQ1.out.below hb3)
      have HB3 := Lib.hid (below_then HB1.out.size HB1.out hb3)
      have HR3 := Lib.hid (hr3.mono HB1.out.size)
      clear hb3 hr3 HK1 HQ1 HR1 HB1 HN1 HW1
      obtain ⟨x0, x1, x2, x3⟩ := HQ3.out.cells4
      obtain ⟨f0, f1, f2, f3⟩ := HQ3.out.free4
      have HS3 : Hid (Blk (w3.setCell ⟨b1, 3, none⟩ (.slice A3 T1.length c3)) w.heap.size #[.int .i64 s, .string r, .int .i64 m, .slice A fs.length c] 24 ∧ Blk (w3.setCell ⟨b1, 3, none⟩ (.slice A3 T1.length c3)) b1 #[.int .i64 s, .string r, .int .i64 m, .slice A3 T1.length c3] 24 ∧ Row (w3.setCell ⟨b1, 3, none⟩ (.slice A3 T1.length c3)) w.heap.size 37 2 A3 T1.length c3 (fcells T1) ∧ Below w.heap.size w (w3.setCell ⟨b1, 3, none⟩ (.slice A3 T1.length c3))) := Lib.hid ⟨HK3.out.far _ _ (fun e => HNE.out e.symm), HQ3.out.set 3 _, HR3.out.farT HQ3.out (by decide) 3 _, below_set HB3.out HB1Z.out 3 _⟩
      clear HK3 HQ3 HB3 HR3
      go_upto_if 61 with fail
      clear x0 x1 x2 x3 f0 f1 f2 f3
      generalize (w3.setCell ⟨b1, 3, none⟩ (.slice A3 T1.length c3)) = w4 at *
      go_cut [] (fun wx => (fun (L : List FD) (wx : World) => ∃ A1 c1, Blk wx w.heap.size #[.int .i64 s, .string r, .int .i64 m, .slice A fs.length c] 24 ∧ Blk wx b1 #[.int .i64 s, .string r, .int .i64 m, .slice A1 L.length c1] 24 ∧ Row wx w.heap.size 37 2 A1 L.length c1 (fcells L) ∧ Below w.heap.size w wx) LF wx)
      case first =>
        clear HPR HOK HBADE HLG HBD
        cases bb
        · have hlf2 : LF = T2 := HLF.out
          subst hlf2
          clear HLF
          obtain ⟨hk, hq, hr, hb⟩ := HS3.out
          obtain ⟨x0, x1, x2, x3⟩ := hq.cells4
          have hS0 := HS3.out.imp Blk.drew fun h => h.imp Blk.drew fun h => h.imp Row.drew fun h => h.drew
          clear HS3 x0 x1 x2 x3 hk hq hr hb
          go_wp2
          refine wp_region_noPanic ?_
          refine HT.begin (n := 6) (S := (fun u => Blk u w.heap.size #[.int .i64 s, .string r, .int .i64 m, .slice A fs.length c] 24 ∧ Blk u b1 #[.int .i64 s, .string r, .int .i64 m, .slice A3 T1.length c3] 24 ∧ Row u w.heap.size 37 2 A3 T1.length c3 (fcells T1) ∧ Below w.heap.size w u)) (by kernel_rfl) hS0 ?_
          refine HT.take 0 (.pointer (some ⟨b1, 3, none⟩)) rfl (by kernel_rfl) (fun _ _ _ h => h) (Or.inl ⟨by rfl, ?_⟩) (?_ : HT _ _ _ _ _ _ _ ⟨#[_, _, _, _, _, _, _, _, _, _, _, _, _, _, _, _, _, _, _, _, _, _, _, _, _, _, _, _, _, _, _, _, _, _, _, _, _, _, _, _, _, _, _, _, _, _, _, _, _, _, _, _, _, _, _, _, _, _, _, _, _, _, .pointer (some ⟨b1, 3, none⟩), _, _, _, _, _, _, _, _, _, _, _, _, _, _, _, _, _, _, _, _, _, _, _, _, _, _, _], []⟩ _)
          · intro u hu
            go_simp
          refine HT.take 1 (.slice A3 T1.length c3) rfl (by kernel_rfl) (fun _ _ _ h => h) (Or.inl ⟨by rfl, ?_⟩) (?_ : HT _ _ _ _ _ _ _ ⟨#[_, _, _, _, _, _, _, _, _, _, _, _, _, _, _, _, _, _, _, _, _, _, _, _, _, _, _, _, _, _, _, _, _, _, _, _, _, _, _, _, _, _, _, _, _, _, _, _, _, _, _, _, _, _, _, _, _, _, _, _, _, _, .pointer (some ⟨b1, 3, none⟩), .slice A3 T1.length c3, _, _, _, _, _, _, _, _, _, _, _, _, _, _, _, _, _, _, _, _, _, _, _, _, _, _], []⟩ _)
          · intro u hu
            obtain ⟨hq0, hq1, hq2, hq3⟩ := hu
            obtain ⟨x0, x1, x2, x3⟩ := hq1.cells4
            go_simp
          refine HT.take 2 (.slice B0 body.length e0) rfl (by kernel_rfl) (fun _ _ _ h => h) (Or.inl ⟨by rfl, ?_⟩) (?_ : HT _ _ _ _ _ _ _ ⟨#[_, _, _, _, _, _, _, _, _, _, _, _, _, _, _, _, _, _, _, _, _, _, _, _, _, _, _, _, _, _, _, _, _, _, _, _, _, _, _, _, _, _, _, _, _, _, _, _, _, _, _, _, _, _, _, _, _, _, _, _, _, _, .pointer (some ⟨b1, 3, none⟩), .slice A3 T1.length c3, .slice B0 body.length e0, _, _, _, _, _, _, _, _, _, _, _, _, _, _, _, _, _, _, _, _, _, _, _, _, _], []⟩ _)
          · intro u hu
            go_simp
          refine HT.take 3 (.int .i64 body.length) rfl (by kernel_rfl) (fun _ _ _ h => h) (Or.inl ⟨by rfl, ?_⟩) (?_ : HT _ _ _ _ _ _ _ ⟨#[_, _, _, _, _, _, _, _, _, _, _, _, _, _, _, _, _, _, _, _, _, _, _, _, _, _, _, _, _, _, _, _, _, _, _, _, _, _, _, _, _, _, _, _, _, _, _, _, _, _, _, _, _, _, _, _, _, _, _, _, _, _, .pointer (some ⟨b1, 3, none⟩), .slice A3 T1.length c3, .slice B0 body.length e0, .int .i64 body.length, _, _, _, _, _, _, _, _, _, _, _, _, _, _, _, _, _, _, _, _, _, _, _, _], []⟩ _)
          · intro u hu
            go_simp
          refine HT.step 4 rfl (by kernel_rfl) (fun hS K hK => ?_)
          go_simp
          refine (HSH.out _).mono ?_
          rintro e w4 ⟨rfl, hb4⟩
          refine hK.out _ _ ⟨hS.1.below hb4, hS.2.1.below hb4, hS.2.2.1.below hb4, below_then hS.2.2.2.size hS.2.2.2 hb4⟩ ?_
          clear hK hS hb4
          refine HT.step 5 rfl (by kernel_rfl) (fun hS K hK => ?_)
          go_simp
          refine (HPUT.out A3 c3 _ hS.2.2.1.rd).mono ?_
          rintro e w5 ⟨A4, c4, rfl, hr5, hb5⟩
          have HR5 := Lib.hid (hr5.mono hS.2.2.2.size)
          refine hK.out _ _ ⟨hS.1.below hb5, hS.2.1.below hb5, hS.2.2.1.below hb5, below_then hS.2.2.2.size hS.2.2.2 hb5⟩ ?_
          clear hK hS hb5 hr5
          refine HT.tail _ rfl rfl (by kernel_rfl) (fun hS => ?_)
          have HS := Lib.hid hS
          clear hS hS0
          obtain ⟨x0, x1, x2, x3⟩ := HS.out.2.1.cells4
          obtain ⟨f0, f1, f2, f3⟩ := HS.out.2.1.free4
          go_wp2
          refine NoPanic.normal ?_
          go_wp2_with fail
          go_meet
          have hk := HS.out
          exact ⟨A4, c4, hk.1.far _ _ (fun e => HNE.out e.symm), hk.2.1.set 3 _, HR5.out.farT hk.2.1 (by decide) 3 _, below_set hk.2.2.2 HB1Z.out 3 _⟩
        · have hlf2 : LF = T1 := HLF.out
          subst hlf2
          clear HLF
          go_wp2_with fail
          go_meet
          exact ⟨A3, c3, HS3.out⟩
      case rest =>
        obtain ⟨A4, c4, hk4, hq4, hr4, hb4⟩ := hcut
        have HK := Lib.hid hk4
        have HQ := Lib.hid hq4
        have HR := Lib.hid hr4
        have HB := Lib.hid hb4
        clear hk4 hq4 hr4 hb4 HS3 HLF HPUT HSH
        go_upto_if 69 with fail
        go_cut [] (fun wx => (fun (L : List FD) (wx : World) => ∃ A1 c1, Blk wx w.heap.size #[.int .i64 s, .string r, .int .i64 m, .slice A fs.length c] 24 ∧ Blk wx b1 #[.int .i64 s, .string r, .int .i64 m, .slice A1 L.length c1] 24 ∧ Row wx w.heap.size 37 2 A1 L.length c1 (fcells L) ∧ Below w.heap.size w wx) LG wx)
        case first =>
          clear HPR HOK HBADE HBD
          cases last
          · have hlg : LF = LG := (List.append_nil LF).symm.trans HLG.out
            subst hlg
            clear HLG
            go_wp2_with fail
            go_meet
            exact ⟨A4, c4, HK.out, HQ.out, HR.out, HB.out⟩
          · have hlg : LF ++ [(F.connN, F.closeN)] = LG := HLG.out
            have HNEW := Lib.hid (newF wc (F.connN, F.closeN))
            have HR2 := Lib.hid (HR.out.alloc (.cells #[.string ⟨#[67, 111, 110, 110, 101, 99, 116, 105, 111, 110]⟩, .string ⟨#[99, 108, 111, 115, 101]⟩] 37))
            have HK2 := Lib.hid (HK.out.alloc (.cells #[.string ⟨#[67, 111, 110, 110, 101, 99, 116, 105, 111, 110]⟩, .string ⟨#[99, 108, 111, 115, 101]⟩] 37))
            have HQ2 := Lib.hid (HQ.out.alloc (.cells #[.string ⟨#[67, 111, 110, 110, 101, 99, 116, 105, 111, 110]⟩, .string ⟨#[99, 108, 111, 115, 101]⟩] 37))
            have HB2 := Lib.hid (HB.out.alloc HB.out.size (.cells #[.string ⟨#[67, 111, 110, 110, 101, 99, 116, 105, 111, 110]⟩, .string ⟨#[99, 108, 111, 115, 101]⟩] 37))
            have hz2 := HB2.out.size
            obtain ⟨x0, x1, x2, x3⟩ := HQ.out.cells4
            obtain ⟨f0, f1, f2, f3⟩ := HQ.out.free4
            have hlq := HQ.out.lt
            have HLG2 := Lib.hid hlg
            clear hlg HLG HK HQ HR HB
            go_wp2_with (at_builtin; refine appF _ rfl (.tmp 71) (.tmp 73) rfl w.heap.size A4 LF.length c4 LF rfl HR2.out _ 1 1 [(F.connN, F.closeN)] rfl HNEW.out (by omega) hz2 ?_; intro A5 c5 w5 hr5 ha5; have HQ5 := Lib.hid (HQ2.out.app ha5 (HR2.out.apart HQ2.out (by decide))); have HK5 := Lib.hid (HK2.out.app ha5 (HR2.out.apart HK2.out (by decide))); have HB5 := Lib.hid (HB2.out.trans (ha5.below HR2.out hz2)); have HR5 := Lib.hid hr5; obtain ⟨y0, y1, y2, y3⟩ := HQ5.out.cells4; obtain ⟨g0, g1, g2, g3⟩ := HQ5.out.free4; clear hr5 ha5 HQ2 HK2 HB2 HR2 HNEW x0 x1 x2 x3 f0 f1 f2 f3)
            go_meet
            have hll : LG.length = LF.length + 1 := by rw [← HLG2.out, List.length_append]; rfl
            refine ⟨A5, c5, HK5.out.far _ _ (fun e => HNE.out e.symm), ?_, ?_, below_set HB5.out HB1Z.out 3 _⟩
            · rw [hll]; exact HQ5.out.set 3 _
            · rw [hll, ← HLG2.out]; exact HR5.out.farT HQ5.out (by decide) 3 _
        case rest =>
          obtain ⟨A5, c5, hk5, hq5, hr5, hb5⟩ := hcut
          have HB := Lib.hid hb5
          have HRD := Lib.hid hr5.rd
          obtain ⟨x0, x1, x2, x3⟩ := hq5.cells4
          clear hk5 hq5 hr5 hb5 HK HQ HR HLG HB1Z HNE
          go_wp2_with fail
          refine (HPR.out _ A5 c5 HRD.out).mono ?_
          rintro e w6 ⟨R, d, rfl, hr6, hb6⟩
          have HB6 := Lib.hid (below_then HB.out.size HB.out hb6)
          have HR6 := Lib.hid (hr6.mono HB.out.size)
          have hz6 := HB6.out.size
          clear hr6 hb6 HPR HRD x0 x1 x2 x3
          by_cases hpe : PE = 0
          · have HOK2 := Lib.hid (HOK.out hpe)
            subst hpe
            cases bb
            · have hbd := HBD.out w6 HB6.out
              go_wp2_with (at_builtin; refine appC _ rfl (.tmp 86) (.tmp 87) rfl w.heap.size R PB.length d PB rfl HR6.out B0 body.length e0 body rfl hbd (by omega) hz6 ?_; intro A7 c7 w7 hr7 ha7; have HB7 := Lib.hid (HB6.out.trans (ha7.belowC HR6.out hz6)); have HR7 := Lib.hid hr7; clear hr7 ha7)
              refine bodyPost_ret (v := .tuple #[.slice A7 (PB.length + body.length) c7, .int .i64 0]) (by simp [results, Tryz.results8, go_sem]) rfl ?_
              have hwb : WB = PB ++ body := by
                have := HOK2.out.1
                simpa using this
              rw [hwb, HOK2.out.2]
              have hlen : (PB ++ body).length = PB.length + body.length := List.length_append
              exact ⟨A7, c7, by rw [hlen], by rw [hlen]; exact HR7.out, HB7.out⟩
            · go_wp2
              refine bodyPost_ret (v := .tuple #[.slice R PB.length d, .int .i64 0]) (by simp [results, Tryz.results8, go_sem]) rfl ?_
              have hwb : WB = PB := by
                have := HOK2.out.1
                simpa using this
              rw [hwb, HOK2.out.2]
              exact ⟨R, d, rfl, HR6.out, HB6.out⟩
          · have HBD2 := Lib.hid (HBADE.out hpe)
            have e1 : (PE != 0) = true := by simpa using hpe
            go_wp2
            refine bodyPost_ret (v := .tuple #[.slice none 0 0, .int .i64 PE]) (by simp [results, Tryz.results8, go_sem]) rfl ?_
            exact RetBE.none_ HB6.out HBD2.out.1 HBD2.out.2
end Go.Proofs.YtcoohkgamogmgaaGreatDoor
