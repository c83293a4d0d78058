/- The walk of the document's Ask. Conditions: a list of bulk at most 2^20, texts and bodies of at most 2^20 bytes, a number of 64 bits, the library's table of powers of ten. -/
import Derived.Test.YtcoohkgamogmgaaDoorAsk
namespace Go.Proofs.YtcoohkgamogmgaaDoor
open Go.RowKit

set_option maxRecDepth 100000 in
set_option maxHeartbeats 1600000 in
theorem refAsk_any (s t : ByteArray) (m : Int) (A : Option Addr) (c : Nat) (fs : List FD) (B0 : Option Addr) (e0 : Nat) (body : List UInt8) (w : World) (hs : s.size ≤ 1048576) (hts : t.size ≤ 1048576) (h0 : -9223372036854775808 ≤ m) (h1 : m ≤ 9223372036854775807) (hf : F.bulk fs ≤ 1048576) (hx : Rd w A fs.length 2 (fcells fs))
    (hbl : body.length ≤ 1048576) (hbx : Rd w B0 body.length 1 (bcells body)) (ht : TabOk w) :
    Calls Tryd.prog 40 #[.agg #[.string s, .string t, .int .i64 m, .slice A fs.length c], .slice B0 body.length e0] w (RetBE w (F.askB s t m fs body) (F.askE s t m fs body.length)) := by
  have hn : fs.length ≤ 1048576 := by have := F.len_le_bulk fs; omega
  have hab := F.bulk_ask s fs body.length (by omega)
  have hpl := reqB_len s t m (F.askF s fs body.length)
  have HBIG := Lib.hid (fun h => ask_big (s := s) (t := t) (m := m) (fs := fs) (body := body) h)
  by_cases hbig : 65536 < body.length
  · have HBG := Lib.hid (HBIG.out hbig)
    generalize F.askB s t m fs body = WB at *
    generalize F.askE s t m fs body.length = WE at *
    clear hx hbx
    go_enter Tryd.func40, Tryd.ntmps40
    go_wp2
    refine bodyPost_ret (v := .tuple #[.slice none 0 0, .int .i64 71]) (by simp [results, Tryd.results40, go_sem]) rfl ?_
    exact RetBE.none_ ((Below.refl _ _).alloc (Nat.le_refl _) _) HBG.out.1 HBG.out.2
  · have HOK := Lib.hid (fun h => ask_ok (s := s) (t := t) (m := m) (fs := fs) (body := body) hbig h)
    have HBADE := Lib.hid (fun h => ask_bad (s := s) (t := t) (m := m) (fs := fs) (body := body) hbig h)
    have HBD := Lib.hid (fun (u : World) (hb : Below w.heap.size w u) => hbx.below hb)
    have HTAB := Lib.hid (fun (u : World) (hb : Below w.heap.size w u) => ht.below hb)
    have HC := Lib.hid (fun (u : World) (hb : Below w.heap.size w u) => copyRequest_any m s t A fs.length c fs u rfl (by omega) (hx.below hb))
    rcases plain_cases s with ⟨hp, hms⟩ | ⟨hp, hm1, hm2, hm3, hm4⟩
    · by_cases hk0 : body.length = 0
      · have HAFX : F.askF s fs body.length = fs := by unfold F.askF; rw [hp, hk0]; rfl
        have haf : F.askF s fs body.length = fs := HAFX
        rw [haf] at hab hpl HOK HBADE
        have HPR : Hid (∀ u A5 c5, Below w.heap.size w u → Rd u A5 (fs).length 2 (fcells (fs)) → Calls Tryd.prog 70 #[.agg #[.string s, .string t, .int .i64 m, .slice A5 (fs).length c5]] u (RetBE u (F.reqB s t m (fs)) (F.reqE s t m (fs)))) := Lib.hid (fun u A5 c5 hb hr => refPrintRequest_any s t m A5 c5 (fs) u (by omega) (by omega) h0 h1 (by omega) hr)
        generalize F.askB s t m fs body = WB at *
        generalize F.askE s t m fs body.length = WE at *
        generalize F.reqB s t m (fs) = PB at *
        generalize F.reqE s t m (fs) = PE at *
        clear haf hx hbx ht HBIG
        obtain rfl : body = [] := List.length_eq_zero_iff.1 hk0
        clear hp hk0 hbig
        rcases hms with hms | hms | hms | hms
        all_goals
          go_enter Tryd.func40, Tryd.ntmps40
          go_wp2_with fail
          have HB0 := Lib.hid ((Below.refl w.heap.size w).alloc (Nat.le_refl _) (.cells #[.string s, .string t, .int .i64 m, .slice A fs.length c] 50))
          have HK0 := Lib.hid (Blk.new w #[.string s, .string t, .int .i64 m, .slice A fs.length c] 50)
          generalize w.alloc (.cells #[.string s, .string t, .int .i64 m, .slice A fs.length c] 50) = w0 at *
          refine (HC.out w0 HB0.out).mono ?_
          rintro e w1 ⟨A1, c1, rfl, hr1, hb1⟩
          have HB1 := Lib.hid (below_then HB0.out.size HB0.out hb1)
          have hz1 := hb1.size
          have HK1 := Lib.hid (Blk.new w1 #[.string s, .string t, .int .i64 m, .slice A1 fs.length c1] 50)
          have HP1 := Lib.hid ((HK0.out.below hb1).alloc (.cells #[.string s, .string t, .int .i64 m, .slice A1 fs.length c1] 50))
          obtain ⟨p0, p1, p2, p3⟩ := HP1.out.cells4
          have HR1 := Lib.hid (hr1.alloc (.cells #[.string s, .string t, .int .i64 m, .slice A1 fs.length c1] 50))
          have HB2 := Lib.hid (HB1.out.alloc HB1.out.size (.cells #[.string s, .string t, .int .i64 m, .slice A1 fs.length c1] 50))
          have hz0 := HB0.out.size
          have hlt0 := HB1.out.size
          clear hb1 hr1 HC HB1 HK0 HP1
          go_wp2_with fail
          clear p0 p1 p2 p3
          have HB := Lib.hid HB2.out
          have HRD := Lib.hid HR1.out.rd
          generalize w1.alloc (.cells #[.string s, .string t, .int .i64 m, .slice A1 fs.length c1] 50) = w2 at *
          clear HB2 HR1 HK1
          refine (HPR.out w2 A1 c1 HB.out HRD.out).mono ?_
          rintro e w6 ⟨R, d, rfl, hr6, hb6⟩
          have HB6 := Lib.hid (below_then HB.out.size HB.out hb6)
          have HR6 := Lib.hid (hr6.mono HB.out.size)
          have hz6 := HB6.out.size
          clear hr6 hb6 HPR HRD
          by_cases hpe : PE = 0
          · have HOK2 := Lib.hid (HOK.out hpe)
            subst hpe
            have hbd := HBD.out w6 HB6.out
            go_wp2_with (at_builtin; refine appC _ rfl (.tmp 54) (.tmp 55) rfl w.heap.size R PB.length d PB rfl HR6.out B0 0 e0 [] rfl hbd (by omega) hz6 ?_; intro A7 c7 w7 hr7 ha7; have HB7 := Lib.hid (HB6.out.trans (ha7.belowC HR6.out hz6)); have HR7 := Lib.hid hr7; clear hr7 ha7)
            refine bodyPost_ret (v := .tuple #[.slice A7 (PB.length + 0) c7, .int .i64 0]) (by simp [results, Tryd.results40, go_sem]) rfl ?_
            rw [HOK2.out.1, HOK2.out.2]
            have hlen : (PB ++ []).length = PB.length + 0 := List.length_append
            exact ⟨A7, c7, by rw [hlen], by rw [hlen]; exact HR7.out, HB7.out⟩
          · have HBD2 := Lib.hid (HBADE.out hpe)
            have e1 : (PE != 0) = true := by simpa using hpe
            go_wp2
            refine bodyPost_ret (v := .tuple #[.slice none 0 0, .int .i64 PE]) (by simp [results, Tryd.results40, go_sem]) rfl ?_
            exact RetBE.none_ HB6.out HBD2.out.1 HBD2.out.2
      · have HAFX : F.askF s fs body.length = (fs ++ [((F.clT, B (Lib.itoa body.length)) : FD)]) := by unfold F.askF; rw [hp, decide_eq_false hk0]; rfl
        have haf : F.askF s fs body.length = (fs ++ [((F.clT, B (Lib.itoa body.length)) : FD)]) := HAFX
        rw [haf] at hab hpl HOK HBADE
        have HPR : Hid (∀ u A5 c5, Below w.heap.size w u → Rd u A5 ((fs ++ [((F.clT, B (Lib.itoa body.length)) : FD)])).length 2 (fcells ((fs ++ [((F.clT, B (Lib.itoa body.length)) : FD)]))) → Calls Tryd.prog 70 #[.agg #[.string s, .string t, .int .i64 m, .slice A5 ((fs ++ [((F.clT, B (Lib.itoa body.length)) : FD)])).length c5]] u (RetBE u (F.reqB s t m ((fs ++ [((F.clT, B (Lib.itoa body.length)) : FD)]))) (F.reqE s t m ((fs ++ [((F.clT, B (Lib.itoa body.length)) : FD)]))))) := Lib.hid (fun u A5 c5 hb hr => refPrintRequest_any s t m A5 c5 ((fs ++ [((F.clT, B (Lib.itoa body.length)) : FD)])) u (by omega) (by omega) h0 h1 (by omega) hr)
        generalize F.askB s t m fs body = WB at *
        generalize F.askE s t m fs body.length = WE at *
        generalize F.reqB s t m ((fs ++ [((F.clT, B (Lib.itoa body.length)) : FD)])) = PB at *
        generalize F.reqE s t m ((fs ++ [((F.clT, B (Lib.itoa body.length)) : FD)])) = PE at *
        clear haf hx hbx ht HBIG
        have HSHOW := Lib.hid (fun u : World => show_any (body.length : Int) u (by omega) (by omega))
        generalize B (Lib.itoa body.length) = I at *
        have hk1 : decide ((body.length : Int) > 0) = true := by rw [decide_eq_true_eq]; omega
        have hk3 : (0 : Int) < (body.length : Int) := by omega
        have hk4 : 0 < body.length := by omega
        have hk5 : ¬ body.length = 0 := by omega
        have hk6 : body ≠ [] := by intro e; subst e; exact hk5 rfl
        have hk2 : ¬ (65536 : Int) < (body.length : Int) := by omega
        clear hp hk0 hbig hms
        · skip
          go_enter Tryd.func40, Tryd.ntmps40
          go_wp2_with fail
          have HB0 := Lib.hid ((Below.refl w.heap.size w).alloc (Nat.le_refl _) (.cells #[.string s, .string t, .int .i64 m, .slice A fs.length c] 50))
          have HK0 := Lib.hid (Blk.new w #[.string s, .string t, .int .i64 m, .slice A fs.length c] 50)
          generalize w.alloc (.cells #[.string s, .string t, .int .i64 m, .slice A fs.length c] 50) = w0 at *
          refine (HC.out w0 HB0.out).mono ?_
          rintro e w1 ⟨A1, c1, rfl, hr1, hb1⟩
          have HB1 := Lib.hid (below_then HB0.out.size HB0.out hb1)
          have hz1 := hb1.size
          have HK1 := Lib.hid (Blk.new w1 #[.string s, .string t, .int .i64 m, .slice A1 fs.length c1] 50)
          have HP1 := Lib.hid ((HK0.out.below hb1).alloc (.cells #[.string s, .string t, .int .i64 m, .slice A1 fs.length c1] 50))
          obtain ⟨p0, p1, p2, p3⟩ := HP1.out.cells4
          have HR1 := Lib.hid (hr1.alloc (.cells #[.string s, .string t, .int .i64 m, .slice A1 fs.length c1] 50))
          have HB2 := Lib.hid (HB1.out.alloc HB1.out.size (.cells #[.string s, .string t, .int .i64 m, .slice A1 fs.length c1] 50))
          have hz0 := HB0.out.size
          have hlt0 := HB1.out.size
          have HROW1 := Lib.hid hr1
          clear hb1 hr1 HC HB1 HK0 HP1
          have HNE : Hid (∀ q, ownB A1 c1 = some q → q ≠ w1.heap.size) := Lib.hid (fun q hq => by have := (HROW1.out.lt q hq).2; omega)
          clear HROW1
          go_wp2
          have hS0 : (Blk (w1.alloc (.cells #[.string s, .string t, .int .i64 m, .slice A1 fs.length c1] 50)).drew w1.heap.size #[.string s, .string t, .int .i64 m, .slice A1 fs.length c1] 50 ∧ Row (w1.alloc (.cells #[.string s, .string t, .int .i64 m, .slice A1 fs.length c1] 50)).drew w0.heap.size 67 2 A1 fs.length c1 (fcells fs) ∧ Below w.heap.size w (w1.alloc (.cells #[.string s, .string t, .int .i64 m, .slice A1 fs.length c1] 50)).drew) := ⟨HK1.out, HR1.out, HB2.out.drew⟩
          generalize w1.alloc (.cells #[.string s, .string t, .int .i64 m, .slice A1 fs.length c1] 50) = w2 at *
          clear HK1 HR1 HB2 p0 p1 p2 p3
          refine wp_region_noPanic ?_
          refine HT.begin (n := 7) (S := (fun u => Blk u w1.heap.size #[.string s, .string t, .int .i64 m, .slice A1 fs.length c1] 50 ∧ Row u w0.heap.size 67 2 A1 fs.length c1 (fcells fs) ∧ Below w.heap.size w u)) (by kernel_rfl) hS0 ?_
          refine HT.take 0 (.pointer (some ⟨w1.heap.size, 3, none⟩)) rfl (by kernel_rfl) (fun _ _ _ h => h) (Or.inl ⟨by rfl, ?_⟩) (?_ : HT _ _ _ _ _ _ _ ⟨#[_, _, _, _, _, _, _, _, _, _, _, _, _, _, _, _, _, _, _, _, _, _, _, _, _, _, _, _, _, _, _, _, _, _, _, _, _, .pointer (some ⟨w1.heap.size, 3, none⟩), _, _, _, _, _, _, _, _, _, _, _, _, _, _, _, _, _, _, _], []⟩ _)
          · intro u hu
            go_simp
          refine HT.take 1 (.slice A1 fs.length c1) rfl (by kernel_rfl) (fun _ _ _ h => h) (Or.inl ⟨by rfl, ?_⟩) (?_ : HT _ _ _ _ _ _ _ ⟨#[_, _, _, _, _, _, _, _, _, _, _, _, _, _, _, _, _, _, _, _, _, _, _, _, _, _, _, _, _, _, _, _, _, _, _, _, _, .pointer (some ⟨w1.heap.size, 3, none⟩), .slice A1 fs.length c1, _, _, _, _, _, _, _, _, _, _, _, _, _, _, _, _, _, _], []⟩ _)
          · intro u hu
            obtain ⟨x0, x1, x2, x3⟩ := hu.1.cells4
            go_simp
          refine HT.take 2 (.slice B0 body.length e0) rfl (by kernel_rfl) (fun _ _ _ h => h) (Or.inl ⟨by rfl, ?_⟩) (?_ : HT _ _ _ _ _ _ _ ⟨#[_, _, _, _, _, _, _, _, _, _, _, _, _, _, _, _, _, _, _, _, _, _, _, _, _, _, _, _, _, _, _, _, _, _, _, _, _, .pointer (some ⟨w1.heap.size, 3, none⟩), .slice A1 fs.length c1, .slice B0 body.length e0, _, _, _, _, _, _, _, _, _, _, _, _, _, _, _, _, _], []⟩ _)
          · intro u hu
            go_simp
          refine HT.take 3 (.int .i64 body.length) rfl (by kernel_rfl) (fun _ _ _ h => h) (Or.inl ⟨by rfl, ?_⟩) (?_ : HT _ _ _ _ _ _ _ ⟨#[_, _, _, _, _, _, _, _, _, _, _, _, _, _, _, _, _, _, _, _, _, _, _, _, _, _, _, _, _, _, _, _, _, _, _, _, _, .pointer (some ⟨w1.heap.size, 3, none⟩), .slice A1 fs.length c1, .slice B0 body.length e0, .int .i64 body.length, _, _, _, _, _, _, _, _, _, _, _, _, _, _, _, _], []⟩ _)
          · intro u hu
            go_simp
          refine HT.step 4 rfl (by kernel_rfl) (fun hS K hK => ?_)
          go_simp
          refine (HSHOW.out _).mono ?_
          rintro e w3 ⟨rfl, hb3⟩
          refine hK.out _ _ ⟨hS.1.below hb3, hS.2.1.below hb3, below_then hS.2.2.size hS.2.2 hb3⟩ ?_
          clear hK hS hb3 hS0
          refine HT.take 5 (.agg #[.string F.clT, .string (I)]) rfl (by kernel_rfl) (fun _ _ _ h => h) (Or.inl ⟨by rfl, ?_⟩) (?_ : HT _ _ _ _ _ _ _ ⟨#[_, _, _, _, _, _, _, _, _, _, _, _, _, _, _, _, _, _, _, _, _, _, _, _, _, _, _, _, _, _, _, _, _, _, _, _, _, .pointer (some ⟨w1.heap.size, 3, none⟩), .slice A1 fs.length c1, .slice B0 body.length e0, .int .i64 body.length, .string (I), .agg #[.string F.clT, .string (I)], _, _, _, _, _, _, _, _, _, _, _, _, _, _], []⟩ _)
          · intro u hu
            go_simp
          refine HT.step 6 rfl (by kernel_rfl) (fun hS K hK => ?_)
          go_simp
          refine hK.out _ _ ⟨hS.1.alloc _, hS.2.1.alloc _, hS.2.2.alloc hS.2.2.size _⟩ ?_
          clear hK hS
          refine HT.tail _ rfl rfl (by kernel_rfl) (fun hS => ?_)
          have HS := Lib.hid hS
          clear hS
          have hzu := HS.out.2.2.size
          have hrz := HS.out.1.lt
          refine appF _ rfl (.tmp 38) (.tmp 43) rfl w0.heap.size A1 fs.length c1 fs rfl HS.out.2.1 _ 1 1 [(F.clT, I)] rfl (newF _ (F.clT, I)) (by omega) (by rw [World.size_alloc] at hrz ⊢; omega) ?_
          intro A4 c4 w4 hr4 ha4
          have hne4 : ∀ q, ownB A1 c1 = some q → q ≠ w1.heap.size := HNE.out
          have HK4 : Hid (Blk w4 w1.heap.size #[.string s, .string t, .int .i64 m, .slice A1 fs.length c1] 50) := Lib.hid (HS.out.1.app ha4 hne4)
          have HB4 : Hid (Below w.heap.size w w4) := Lib.hid (HS.out.2.2.trans ((ha4.below HS.out.2.1 (by rw [World.size_alloc] at hrz ⊢; omega)).mono hz0))
          obtain ⟨y0, y1, y2, y3⟩ := HK4.out.cells4
          obtain ⟨g0, g1, g2, g3⟩ := HK4.out.free4
          have HKT := Lib.hid (HK4.out.set 3 (.slice A4 (fs.length + 1) c4))
          have HRT := Lib.hid (hr4.farT HK4.out (by decide) 3 (.slice A4 (fs.length + 1) c4))
          have HBT := Lib.hid (below_set HB4.out (b := w1.heap.size) hlt0 3 (.slice A4 (fs.length + 1) c4))
          clear hr4 ha4 HS HK4 HB4 hne4
          go_wp2
          refine NoPanic.normal ?_
          go_wp2_with fail
          clear y0 y1 y2 y3 g0 g1 g2 g3
          have hfl : (fs ++ [((F.clT, I) : FD)]).length = fs.length + 1 := List.length_append
          rw [hfl] at HPR
          have HB := Lib.hid HBT.out
          have HRD := Lib.hid HRT.out.rd
          generalize w4.setCell ⟨w1.heap.size, 3, none⟩ (.slice A4 (fs.length + 1) c4) = w5 at *
          clear HBT HRT HKT
          refine (HPR.out w5 A4 c4 HB.out HRD.out).mono ?_
          rintro e w6 ⟨R, d, rfl, hr6, hb6⟩
          have HB6 := Lib.hid (below_then HB.out.size HB.out hb6)
          have HR6 := Lib.hid (hr6.mono HB.out.size)
          have hz6 := HB6.out.size
          clear hr6 hb6 HPR HRD
          by_cases hpe : PE = 0
          · have HOK2 := Lib.hid (HOK.out hpe)
            subst hpe
            have hbd := HBD.out w6 HB6.out
            go_wp2_with (at_builtin; refine appC _ rfl (.tmp 54) (.tmp 55) rfl w.heap.size R PB.length d PB rfl HR6.out B0 body.length e0 body rfl hbd (by omega) hz6 ?_; intro A7 c7 w7 hr7 ha7; have HB7 := Lib.hid (HB6.out.trans (ha7.belowC HR6.out hz6)); have HR7 := Lib.hid hr7; clear hr7 ha7)
            refine bodyPost_ret (v := .tuple #[.slice A7 (PB.length + body.length) c7, .int .i64 0]) (by simp [results, Tryd.results40, go_sem]) rfl ?_
            rw [HOK2.out.1, HOK2.out.2]
            have hlen : (PB ++ body).length = PB.length + body.length := List.length_append
            exact ⟨A7, c7, by rw [hlen], by rw [hlen]; exact HR7.out, HB7.out⟩
          · have HBD2 := Lib.hid (HBADE.out hpe)
            have e1 : (PE != 0) = true := by simpa using hpe
            go_wp2
            refine bodyPost_ret (v := .tuple #[.slice none 0 0, .int .i64 PE]) (by simp [results, Tryd.results40, go_sem]) rfl ?_
            exact RetBE.none_ HB6.out HBD2.out.1 HBD2.out.2
    · have HAFX : F.askF s fs body.length = (fs ++ [((F.clT, B (Lib.itoa body.length)) : FD)]) := by unfold F.askF; rw [hp]; rfl
      have haf : F.askF s fs body.length = (fs ++ [((F.clT, B (Lib.itoa body.length)) : FD)]) := HAFX
      rw [haf] at hab hpl HOK HBADE
      have HPR : Hid (∀ u A5 c5, Below w.heap.size w u → Rd u A5 ((fs ++ [((F.clT, B (Lib.itoa body.length)) : FD)])).length 2 (fcells ((fs ++ [((F.clT, B (Lib.itoa body.length)) : FD)]))) → Calls Tryd.prog 70 #[.agg #[.string s, .string t, .int .i64 m, .slice A5 ((fs ++ [((F.clT, B (Lib.itoa body.length)) : FD)])).length c5]] u (RetBE u (F.reqB s t m ((fs ++ [((F.clT, B (Lib.itoa body.length)) : FD)]))) (F.reqE s t m ((fs ++ [((F.clT, B (Lib.itoa body.length)) : FD)]))))) := Lib.hid (fun u A5 c5 hb hr => refPrintRequest_any s t m A5 c5 ((fs ++ [((F.clT, B (Lib.itoa body.length)) : FD)])) u (by omega) (by omega) h0 h1 (by omega) hr)
      generalize F.askB s t m fs body = WB at *
      generalize F.askE s t m fs body.length = WE at *
      generalize F.reqB s t m ((fs ++ [((F.clT, B (Lib.itoa body.length)) : FD)])) = PB at *
      generalize F.reqE s t m ((fs ++ [((F.clT, B (Lib.itoa body.length)) : FD)])) = PE at *
      clear haf hx hbx ht HBIG
      have hk2 : ¬ (65536 : Int) < (body.length : Int) := by omega
      have n1 : (s.toList == [71, 69, 84]) = false := by simpa using hm1
      have n2 : (s.toList == [72, 69, 65, 68]) = false := by simpa using hm2
      have n3 : (s.toList == [79, 80, 84, 73, 79, 78, 83]) = false := by simpa using hm3
      have n4 : (s.toList == [84, 82, 65, 67, 69]) = false := by simpa using hm4
      clear hp hbig
      have HSHOW := Lib.hid (fun u : World => show_any (body.length : Int) u (by omega) (by omega))
      generalize B (Lib.itoa body.length) = I at *
      by_cases hk0 : body.length = 0
      · obtain rfl : body = [] := List.length_eq_zero_iff.1 hk0
        replace HSHOW : Hid (∀ u : World, Calls Tryd.prog 51 #[.int .i64 0] u (RetS u I)) := Lib.hid HSHOW.out
        clear hk0
        go_enter Tryd.func40, Tryd.ntmps40
        go_wp2_with fail
        have HB0 := Lib.hid ((Below.refl w.heap.size w).alloc (Nat.le_refl _) (.cells #[.string s, .string t, .int .i64 m, .slice A fs.length c] 50))
        have HK0 := Lib.hid (Blk.new w #[.string s, .string t, .int .i64 m, .slice A fs.length c] 50)
        generalize w.alloc (.cells #[.string s, .string t, .int .i64 m, .slice A fs.length c] 50) = w0 at *
        refine (HC.out w0 HB0.out).mono ?_
        rintro e w1 ⟨A1, c1, rfl, hr1, hb1⟩
        have HB1 := Lib.hid (below_then HB0.out.size HB0.out hb1)
        have hz1 := hb1.size
        have HK1 := Lib.hid (Blk.new w1 #[.string s, .string t, .int .i64 m, .slice A1 fs.length c1] 50)
        have HP1 := Lib.hid ((HK0.out.below hb1).alloc (.cells #[.string s, .string t, .int .i64 m, .slice A1 fs.length c1] 50))
        obtain ⟨p0, p1, p2, p3⟩ := HP1.out.cells4
        have HR1 := Lib.hid (hr1.alloc (.cells #[.string s, .string t, .int .i64 m, .slice A1 fs.length c1] 50))
        have HB2 := Lib.hid (HB1.out.alloc HB1.out.size (.cells #[.string s, .string t, .int .i64 m, .slice A1 fs.length c1] 50))
        have hz0 := HB0.out.size
        have hlt0 := HB1.out.size
        have HROW1 := Lib.hid hr1
        clear hb1 hr1 HC HB1 HK0 HP1
        have HNE : Hid (∀ q, ownB A1 c1 = some q → q ≠ w1.heap.size) := Lib.hid (fun q hq => by have := (HROW1.out.lt q hq).2; omega)
        clear HROW1
        go_wp2
        have hS0 : (Blk (w1.alloc (.cells #[.string s, .string t, .int .i64 m, .slice A1 fs.length c1] 50)).drew w1.heap.size #[.string s, .string t, .int .i64 m, .slice A1 fs.length c1] 50 ∧ Row (w1.alloc (.cells #[.string s, .string t, .int .i64 m, .slice A1 fs.length c1] 50)).drew w0.heap.size 67 2 A1 fs.length c1 (fcells fs) ∧ Below w.heap.size w (w1.alloc (.cells #[.string s, .string t, .int .i64 m, .slice A1 fs.length c1] 50)).drew) := ⟨HK1.out, HR1.out, HB2.out.drew⟩
        generalize w1.alloc (.cells #[.string s, .string t, .int .i64 m, .slice A1 fs.length c1] 50) = w2 at *
        clear HK1 HR1 HB2 p0 p1 p2 p3
        refine wp_region_noPanic ?_
        refine HT.begin (n := 7) (S := (fun u => Blk u w1.heap.size #[.string s, .string t, .int .i64 m, .slice A1 fs.length c1] 50 ∧ Row u w0.heap.size 67 2 A1 fs.length c1 (fcells fs) ∧ Below w.heap.size w u)) (by kernel_rfl) hS0 ?_
        refine HT.take 0 (.pointer (some ⟨w1.heap.size, 3, none⟩)) rfl (by kernel_rfl) (fun _ _ _ h => h) (Or.inl ⟨by rfl, ?_⟩) (?_ : HT _ _ _ _ _ _ _ ⟨#[_, _, _, _, _, _, _, _, _, _, _, _, _, _, _, _, _, _, _, _, _, _, _, _, _, _, _, _, _, _, _, _, _, _, _, _, _, .pointer (some ⟨w1.heap.size, 3, none⟩), _, _, _, _, _, _, _, _, _, _, _, _, _, _, _, _, _, _, _], []⟩ _)
        · intro u hu
          go_simp
        refine HT.take 1 (.slice A1 fs.length c1) rfl (by kernel_rfl) (fun _ _ _ h => h) (Or.inl ⟨by rfl, ?_⟩) (?_ : HT _ _ _ _ _ _ _ ⟨#[_, _, _, _, _, _, _, _, _, _, _, _, _, _, _, _, _, _, _, _, _, _, _, _, _, _, _, _, _, _, _, _, _, _, _, _, _, .pointer (some ⟨w1.heap.size, 3, none⟩), .slice A1 fs.length c1, _, _, _, _, _, _, _, _, _, _, _, _, _, _, _, _, _, _], []⟩ _)
        · intro u hu
          obtain ⟨x0, x1, x2, x3⟩ := hu.1.cells4
          go_simp
        refine HT.take 2 (.slice B0 0 e0) rfl (by kernel_rfl) (fun _ _ _ h => h) (Or.inl ⟨by rfl, ?_⟩) (?_ : HT _ _ _ _ _ _ _ ⟨#[_, _, _, _, _, _, _, _, _, _, _, _, _, _, _, _, _, _, _, _, _, _, _, _, _, _, _, _, _, _, _, _, _, _, _, _, _, .pointer (some ⟨w1.heap.size, 3, none⟩), .slice A1 fs.length c1, .slice B0 0 e0, _, _, _, _, _, _, _, _, _, _, _, _, _, _, _, _, _], []⟩ _)
        · intro u hu
          go_simp
        refine HT.take 3 (.int .i64 0) rfl (by kernel_rfl) (fun _ _ _ h => h) (Or.inl ⟨by rfl, ?_⟩) (?_ : HT _ _ _ _ _ _ _ ⟨#[_, _, _, _, _, _, _, _, _, _, _, _, _, _, _, _, _, _, _, _, _, _, _, _, _, _, _, _, _, _, _, _, _, _, _, _, _, .pointer (some ⟨w1.heap.size, 3, none⟩), .slice A1 fs.length c1, .slice B0 0 e0, .int .i64 0, _, _, _, _, _, _, _, _, _, _, _, _, _, _, _, _], []⟩ _)
        · intro u hu
          go_simp
        refine HT.step 4 rfl (by kernel_rfl) (fun hS K hK => ?_)
        go_simp
        refine (HSHOW.out _).mono ?_
        rintro e w3 ⟨rfl, hb3⟩
        refine hK.out _ _ ⟨hS.1.below hb3, hS.2.1.below hb3, below_then hS.2.2.size hS.2.2 hb3⟩ ?_
        clear hK hS hb3 hS0
        refine HT.take 5 (.agg #[.string F.clT, .string (I)]) rfl (by kernel_rfl) (fun _ _ _ h => h) (Or.inl ⟨by rfl, ?_⟩) (?_ : HT _ _ _ _ _ _ _ ⟨#[_, _, _, _, _, _, _, _, _, _, _, _, _, _, _, _, _, _, _, _, _, _, _, _, _, _, _, _, _, _, _, _, _, _, _, _, _, .pointer (some ⟨w1.heap.size, 3, none⟩), .slice A1 fs.length c1, .slice B0 0 e0, .int .i64 0, .string (I), .agg #[.string F.clT, .string (I)], _, _, _, _, _, _, _, _, _, _, _, _, _, _], []⟩ _)
        · intro u hu
          go_simp
        refine HT.step 6 rfl (by kernel_rfl) (fun hS K hK => ?_)
        go_simp
        refine hK.out _ _ ⟨hS.1.alloc _, hS.2.1.alloc _, hS.2.2.alloc hS.2.2.size _⟩ ?_
        clear hK hS
        refine HT.tail _ rfl rfl (by kernel_rfl) (fun hS => ?_)
        have HS := Lib.hid hS
        clear hS
        have hzu := HS.out.2.2.size
        have hrz := HS.out.1.lt
        refine appF _ rfl (.tmp 38) (.tmp 43) rfl w0.heap.size A1 fs.length c1 fs rfl HS.out.2.1 _ 1 1 [(F.clT, I)] rfl (newF _ (F.clT, I)) (by omega) (by rw [World.size_alloc] at hrz ⊢; omega) ?_
        intro A4 c4 w4 hr4 ha4
        have hne4 : ∀ q, ownB A1 c1 = some q → q ≠ w1.heap.size := HNE.out
        have HK4 : Hid (Blk w4 w1.heap.size #[.string s, .string t, .int .i64 m, .slice A1 fs.length c1] 50) := Lib.hid (HS.out.1.app ha4 hne4)
        have HB4 : Hid (Below w.heap.size w w4) := Lib.hid (HS.out.2.2.trans ((ha4.below HS.out.2.1 (by rw [World.size_alloc] at hrz ⊢; omega)).mono hz0))
        obtain ⟨y0, y1, y2, y3⟩ := HK4.out.cells4
        obtain ⟨g0, g1, g2, g3⟩ := HK4.out.free4
        have HKT := Lib.hid (HK4.out.set 3 (.slice A4 (fs.length + 1) c4))
        have HRT := Lib.hid (hr4.farT HK4.out (by decide) 3 (.slice A4 (fs.length + 1) c4))
        have HBT := Lib.hid (below_set HB4.out (b := w1.heap.size) hlt0 3 (.slice A4 (fs.length + 1) c4))
        clear hr4 ha4 HS HK4 HB4 hne4
        go_wp2
        refine NoPanic.normal ?_
        go_wp2_with fail
        clear y0 y1 y2 y3 g0 g1 g2 g3
        have hfl : (fs ++ [((F.clT, I) : FD)]).length = fs.length + 1 := List.length_append
        rw [hfl] at HPR
        have HB := Lib.hid HBT.out
        have HRD := Lib.hid HRT.out.rd
        generalize w4.setCell ⟨w1.heap.size, 3, none⟩ (.slice A4 (fs.length + 1) c4) = w5 at *
        clear HBT HRT HKT
        refine (HPR.out w5 A4 c4 HB.out HRD.out).mono ?_
        rintro e w6 ⟨R, d, rfl, hr6, hb6⟩
        have HB6 := Lib.hid (below_then HB.out.size HB.out hb6)
        have HR6 := Lib.hid (hr6.mono HB.out.size)
        have hz6 := HB6.out.size
        clear hr6 hb6 HPR HRD
        by_cases hpe : PE = 0
        · have HOK2 := Lib.hid (HOK.out hpe)
          subst hpe
          have hbd := HBD.out w6 HB6.out
          go_wp2_with (at_builtin; refine appC _ rfl (.tmp 54) (.tmp 55) rfl w.heap.size R PB.length d PB rfl HR6.out B0 0 e0 [] rfl hbd (by omega) hz6 ?_; intro A7 c7 w7 hr7 ha7; have HB7 := Lib.hid (HB6.out.trans (ha7.belowC HR6.out hz6)); have HR7 := Lib.hid hr7; clear hr7 ha7)
          refine bodyPost_ret (v := .tuple #[.slice A7 (PB.length + 0) c7, .int .i64 0]) (by simp [results, Tryd.results40, go_sem]) rfl ?_
          rw [HOK2.out.1, HOK2.out.2]
          have hlen : (PB ++ []).length = PB.length + 0 := List.length_append
          exact ⟨A7, c7, by rw [hlen], by rw [hlen]; exact HR7.out, HB7.out⟩
        · have HBD2 := Lib.hid (HBADE.out hpe)
          have e1 : (PE != 0) = true := by simpa using hpe
          go_wp2
          refine bodyPost_ret (v := .tuple #[.slice none 0 0, .int .i64 PE]) (by simp [results, Tryd.results40, go_sem]) rfl ?_
          exact RetBE.none_ HB6.out HBD2.out.1 HBD2.out.2
      · have hk1 : decide ((body.length : Int) > 0) = true := by rw [decide_eq_true_eq]; omega
        have hk3 : (0 : Int) < (body.length : Int) := by omega
        have hk4 : 0 < body.length := by omega
        have hk5 : ¬ body.length = 0 := by omega
        have hk6 : body ≠ [] := by intro e; subst e; exact hk5 rfl
        clear hk0
        go_enter Tryd.func40, Tryd.ntmps40
        go_wp2_with fail
        have HB0 := Lib.hid ((Below.refl w.heap.size w).alloc (Nat.le_refl _) (.cells #[.string s, .string t, .int .i64 m, .slice A fs.length c] 50))
        have HK0 := Lib.hid (Blk.new w #[.string s, .string t, .int .i64 m, .slice A fs.length c] 50)
        generalize w.alloc (.cells #[.string s, .string t, .int .i64 m, .slice A fs.length c] 50) = w0 at *
        refine (HC.out w0 HB0.out).mono ?_
        rintro e w1 ⟨A1, c1, rfl, hr1, hb1⟩
        have HB1 := Lib.hid (below_then HB0.out.size HB0.out hb1)
        have hz1 := hb1.size
        have HK1 := Lib.hid (Blk.new w1 #[.string s, .string t, .int .i64 m, .slice A1 fs.length c1] 50)
        have HP1 := Lib.hid ((HK0.out.below hb1).alloc (.cells #[.string s, .string t, .int .i64 m, .slice A1 fs.length c1] 50))
        obtain ⟨p0, p1, p2, p3⟩ := HP1.out.cells4
        have HR1 := Lib.hid (hr1.alloc (.cells #[.string s, .string t, .int .i64 m, .slice A1 fs.length c1] 50))
        have HB2 := Lib.hid (HB1.out.alloc HB1.out.size (.cells #[.string s, .string t, .int .i64 m, .slice A1 fs.length c1] 50))
        have hz0 := HB0.out.size
        have hlt0 := HB1.out.size
        have HROW1 := Lib.hid hr1
        clear hb1 hr1 HC HB1 HK0 HP1
        have HNE : Hid (∀ q, ownB A1 c1 = some q → q ≠ w1.heap.size) := Lib.hid (fun q hq => by have := (HROW1.out.lt q hq).2; omega)
        clear HROW1
        go_wp2
        have hS0 : (Blk (w1.alloc (.cells #[.string s, .string t, .int .i64 m, .slice A1 fs.length c1] 50)).drew w1.heap.size #[.string s, .string t, .int .i64 m, .slice A1 fs.length c1] 50 ∧ Row (w1.alloc (.cells #[.string s, .string t, .int .i64 m, .slice A1 fs.length c1] 50)).drew w0.heap.size 67 2 A1 fs.length c1 (fcells fs) ∧ Below w.heap.size w (w1.alloc (.cells #[.string s, .string t, .int .i64 m, .slice A1 fs.length c1] 50)).drew) := ⟨HK1.out, HR1.out, HB2.out.drew⟩
        generalize w1.alloc (.cells #[.string s, .string t, .int .i64 m, .slice A1 fs.length c1] 50) = w2 at *
        clear HK1 HR1 HB2 p0 p1 p2 p3
        refine wp_region_noPanic ?_
        refine HT.begin (n := 7) (S := (fun u => Blk u w1.heap.size #[.string s, .string t, .int .i64 m, .slice A1 fs.length c1] 50 ∧ Row u w0.heap.size 67 2 A1 fs.length c1 (fcells fs) ∧ Below w.heap.size w u)) (by kernel_rfl) hS0 ?_
        refine HT.take 0 (.pointer (some ⟨w1.heap.size, 3, none⟩)) rfl (by kernel_rfl) (fun _ _ _ h => h) (Or.inl ⟨by rfl, ?_⟩) (?_ : HT _ _ _ _ _ _ _ ⟨#[_, _, _, _, _, _, _, _, _, _, _, _, _, _, _, _, _, _, _, _, _, _, _, _, _, _, _, _, _, _, _, _, _, _, _, _, _, .pointer (some ⟨w1.heap.size, 3, none⟩), _, _, _, _, _, _, _, _, _, _, _, _, _, _, _, _, _, _, _], []⟩ _)
        · intro u hu
          go_simp
        refine HT.take 1 (.slice A1 fs.length c1) rfl (by kernel_rfl) (fun _ _ _ h => h) (Or.inl ⟨by rfl, ?_⟩) (?_ : HT _ _ _ _ _ _ _ ⟨#[_, _, _, _, _, _, _, _, _, _, _, _, _, _, _, _, _, _, _, _, _, _, _, _, _, _, _, _, _, _, _, _, _, _, _, _, _, .pointer (some ⟨w1.heap.size, 3, none⟩), .slice A1 fs.length c1, _, _, _, _, _, _, _, _, _, _, _, _, _, _, _, _, _, _], []⟩ _)
        · intro u hu
          obtain ⟨x0, x1, x2, x3⟩ := hu.1.cells4
          go_simp
        refine HT.take 2 (.slice B0 body.length e0) rfl (by kernel_rfl) (fun _ _ _ h => h) (Or.inl ⟨by rfl, ?_⟩) (?_ : HT _ _ _ _ _ _ _ ⟨#[_, _, _, _, _, _, _, _, _, _, _, _, _, _, _, _, _, _, _, _, _, _, _, _, _, _, _, _, _, _, _, _, _, _, _, _, _, .pointer (some ⟨w1.heap.size, 3, none⟩), .slice A1 fs.length c1, .slice B0 body.length e0, _, _, _, _, _, _, _, _, _, _, _, _, _, _, _, _, _], []⟩ _)
        · intro u hu
          go_simp
        refine HT.take 3 (.int .i64 body.length) rfl (by kernel_rfl) (fun _ _ _ h => h) (Or.inl ⟨by rfl, ?_⟩) (?_ : HT _ _ _ _ _ _ _ ⟨#[_, _, _, _, _, _, _, _, _, _, _, _, _, _, _, _, _, _, _, _, _, _, _, _, _, _, _, _, _, _, _, _, _, _, _, _, _, .pointer (some ⟨w1.heap.size, 3, none⟩), .slice A1 fs.length c1, .slice B0 body.length e0, .int .i64 body.length, _, _, _, _, _, _, _, _, _, _, _, _, _, _, _, _], []⟩ _)
        · intro u hu
          go_simp
        refine HT.step 4 rfl (by kernel_rfl) (fun hS K hK => ?_)
        go_simp
        refine (HSHOW.out _).mono ?_
        rintro e w3 ⟨rfl, hb3⟩
        refine hK.out _ _ ⟨hS.1.below hb3, hS.2.1.below hb3, below_then hS.2.2.size hS.2.2 hb3⟩ ?_
        clear hK hS hb3 hS0
        refine HT.take 5 (.agg #[.string F.clT, .string (I)]) rfl (by kernel_rfl) (fun _ _ _ h => h) (Or.inl ⟨by rfl, ?_⟩) (?_ : HT _ _ _ _ _ _ _ ⟨#[_, _, _, _, _, _, _, _, _, _, _, _, _, _, _, _, _, _, _, _, _, _, _, _, _, _, _, _, _, _, _, _, _, _, _, _, _, .pointer (some ⟨w1.heap.size, 3, none⟩), .slice A1 fs.length c1, .slice B0 body.length e0, .int .i64 body.length, .string (I), .agg #[.string F.clT, .string (I)], _, _, _, _, _, _, _, _, _, _, _, _, _, _], []⟩ _)
        · intro u hu
          go_simp
        refine HT.step 6 rfl (by kernel_rfl) (fun hS K hK => ?_)
        go_simp
        refine hK.out _ _ ⟨hS.1.alloc _, hS.2.1.alloc _, hS.2.2.alloc hS.2.2.size _⟩ ?_
        clear hK hS
        refine HT.tail _ rfl rfl (by kernel_rfl) (fun hS => ?_)
        have HS := Lib.hid hS
        clear hS
        have hzu := HS.out.2.2.size
        have hrz := HS.out.1.lt
        refine appF _ rfl (.tmp 38) (.tmp 43) rfl w0.heap.size A1 fs.length c1 fs rfl HS.out.2.1 _ 1 1 [(F.clT, I)] rfl (newF _ (F.clT, I)) (by omega) (by rw [World.size_alloc] at hrz ⊢; omega) ?_
        intro A4 c4 w4 hr4 ha4
        have hne4 : ∀ q, ownB A1 c1 = some q → q ≠ w1.heap.size := HNE.out
        have HK4 : Hid (Blk w4 w1.heap.size #[.string s, .string t, .int .i64 m, .slice A1 fs.length c1] 50) := Lib.hid (HS.out.1.app ha4 hne4)
        have HB4 : Hid (Below w.heap.size w w4) := Lib.hid (HS.out.2.2.trans ((ha4.below HS.out.2.1 (by rw [World.size_alloc] at hrz ⊢; omega)).mono hz0))
        obtain ⟨y0, y1, y2, y3⟩ := HK4.out.cells4
        obtain ⟨g0, g1, g2, g3⟩ := HK4.out.free4
        have HKT := Lib.hid (HK4.out.set 3 (.slice A4 (fs.length + 1) c4))
        have HRT := Lib.hid (hr4.farT HK4.out (by decide) 3 (.slice A4 (fs.length + 1) c4))
        have HBT := Lib.hid (below_set HB4.out (b := w1.heap.size) hlt0 3 (.slice A4 (fs.length + 1) c4))
        clear hr4 ha4 HS HK4 HB4 hne4
        go_wp2
        refine NoPanic.normal ?_
        go_wp2_with fail
        clear y0 y1 y2 y3 g0 g1 g2 g3
        have hfl : (fs ++ [((F.clT, I) : FD)]).length = fs.length + 1 := List.length_append
        rw [hfl] at HPR
        have HB := Lib.hid HBT.out
        have HRD := Lib.hid HRT.out.rd
        generalize w4.setCell ⟨w1.heap.size, 3, none⟩ (.slice A4 (fs.length + 1) c4) = w5 at *
        clear HBT HRT HKT
        refine (HPR.out w5 A4 c4 HB.out HRD.out).mono ?_
        rintro e w6 ⟨R, d, rfl, hr6, hb6⟩
        have HB6 := Lib.hid (below_then HB.out.size HB.out hb6)
        have HR6 := Lib.hid (hr6.mono HB.out.size)
        have hz6 := HB6.out.size
        clear hr6 hb6 HPR HRD
        by_cases hpe : PE = 0
        · have HOK2 := Lib.hid (HOK.out hpe)
          subst hpe
          have hbd := HBD.out w6 HB6.out
          go_wp2_with (at_builtin; refine appC _ rfl (.tmp 54) (.tmp 55) rfl w.heap.size R PB.length d PB rfl HR6.out B0 body.length e0 body rfl hbd (by omega) hz6 ?_; intro A7 c7 w7 hr7 ha7; have HB7 := Lib.hid (HB6.out.trans (ha7.belowC HR6.out hz6)); have HR7 := Lib.hid hr7; clear hr7 ha7)
          refine bodyPost_ret (v := .tuple #[.slice A7 (PB.length + body.length) c7, .int .i64 0]) (by simp [results, Tryd.results40, go_sem]) rfl ?_
          rw [HOK2.out.1, HOK2.out.2]
          have hlen : (PB ++ body).length = PB.length + body.length := List.length_append
          exact ⟨A7, c7, by rw [hlen], by rw [hlen]; exact HR7.out, HB7.out⟩
        · have HBD2 := Lib.hid (HBADE.out hpe)
          have e1 : (PE != 0) = true := by simpa using hpe
          go_wp2
          refine bodyPost_ret (v := .tuple #[.slice none 0 0, .int .i64 PE]) (by simp [results, Tryd.results40, go_sem]) rfl ?_
          exact RetBE.none_ HB6.out HBD2.out.1 HBD2.out.2
end Go.Proofs.YtcoohkgamogmgaaDoor
