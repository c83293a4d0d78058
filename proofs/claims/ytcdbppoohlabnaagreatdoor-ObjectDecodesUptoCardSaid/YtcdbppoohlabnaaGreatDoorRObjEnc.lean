/- The walk of the document's Encode (layer 12). Conditions: texts of at most 2^30 bytes, a list of fields of bulk at most 2^30. -/
import Derived.Test.YtcdbppoohlabnaaGreatDoorObjEnc
import Derived.Test.YtcdbppoohlabnaaGreatDoorRPResp
namespace Go.Proofs.YtcdbppoohlabnaaGreatDoor
open Go.RowKit

theorem okE_not {k v : ByteArray} {nb : Nat} {asked got : Int} (h : ¬ (k.size ≠ 0 ∧ k.size ≤ 4096 ∧ v.size ≤ 4096 ∧ nb ≤ 65536 ∧ timeB asked = true ∧ timeB got = true)) {E : Int} : ¬ (E = 0 ∧ okE k v nb asked got = true) := fun h2 => h (of_decide_eq_true h2.2)
theorem Sep.apart {g c : Nat} {E : Option Addr} {m : Nat} (h : 0 < m → ∀ e, E = some e → e.block ≠ g) : Sep (some ⟨g, 0, none⟩) c E m := fun hm kk e hk1 he => by
  have := h hm e he
  unfold ownB at hk1
  split at hk1
  · cases hk1
  · simp at hk1
    omega

theorem sec_pre (base : Nat) (A : Option Addr) (c j : Nat) (dat : Nat → List UInt8) (S : Option Addr) (q d : Nat) (u : World) (hj : j < 5) (hdl : ∀ i, (dat i).length ≤ 65536) (hl : (dat j).length = q)
    (hr : CRow u base A (preO dat j).length c (preO dat j)) (hz : base ≤ u.heap.size) (hd : Rd u S q 1 (bcells (dat j))) (hs : Sep A c S q) :
    Calls Tryz.prog 66 #[.slice A (preO dat j).length c, .int .i64 (j + 1 : Nat), .slice S q d] u (fun e w' => ∃ A' c', e = .returned (.slice A' (preO dat (j + 1)).length c') ∧ CRow w' base A' (preO dat (j + 1)).length c' (preO dat (j + 1)) ∧ App u w' A c A' c') := by
  have h1 := preO_len dat hdl j
  have h2 := hdl j
  have hlen : (preO dat (j + 1)).length = (preO dat j).length + 5 + q := by
    rw [preO, List.length_append, secB_len, hl]
    omega
  rw [hlen, preO]
  exact section_any base A c (j + 1) (preO dat j) S q d (dat j) u (by omega) (by omega) (by omega) hl hr hz hd hs

set_option maxRecDepth 100000 in
set_option maxHeartbeats 4000000 in
theorem refObjEncode_any (k v : ByteArray) (s : Int) (r : ByteArray) (m : Int) (A : Option Addr) (cf : Nat) (fs : List FD) (X : Option Addr) (cb : Nat) (body : List UInt8) (asked got : Int) (w : World) (hr : r.size ≤ 1073741824) (hf : F.bulk fs ≤ 1073741824) (hx : Rd w A fs.length 2 (fcells fs)) (hX : Rd w X body.length 1 (bcells body)) :
    Calls Tryz.prog 23 #[.agg #[.string k, .string v, .int .i64 s, .string r, .int .i64 m, .slice A fs.length cf, .slice X body.length cb, .int .i64 asked, .int .i64 got]] w (RetBE w (objB k v s r m fs body asked got) (objE k v s r m fs body.length asked got)) := by
  have HK := Lib.hid (Blk.new w #[.string k, .string v, .int .i64 s, .string r, .int .i64 m, .slice A fs.length cf, .slice X body.length cb, .int .i64 asked, .int .i64 got] 29)
  have HB := Lib.hid ((Below.refl w.heap.size w).alloc (Nat.le_refl _) (.cells #[.string k, .string v, .int .i64 s, .string r, .int .i64 m, .slice A fs.length cf, .slice X body.length cb, .int .i64 asked, .int .i64 got] 29))
  have HPR := Lib.hid (fun (u : World) (hu : Below w.heap.size w u) => refPrintResponse_any s r m A cf fs u hr hf (hx.below hu))
  have HX := Lib.hid (fun (u : World) (hu : Below w.heap.size w u) => hX.below hu)
  have HT1 := Lib.hid (fun (u : World) => refTime_any asked u)
  have HT2 := Lib.hid (fun (u : World) => refTime_any got u)
  have HBAD := Lib.hid (obj_bad (k := k) (v := v) (s := s) (r := r) (m := m) (fs := fs) (body := body) (asked := asked) (got := got))
  have HGOOD := Lib.hid (obj_good (k := k) (v := v) (s := s) (r := r) (m := m) (fs := fs) (body := body) (asked := asked) (got := got))
  have hE := respB_len s r m fs
  generalize objB k v s r m fs body asked got = OB at *
  generalize objE k v s r m fs body.length asked got = OE at *
  generalize F.respE s r m fs = E at *
  generalize F.respB s r m fs = H at *
  clear hx hX
  go_enter Tryz.func23, Tryz.ntmps23
  obtain ⟨x0, x1, x2, x3, x4, x5, x6, x7, x8⟩ := HK.out.cells9
  go_wp2_with fail
  clear x0 x1 x2 x3 x4 x5 x6 x7 x8
  refine (HPR.out _ HB.out).mono ?_
  rintro e w1 ⟨A1, c1, rfl, hr1, hb1⟩
  have HB1 := Lib.hid (below_then HB.out.size HB.out hb1)
  have HK1 := Lib.hid (HK.out.below hb1)
  have HR1 := Lib.hid (hr1.mono HB.out.size)
  clear hb1 hr1 HB HK HPR
  obtain ⟨x0, x1, x2, x3, x4, x5, x6, x7, x8⟩ := HK1.out.cells9
  by_cases hE0 : E = 0
  rotate_left
  · have hEb : (E != 0) = true := by simpa using hE0
    obtain ⟨ha, hb⟩ := HBAD.out (fun h => hE0 h.1)
    clear HBAD HGOOD HX HT1 HT2
    go_wp2
    refine bodyPost_ret (v := .tuple #[.slice none 0 0, .int .i64 120]) (by simp [results, Tryz.results23, go_sem]) rfl ?_
    exact RetBE.none_ HB1.out ha hb
  subst hE0
  by_cases h0 : (k.size : Int) < 1
  · obtain ⟨ha, hb⟩ := HBAD.out (okE_not fun h => by omega)
    clear HBAD HGOOD HX HT1 HT2
    go_wp2
    refine bodyPost_ret (v := .tuple #[.slice none 0 0, .int .i64 120]) (by simp [results, Tryz.results23, go_sem]) rfl ?_
    exact RetBE.none_ HB1.out ha hb
  by_cases h1 : (k.size : Int) ≤ 4096
  rotate_left
  · obtain ⟨ha, hb⟩ := HBAD.out (okE_not fun h => by omega)
    have h1' : (4096 : Int) < (k.size : Int) := by omega
    clear HBAD HGOOD HX HT1 HT2
    go_wp2
    refine bodyPost_ret (v := .tuple #[.slice none 0 0, .int .i64 120]) (by simp [results, Tryz.results23, go_sem]) rfl ?_
    exact RetBE.none_ HB1.out ha hb
  by_cases h2 : (v.size : Int) ≤ 4096
  rotate_left
  · obtain ⟨ha, hb⟩ := HBAD.out (okE_not fun h => by omega)
    have h1' : ¬ (4096 : Int) < (k.size : Int) := by omega
    have h2' : (4096 : Int) < (v.size : Int) := by omega
    clear HBAD HGOOD HX HT1 HT2
    go_wp2
    refine bodyPost_ret (v := .tuple #[.slice none 0 0, .int .i64 120]) (by simp [results, Tryz.results23, go_sem]) rfl ?_
    exact RetBE.none_ HB1.out ha hb
  by_cases h3 : (body.length : Int) ≤ 65536
  rotate_left
  · obtain ⟨ha, hb⟩ := HBAD.out (okE_not fun h => by omega)
    have h1' : ¬ (4096 : Int) < (k.size : Int) := by omega
    have h2' : ¬ (4096 : Int) < (v.size : Int) := by omega
    have h3' : (65536 : Int) < (body.length : Int) := by omega
    clear HBAD HGOOD HX HT1 HT2
    go_wp2
    refine bodyPost_ret (v := .tuple #[.slice none 0 0, .int .i64 120]) (by simp [results, Tryz.results23, go_sem]) rfl ?_
    exact RetBE.none_ HB1.out ha hb
  have h1' : ¬ (4096 : Int) < (k.size : Int) := by omega
  have h2' : ¬ (4096 : Int) < (v.size : Int) := by omega
  have h3' : ¬ (65536 : Int) < (body.length : Int) := by omega
  have hTA : timeB asked = true → 0 ≤ asked ∧ asked ≤ 253402300799 := fun h => of_decide_eq_true h
  have hTG : timeB got = true → 0 ≤ got ∧ got ≤ 253402300799 := fun h => of_decide_eq_true h
  have HBAD2 : Hid ((timeB asked = false ∨ timeB got = false) → OB = [] ∧ OE = 120) := Lib.hid fun h => HBAD.out (okE_not fun h2 => by
    rcases h with h | h
    · rw [h2.2.2.2.2.1] at h; cases h
    · rw [h2.2.2.2.2.2] at h; cases h)
  have HGOOD2 : Hid (timeB asked = true → timeB got = true → OB = objW (datO k v H body asked got) ∧ OE = 0) := Lib.hid fun ha hb => HGOOD.out rfl (decide_eq_true ⟨by omega, by omega, by omega, by omega, ha, hb⟩)
  have HTA := Lib.hid hTA
  have HTG := Lib.hid hTG
  clear HBAD HGOOD hTA hTG
  generalize timeB asked = ta at *
  generalize timeB got = tg at *
  go_wp2_with fail
  clear x0 x1 x2 x3 x4 x5 x6 x7 x8
  refine (HT1.out _).mono ?_
  rintro e w2 ⟨rfl, hb2⟩
  have HB2 := Lib.hid (below_then HB1.out.size HB1.out hb2)
  have HK2 := Lib.hid (HK1.out.below hb2)
  have HR2 := Lib.hid (HR1.out.below hb2)
  clear hb2 HB1 HK1 HR1 HT1
  obtain ⟨x0, x1, x2, x3, x4, x5, x6, x7, x8⟩ := HK2.out.cells9
  cases ta with
  | false =>
    obtain ⟨ha, hb⟩ := HBAD2.out (.inl rfl)
    clear HBAD2 HGOOD2 HX HT2 HTA HTG
    go_wp2
    refine bodyPost_ret (v := .tuple #[.slice none 0 0, .int .i64 120]) (by simp [results, Tryz.results23, go_sem]) rfl ?_
    exact RetBE.none_ HB2.out ha hb
  | true =>
  obtain ⟨ha0, ha1⟩ := HTA.out rfl
  go_wp2_with fail
  clear x0 x1 x2 x3 x4 x5 x6 x7 x8
  refine (HT2.out _).mono ?_
  rintro e w3 ⟨rfl, hb3⟩
  have HB3 := Lib.hid (below_then HB2.out.size HB2.out hb3)
  have HK3 := Lib.hid (HK2.out.below hb3)
  have HR3 := Lib.hid (HR2.out.below hb3)
  clear hb3 HB2 HK2 HR2 HT2
  obtain ⟨x0, x1, x2, x3, x4, x5, x6, x7, x8⟩ := HK3.out.cells9
  cases tg with
  | false =>
    obtain ⟨ha, hb⟩ := HBAD2.out (.inr rfl)
    clear HBAD2 HGOOD2 HX HTA HTG
    go_wp2
    refine bodyPost_ret (v := .tuple #[.slice none 0 0, .int .i64 120]) (by simp [results, Tryz.results23, go_sem]) rfl ?_
    exact RetBE.none_ HB3.out ha hb
  | true =>
  obtain ⟨hg0, hg1⟩ := HTG.out rfl
  obtain ⟨rfl, rfl⟩ := HGOOD2.out trivial rfl
  clear HBAD2 HGOOD2 HTA HTG
  obtain ⟨a, rfl⟩ : ∃ a : Nat, asked = a := ⟨asked.toNat, by omega⟩
  obtain ⟨g, rfl⟩ : ∃ g : Nat, got = g := ⟨got.toNat, by omega⟩
  have HN1 := Lib.hid (fun (u : World) => number_any a 8 u (Nat.le_refl _) (by omega))
  have HN2 := Lib.hid (fun (u : World) => number_any g 8 u (Nat.le_refl _) (by omega))
  go_wp2_with fail
  clear x0 x1 x2 x3 x4 x5 x6 x7 x8
  refine (HN1.out _).mono ?_
  rintro e w4 ⟨A4, c4, rfl, hr4, hb4⟩
  have HB4 := Lib.hid hb4
  have HR4 := Lib.hid hr4
  have HK4 := Lib.hid (HK3.out.below hb4)
  clear hr4 hb4 HN1
  obtain ⟨x0, x1, x2, x3, x4, x5, x6, x7, x8⟩ := HK4.out.cells9
  go_wp2_with fail
  clear x0 x1 x2 x3 x4 x5 x6 x7 x8
  refine (HN2.out _).mono ?_
  rintro e w5 ⟨A5, c5, rfl, hr5, hb5⟩
  have HB5 := Lib.hid (below_then HB4.out.size HB4.out hb5)
  have HR5 := Lib.hid hr5.rd
  have HR45 := Lib.hid (HR4.out.below hb5)
  have hz5 : w3.heap.size ≤ w5.heap.size := HB5.out.size
  clear hr5 hb5 HN2 HB4 HR4 HK4
  go_wp2_with (at_builtin; refine appC _ rfl (.tmp 55) (.tmp 58) rfl w3.heap.size A4 8 c4 (beN a 8) rfl HR45.out A5 8 c5 (beN g 8) rfl HR5.out (by omega) hz5 ?_; intro A6 c6 w6 hr6 ha6; have hb6 : Below w3.heap.size w3 w6 := HB5.out.trans (ha6.belowC HR45.out hz5); have HT6 : Hid (Rd w6 A6 16 1 (bcells (beN a 8 ++ beN g 8))) := Lib.hid hr6.rd; have HB6 := Lib.hid (below_then HB3.out.size HB3.out hb6); have HK6 := Lib.hid (HK3.out.below hb6); have HR6 := Lib.hid (HR3.out.below hb6); clear hr6 ha6 hb6 HB5 HR45 HR5 HB3 HK3 HR3; have hcc := Lib.run_convert_bytes_const (P := Tryz.prog) w6 22 5 #[.int .u8 67, .int .u8 79, .int .u8 49] 3 3 Tryz.underlying22 Tryz.underlying5; have hbc : Below w6.heap.size w6 (w6.alloc (.cells #[.int .u8 67, .int .u8 79, .int .u8 49] 5 (3, 4))) := (Below.refl _ _).alloc (Nat.le_refl _) _; have HKC := Lib.hid (HK6.out.below hbc); obtain ⟨x0, x1, x2, x3, x4, x5, x6, x7, x8⟩ := HKC.out.cells9; obtain ⟨ck, W1, hrun1, hrow1, hbW1⟩ := conv_sbC (w6.alloc (.cells #[.int .u8 67, .int .u8 79, .int .u8 49] 5 (3, 4))) k)
  have hs5 : ((w6.alloc (.cells #[.int .u8 67, .int .u8 79, .int .u8 49] 5 (3, 4)))).heap.size = w6.heap.size + 1 := World.size_alloc _ _
  have hbB : w.heap.size < w6.heap.size := HK6.out.lt
  obtain ⟨dat, hdat⟩ : ∃ dat, dat = datO k v H body a g := ⟨_, rfl⟩
  have HDAT : Hid (objW (datO k v H body a g) = objW dat) := Lib.hid (by rw [hdat])
  have hdl : ∀ i, (dat i).length ≤ 65536 := by
    intro i
    subst hdat
    match i with
    | 0 => show (L k).length ≤ _; rw [← L_size]; omega
    | 1 => show (L v).length ≤ _; rw [← L_size]; omega
    | 2 => show H.length ≤ _; omega
    | 3 => show body.length ≤ _; omega
    | 4 => show (beN (a : Int).toNat 8 ++ beN (g : Int).toNat 8).length ≤ _; rw [List.length_append, beN_len, beN_len]; decide
    | n + 5 => exact Nat.zero_le _
  have hd0 : L k = dat 0 := by rw [hdat]; rfl
  have hd1 : L v = dat 1 := by rw [hdat]; rfl
  have hd2 : H = dat 2 := by rw [hdat]; rfl
  have hd3 : body = dat 3 := by rw [hdat]; rfl
  have hd4 : beN a 8 ++ beN g 8 = dat 4 := by rw [hdat]; rfl
  have hr5c : CRow (w6.alloc (.cells #[.int .u8 67, .int .u8 79, .int .u8 49] 5 (3, 4))) w6.heap.size (some ⟨w6.heap.size, 0, none⟩) 3 3 (preO dat 0) := CRow.newM w6 #[.int .u8 67, .int .u8 79, .int .u8 49] [67, 79, 49] rfl
  have hold : ∀ (E : Option Addr) (q : Nat) (xs : List Value), Rd w6 E q 1 xs → Rd (w6.alloc (.cells #[.int .u8 67, .int .u8 79, .int .u8 49] 5 (3, 4))) E q 1 xs ∧ Sep (some ⟨w6.heap.size, 0, none⟩) 3 E q := fun E q xs h =>
    ⟨h.below hbc, Sep.apart fun hq e he => by
      obtain ⟨b', o', e', hlt⟩ := h.lt hq
      rw [he] at e'
      cases e'
      show b' ≠ _
      omega⟩
  have hX6 := HX.out w6 HB6.out
  have hH := hold _ _ _ HR6.out.rd
  have hY := hold _ _ _ hX6
  have hTT := hold _ _ _ HT6.out
  rw [hd2] at hH
  rw [hd3] at hY
  rw [hd4] at hTT
  have hlv : (dat 1).length = v.size := by rw [← hd1]; exact (L_size v).symm
  have hlk : (dat 0).length = k.size := by rw [← hd0]; exact (L_size k).symm
  have hlH : (dat 2).length = H.length := by rw [← hd2]
  have hlB : (dat 3).length = body.length := by rw [← hd3]
  have hlT : (dat 4).length = 16 := by rw [← hd4, List.length_append, beN_len, beN_len]
  rw [hlH] at hH
  rw [hlB] at hY
  have HH := Lib.hid hH
  have HY := Lib.hid hY
  have HTT := Lib.hid hTT
  have ha1 : App (w6.alloc (.cells #[.int .u8 67, .int .u8 79, .int .u8 49] 5 (3, 4))) W1 (some ⟨w6.heap.size, 0, none⟩) 3 (some ⟨w6.heap.size, 0, none⟩) 3 := App.pre hbW1 (App.start _ _ _)
  have hr1 : CRow W1 w6.heap.size (some ⟨w6.heap.size, 0, none⟩) 3 3 (preO dat 0) := hr5c.below hbW1
  rw [hs5] at hrow1
  have hk1 : Rd W1 (some ⟨w6.heap.size + 1, 0, none⟩) k.size 1 (bcells (dat 0)) := by rw [← hd0]; exact hrow1.rd
  have hz1 : w6.heap.size ≤ W1.heap.size := by have := hbW1.size; omega
  have HBC := Lib.hid (below_then HB6.out.size HB6.out hbc)
  have hzC : w6.heap.size ≤ ((w6.alloc (.cells #[.int .u8 67, .int .u8 79, .int .u8 49] 5 (3, 4)))).heap.size := by omega
  clear hcc hrun1 x0 x1 x2 x3 x4 x5 x6 x7 x8 hold hrow1 hbW1 hs5 hbc hX6 hH hY hTT hr5c HK6 HR6 HT6 HB6 HX hdat hd0 hd2 hd3 hd4
  generalize (w6.alloc (.cells #[.int .u8 67, .int .u8 79, .int .u8 49] 5 (3, 4))) = wC at *
  generalize w6.heap.size = base at *
  have hne : ∀ kk, ownB (some ⟨base, 0, none⟩) 3 = some kk → kk ≠ w.heap.size := fun kk hk1 => by simp [ownB] at hk1; omega
  refine (sec_pre base (some ⟨base, 0, none⟩) 3 0 dat (some ⟨base + 1, 0, none⟩) k.size ck W1 (by decide) hdl hlk hr1 hz1 hk1 (Sep.apart fun _ e he => by cases he; show base + 1 ≠ base; omega)).mono ?_
  rintro e w7 ⟨A7, c7, rfl, hr7, ha7⟩
  have HA7 := Lib.hid (ha1.next ha7)
  have HR7 := Lib.hid hr7
  have hz7 : base ≤ w7.heap.size := Nat.le_trans hz1 ha7.grown.size
  clear ha1 ha7 hr7 hr1 hk1 hz1
  have HK7 := Lib.hid (HKC.out.app HA7.out hne)
  obtain ⟨x0, x1, x2, x3, x4, x5, x6, x7, x8⟩ := HK7.out.cells9
  obtain ⟨cv, W2, hrun2, hrow2, hbW2⟩ := conv_sbC w7 v
  go_wp2_with fail
  clear hrun2 x0 x1 x2 x3 x4 x5 x6 x7 x8
  rw [hd1] at hrow2
  refine (sec_pre base A7 c7 1 dat (some ⟨w7.heap.size, 0, none⟩) v.size cv W2 (by decide) hdl hlv (HR7.out.below hbW2) (Nat.le_trans hz7 hbW2.size) hrow2.rd (fun _ kk e hk1 he => by have := (HR7.out.lt kk hk1).2; cases he; show kk ≠ w7.heap.size; omega)).mono ?_
  rintro e w8 ⟨A8, c8, rfl, hr8, ha8⟩
  have HA8 := Lib.hid (HA7.out.next (App.pre hbW2 ha8))
  have HR8 := Lib.hid hr8
  have hz8 : base ≤ w8.heap.size := Nat.le_trans (Nat.le_trans hz7 hbW2.size) ha8.grown.size
  clear ha8 hr8 hrow2 hbW2 HK7 HR7 HA7
  go_wp2_with fail
  refine (sec_pre base A8 c8 2 dat A1 H.length c1 w8 (by decide) hdl hlH HR8.out hz8 (HA8.out.rd HH.out.1 HH.out.2) (HA8.out.sep HH.out.1 HH.out.2)).mono ?_
  rintro e w9 ⟨A9, c9, rfl, hr9, ha9⟩
  have HA9 := Lib.hid (HA8.out.next ha9)
  have HR9 := Lib.hid hr9
  have hz9 : base ≤ w9.heap.size := Nat.le_trans hz8 ha9.grown.size
  clear ha9 hr9 HR8 HA8
  have HK9 := Lib.hid (HKC.out.app HA9.out hne)
  obtain ⟨x0, x1, x2, x3, x4, x5, x6, x7, x8⟩ := HK9.out.cells9
  go_wp2_with fail
  clear x0 x1 x2 x3 x4 x5 x6 x7 x8
  refine (sec_pre base A9 c9 3 dat X body.length cb w9 (by decide) hdl hlB HR9.out hz9 (HA9.out.rd HY.out.1 HY.out.2) (HA9.out.sep HY.out.1 HY.out.2)).mono ?_
  rintro e w10 ⟨A10, c10, rfl, hr10, ha10⟩
  have HA10 := Lib.hid (HA9.out.next ha10)
  have HR10 := Lib.hid hr10
  have hz10 : base ≤ w10.heap.size := Nat.le_trans hz9 ha10.grown.size
  clear ha10 hr10 HR9 HA9 HK9
  go_wp2_with fail
  refine (sec_pre base A10 c10 4 dat A6 16 c6 w10 (by decide) hdl hlT HR10.out hz10 (HA10.out.rd HTT.out.1 HTT.out.2) (HA10.out.sep HTT.out.1 HTT.out.2)).mono ?_
  rintro e w11 ⟨A11, c11, rfl, hr11, ha11⟩
  have HA11 := Lib.hid (HA10.out.next ha11)
  have HR11 := Lib.hid hr11
  have hz11 : base ≤ w11.heap.size := Nat.le_trans hz10 ha11.grown.size
  have hpl := preO_len dat hdl 5
  have hsl := sumN_lt (preO dat 5)
  have hbz : w.heap.size ≤ base := by omega
  have HBW := Lib.hid (HBC.out.grown HA11.out.grown (by have := HBC.out.size; omega) (fun kk hk1 => by have := hne kk hk1; simp [ownB] at hk1; omega))
  clear ha11 hr11 HR10 HA10 HA11 HH HY HTT HKC hdl hlk hlv hlH hlB hlT hd1
  have HW : Hid (objW dat = preO dat 5 ++ beN (sumN (preO dat 5)) 4) := Lib.hid rfl
  have HSU := Lib.hid (fun (u : World) (hu : Below w11.heap.size w11 u) => refSum_any A11 c11 (preO dat 5) u (by omega) (HR11.out.rd.below hu))
  have HNM := Lib.hid (fun (u : World) => number_any (sumN (preO dat 5)) 4 u (by decide) (by omega))
  generalize sumN (preO dat 5) = sm at *
  generalize preO dat 5 = P at *
  obtain ⟨p, hp⟩ : ∃ p, p = P.length := ⟨_, rfl⟩
  rw [← hp] at hpl HR11 HSU ⊢
  have HP := Lib.hid hp
  clear hp
  go_wp2_with fail
  refine (HSU.out _ (Below.refl _ _)).mono ?_
  rintro e w12 ⟨rfl, hb12⟩
  have HB12 := Lib.hid hb12
  clear hb12 HSU
  go_wp2_with fail
  refine (HNM.out _).mono ?_
  rintro e w13 ⟨A13, c13, rfl, hr13, hb13⟩
  have HB13 := Lib.hid (below_then HB12.out.size HB12.out hb13)
  have HR13 := Lib.hid hr13.rd
  have HR11' := Lib.hid (HR11.out.below HB13.out)
  have hz13 : base ≤ w13.heap.size := Nat.le_trans hz11 HB13.out.size
  clear hr13 hb13 HNM HB12
  go_wp2_with (at_builtin; refine appC _ rfl (.tmp 82) (.tmp 85) rfl base A11 p c11 P rfl HR11'.out A13 4 c13 (beN sm 4) rfl HR13.out (by omega) hz13 ?_; intro A14 c14 w14 hr14 ha14; have HR14 := Lib.hid (hr14.mono hbz); have HB14 := Lib.hid ((below_then HBW.out.size HBW.out HB13.out).trans ((ha14.belowC HR11'.out hz13).mono hbz)); clear hr14 ha14)
  have hlen : (objW dat).length = p + 4 := by
    rw [HW.out, List.length_append, beN_len, ← HP.out]
  refine bodyPost_ret (v := .tuple #[.slice A14 (p + 4) c14, .int .i64 0]) (by simp [results, Tryz.results23, go_sem]) rfl ?_
  refine ⟨A14, c14, by rw [HDAT.out, hlen], ?_, HB14.out⟩
  rw [HDAT.out, hlen, HW.out]
  exact HR14.out
end Go.Proofs.YtcdbppoohlabnaaGreatDoor
