/- The walk of the document's Decode (printed by gen/odecr.py). Conditions: a row of at most 2^30 bytes. -/
import Derived.Test.YtcdbppoohlabnaaGreatDoorObjB
import Derived.Test.YtcdbppoohlabnaaGreatDoorRefResp
import Derived.Test.YtcdbppoohlabnaaGreatDoorRObjEnc
namespace Go.Proofs.YtcdbppoohlabnaaGreatDoor
open Go.RowKit

theorem O.val_high (l : List UInt8) (h : l.length = 8) : O.val l < 9223372036854775808 ↔ (l.getD 0 0).toNat ≤ 127 := by
  match l, h with
  | x :: r, h =>
    have hr : r.length = 7 := by simpa using h
    have h1 := O.val_lt r
    rw [O.val_cons, hr, show (256 : Nat) ^ 7 = 72057594037927936 by decide] at *
    show _ ↔ x.toNat ≤ 127
    omega
theorem O.enc_waysV (k v : ByteArray) (s : Int) (r : ByteArray) (m : Int) (fs : List FD) (body : List UInt8) (asked got : Int) : O.Told (objB k v s r m fs body asked got) ⟨k, v, s, r, m, fs, body, asked, got⟩ ∨ objB k v s r m fs body asked got = [] := by
  unfold objB
  by_cases h : objOk k v s r m fs body.length asked got = true
  · rw [if_pos h]
    exact .inl (O.told_of (E := ⟨k, v, s, r, m, fs, body, asked, got⟩) h rfl)
  · rw [if_neg h]
    exact .inr rfl
theorem objB_lenV (k v : ByteArray) (s : Int) (r : ByteArray) (m : Int) (fs : List FD) (body : List UInt8) (asked got : Int) : (objB k v s r m fs body asked got).length ≤ 400000 := by
  rcases O.enc_waysV k v s r m fs body asked got with h | h
  · have := h.len.2
    omega
  · rw [h]
    exact Nat.zero_le _
set_option maxHeartbeats 4000000 in
set_option maxRecDepth 100000 in
theorem refODecode_any (A : Option Addr) (c : Nat) (l : List UInt8) (w : World) (hn : l.length ≤ 1073741824) (hc : l.length ≤ c) (hx : Rd w A l.length 1 (bcells l)) :
    Calls Tryz.prog 17 #[.slice A l.length c] w (RetDec w l) := by
  have HK0 := Lib.hid (Blk.new w #[.string ⟨#[]⟩, .string ⟨#[]⟩, .int .i64 0, .string ⟨#[]⟩, .int .i64 0, .slice none 0 0, .slice none 0 0, .int .i64 0, .int .i64 0] 29)
  have HB0 := Lib.hid ((Below.refl w.heap.size w).alloc (Nat.le_refl _) (.cells #[.string ⟨#[]⟩, .string ⟨#[]⟩, .int .i64 0, .string ⟨#[]⟩, .int .i64 0, .slice none 0 0, .slice none 0 0, .int .i64 0, .int .i64 0] 29))
  have HZ0 : Hid ((w.alloc (.cells #[.string ⟨#[]⟩, .string ⟨#[]⟩, .int .i64 0, .string ⟨#[]⟩, .int .i64 0, .slice none 0 0, .slice none 0 0, .int .i64 0, .int .i64 0] 29)).heap.size = w.heap.size + 1) := Lib.hid (World.size_alloc ..)
  have HX0 := Lib.hid (hx.alloc (.cells #[.string ⟨#[]⟩, .string ⟨#[]⟩, .int .i64 0, .string ⟨#[]⟩, .int .i64 0, .slice none 0 0, .slice none 0 0, .int .i64 0, .int .i64 0] 29))
  have HXW := Lib.hid hx
  clear hx
  go_enter Tryz.func17, Tryz.ntmps17
  go_upto_region 1 with fail
  generalize w.alloc (.cells #[.string ⟨#[]⟩, .string ⟨#[]⟩, .int .i64 0, .string ⟨#[]⟩, .int .i64 0, .slice none 0 0, .slice none 0 0, .int .i64 0, .int .i64 0] 29) = w0 at *
  by_cases h3 : l.length < 3
  · have HF : Hid (O.dec l = none) := Lib.hid (O.dec_none' fun E h => by have := h.len.1; omega)
    have h3i : (l.length : Int) < 3 := by omega
    clear HX0 HXW
    obtain ⟨a0, a1, a2, a3, a4, a5, a6, a7, a8⟩ := HK0.out.cells9
    obtain ⟨g0, g1, g2, g3, g4, g5, g6, g7, g8⟩ := HK0.out.free9
    go_wp2
    obtain ⟨z0, z1, z2, z3, z4, z5, z6, z7, z8⟩ := (HK0.out.set9 (.string ⟨#[]⟩) (.string ⟨#[]⟩) (.int .i64 0) (.string ⟨#[]⟩) (.int .i64 0) (.slice none 0 0) (.slice none 0 0) (.int .i64 0) (.int .i64 0)).cells9
    unfold nine at z0 z1 z2 z3 z4 z5 z6 z7 z8
    refine bodyPost_ret (v := .tuple #[.agg #[.string ⟨#[]⟩, .string ⟨#[]⟩, .int .i64 0, .string ⟨#[]⟩, .int .i64 0, .slice none 0 0, .slice none 0 0, .int .i64 0, .int .i64 0], .int .i64 120]) (by simp [results, Tryz.results17, go_sem, z0, z1, z2, z3, z4, z5, z6, z7, z8]) rfl ?_
    exact .inr ⟨HF.out, rfl, below_nine HB0.out (Nat.le_refl _) _ _ _ _ _ _ _ _ _⟩
  have h3i : ¬ (l.length : Int) < 3 := by omega
  by_cases hbig : 100000 < l.length
  · have HF : Hid (O.dec l = none) := Lib.hid (O.dec_none' fun E h => by have := h.len.2; omega)
    have hbi : (100000 : Int) < (l.length : Int) := by omega
    clear HX0 HXW
    obtain ⟨a0, a1, a2, a3, a4, a5, a6, a7, a8⟩ := HK0.out.cells9
    obtain ⟨g0, g1, g2, g3, g4, g5, g6, g7, g8⟩ := HK0.out.free9
    go_wp2
    obtain ⟨z0, z1, z2, z3, z4, z5, z6, z7, z8⟩ := (HK0.out.set9 (.string ⟨#[]⟩) (.string ⟨#[]⟩) (.int .i64 0) (.string ⟨#[]⟩) (.int .i64 0) (.slice none 0 0) (.slice none 0 0) (.int .i64 0) (.int .i64 0)).cells9
    unfold nine at z0 z1 z2 z3 z4 z5 z6 z7 z8
    refine bodyPost_ret (v := .tuple #[.agg #[.string ⟨#[]⟩, .string ⟨#[]⟩, .int .i64 0, .string ⟨#[]⟩, .int .i64 0, .slice none 0 0, .slice none 0 0, .int .i64 0, .int .i64 0], .int .i64 120]) (by simp [results, Tryz.results17, go_sem, z0, z1, z2, z3, z4, z5, z6, z7, z8]) rfl ?_
    exact .inr ⟨HF.out, rfl, below_nine HB0.out (Nat.le_refl _) _ _ _ _ _ _ _ _ _⟩
  have hbi : ¬ (100000 : Int) < (l.length : Int) := by omega
  obtain ⟨b, o, rfl, _, _⟩ := HX0.out.2 (by omega)
  have HS0 := Lib.hid (fun (k : Nat) (hk : k ≤ l.length) => Sl.from_ HX0.out hc k hk)
  go_upto_region 4 with fail
  have HK1 := Lib.hid (HK0.out.alloc (.cells #[] 22))
  have HL1 := Lib.hid ((Below.refl w0.heap.size w0).alloc (Nat.le_refl _) (.cells #[] 22))
  go_wp2_with fail
  go_loopw [4, 5, 6, 7] (fun v4 v5 v6 v7 wr => ∃ (k : Nat) (A3 : Option Addr) (c3 : Nat) (vs : List Value) (ds : List (List UInt8)) (a : Nat), k ≤ 5 ∧ v4 = .slice A3 k c3 ∧ v5 = .int .i64 a ∧ v6 = .int .i64 k ∧ a ≤ l.length ∧ O.parts (l.drop 3) k = some (ds, l.drop a) ∧ Row wr w0.heap.size 22 1 A3 k c3 vs ∧ Sls w0 ds vs ∧ Below w0.heap.size w0 wr) (fun _ _ v6 _ _ => 5 - (intOf v6).toNat)
  case atStart => exact ⟨0, _, 0, [], [], 3, Nat.zero_le _, rfl, rfl, rfl, by omega, rfl, Row.empty _ _ _ _ _, trivial, HL1.out⟩
  case round =>
    clear HL1 HK1
    obtain ⟨wo, rfl⟩ : ∃ wo : World, wo = wr := ⟨_, rfl⟩
    obtain ⟨k, A3, c3, vs, ds, a, hk, rfl, rfl, rfl, hal, hpt, hrow, hsls, hbel⟩ := hrel
    have HROW := Lib.hid hrow
    have HSLS := Lib.hid hsls
    have HPT := Lib.hid hpt
    have HB := Lib.hid hbel
    have HKO := Lib.hid (HK0.out.under hbel HK0.out.lt)
    have HLO := Lib.hid (below_then HB0.out.size HB0.out hbel)
    clear hrow hsls hpt hbel
    by_cases hk5 : k = 5
    rotate_left
    · have hki : (k : Int) < 5 := by omega
      have hdl : (l.drop a).length = l.length - a := List.length_drop
      by_cases h5 : l.length - a < 5
      · have HF : Hid (O.dec l = none) := Lib.hid (O.dec_short (O.parts_stop (k := k + 1) (by unfold O.parts; rw [HPT.out]; simp only [show O.cut (l.drop a) = none from if_pos (by rw [hdl]; exact h5)]) 5 (by omega)))
        have h5i : (l.length : Int) - (a : Int) < 5 := by omega
        clear HX0 HXW HS0 HROW HSLS HPT HB hdl
        obtain ⟨a0, a1, a2, a3, a4, a5, a6, a7, a8⟩ := HKO.out.cells9
        obtain ⟨g0, g1, g2, g3, g4, g5, g6, g7, g8⟩ := HKO.out.free9
        go_wp2
        obtain ⟨z0, z1, z2, z3, z4, z5, z6, z7, z8⟩ := (HKO.out.set9 (.string ⟨#[]⟩) (.string ⟨#[]⟩) (.int .i64 0) (.string ⟨#[]⟩) (.int .i64 0) (.slice none 0 0) (.slice none 0 0) (.int .i64 0) (.int .i64 0)).cells9
        unfold nine at z0 z1 z2 z3 z4 z5 z6 z7 z8
        refine bodyPost_ret (v := .tuple #[.agg #[.string ⟨#[]⟩, .string ⟨#[]⟩, .int .i64 0, .string ⟨#[]⟩, .int .i64 0, .slice none 0 0, .slice none 0 0, .int .i64 0, .int .i64 0], .int .i64 120]) (by simp [results, Tryz.results17, go_sem, z0, z1, z2, z3, z4, z5, z6, z7, z8]) rfl ?_
        exact .inr ⟨HF.out, rfl, below_nine HLO.out (Nat.le_refl _) _ _ _ _ _ _ _ _ _⟩
      have h5i : ¬ (l.length : Int) - (a : Int) < 5 := by omega
      have hcut : O.cut (l.drop a) = if (l.drop a).length - 5 < O.val (((l.drop a).drop 1).take 4) then none else some (((l.drop a).drop 5).take (O.val (((l.drop a).drop 1).take 4)), ((l.drop a).drop 5).drop (O.val (((l.drop a).drop 1).take 4))) := if_neg (by rw [hdl]; exact h5)
      have h4l : (((l.drop a).drop 1).take 4).length = 4 := by rw [List.length_take, List.length_drop, hdl]; omega
      have hvl := O.val_lt (((l.drop a).drop 1).take 4)
      rw [h4l, show (256 : Nat) ^ 4 = 4294967296 from by decide] at hvl
      have HV := Lib.hid (show Calls Tryz.prog 56 #[.slice (some ⟨b, o + (a + 1), none⟩) 4 (c - (a + 1))] wo (RetP wo (.int .i64 (O.val (((l.drop a).drop 1).take 4) : Nat))) from by
        have := refBeVal_any (some ⟨b, o + (a + 1), none⟩) (c - (a + 1)) (((l.drop a).drop 1).take 4) wo (by omega) (by omega) (by rw [h4l, List.drop_drop]; exact ((HX0.out.from_ (show a + 1 ≤ l.length by omega)).upto (by omega)).below HB.out)
        rwa [h4l] at this)
      rw [hdl] at hcut
      have HCUT := Lib.hid hcut
      generalize O.val (((l.drop a).drop 1).take 4) = v at *
      have hT1 : ((a : Int) + 1).toNat = a + 1 := by omega
      have hT5 : ((a : Int) + 5).toNat = a + 5 := by omega
      have hsz : ((a : Int) + 5 - ((a : Int) + 1)).toNat = 4 := by omega
      have hc1 : (a : Int) + 1 ≤ (a : Int) + 5 := by omega
      have hc5 : (a : Int) + 5 ≤ (c : Int) := by omega
      have hif : ¬ c = a + 1 := by omega
      have hif2 : ¬ (c : Int) = (a : Int) + 1 := by omega
      have hif3 : ¬ (a : Int) + 1 = (c : Int) := by omega
      clear hcut h4l hdl
      go_wp2_with fail
      refine HV.out.mono ?_
      rintro e w2 ⟨rfl, rfl⟩
      clear HV
      by_cases hv : l.length - a - 5 < v
      · have HF : Hid (O.dec l = none) := Lib.hid (O.dec_short (O.parts_stop (k := k + 1) (by unfold O.parts; rw [HPT.out]; simp only [HCUT.out, if_pos hv]) 5 (by omega)))
        have hvi : (l.length : Int) - ((a : Int) + 5) < (v : Int) := by omega
        clear HX0 HXW HS0 HROW HSLS HPT HB HCUT
        obtain ⟨a0, a1, a2, a3, a4, a5, a6, a7, a8⟩ := HKO.out.cells9
        obtain ⟨g0, g1, g2, g3, g4, g5, g6, g7, g8⟩ := HKO.out.free9
        go_wp2
        obtain ⟨z0, z1, z2, z3, z4, z5, z6, z7, z8⟩ := (HKO.out.set9 (.string ⟨#[]⟩) (.string ⟨#[]⟩) (.int .i64 0) (.string ⟨#[]⟩) (.int .i64 0) (.slice none 0 0) (.slice none 0 0) (.int .i64 0) (.int .i64 0)).cells9
        unfold nine at z0 z1 z2 z3 z4 z5 z6 z7 z8
        refine bodyPost_ret (v := .tuple #[.agg #[.string ⟨#[]⟩, .string ⟨#[]⟩, .int .i64 0, .string ⟨#[]⟩, .int .i64 0, .slice none 0 0, .slice none 0 0, .int .i64 0, .int .i64 0], .int .i64 120]) (by simp [results, Tryz.results17, go_sem, z0, z1, z2, z3, z4, z5, z6, z7, z8]) rfl ?_
        exact .inr ⟨HF.out, rfl, below_nine HLO.out (Nat.le_refl _) _ _ _ _ _ _ _ _ _⟩
      have hvi : ¬ (l.length : Int) - ((a : Int) + 5) < (v : Int) := by omega
      have HPN : Hid (O.parts (l.drop 3) (k + 1) = some (ds ++ [((l.drop a).drop 5).take v], l.drop (a + 5 + v))) := Lib.hid (by
        unfold O.parts
        rw [HPT.out]
        simp only [HCUT.out, if_neg hv]
        rw [List.drop_drop, List.drop_drop])
      have hd55 : (l.drop a).drop 5 = l.drop (a + 5) := List.drop_drop
      have hs5 := HS0.out (a + 5) (by omega)
      have hT6 : ((a : Int) + 5 + (v : Int)).toNat = a + 5 + v := by omega
      have hsz2 : ((a : Int) + 5 + (v : Int) - ((a : Int) + 5)).toNat = v := by omega
      have hc6 : (a : Int) + 5 ≤ (a : Int) + 5 + (v : Int) := by omega
      have hc7 : (a : Int) + 5 + (v : Int) ≤ (c : Int) := by omega
      have hz0 := HB.out.size
      clear HX0 HXW HCUT HPT
      by_cases hce : c = a + 5
      · have hv0 : v = 0 := by omega
        subst hce
        have HSN : Hid (Sls w0 (ds ++ [((l.drop a).drop 5).take v]) (vs ++ [.slice (some ⟨b, o, none⟩) 0 0])) := Lib.hid (Sls.snoc (by
          rw [hd55]
          subst hv0
          exact ⟨_, 0, rfl, Rd.nil _ _ _, Nat.le_refl _, (fun h => by cases h), (fun a h => by cases h; exact .inl rfl)⟩) HSLS.out)
        have HR2 := Lib.hid (HROW.out.alloc (.cells #[.slice (some ⟨b, o, none⟩) 0 0] 22))
        have HN2 := Lib.hid (Rd.newRow wo 22 #[.slice (some ⟨b, o, none⟩) 0 0] 1 1 rfl)
        clear hs5 HSLS HROW hd55
        go_wp2_with (at_builtin; refine appW _ rfl (.tmp 49) (.tmp 56) rfl w0.heap.size A3 k c3 vs rfl HR2.out (some ⟨wo.heap.size, 0, none⟩) 1 1 [.slice (some ⟨b, o, none⟩) 0 0] rfl HN2.out (fun u hu => by rw [List.mem_singleton.1 hu]; rfl) (by omega) (by rw [World.size_alloc]; omega) ?_; intro A4 c4 w4 hr4 ha4)
        have hz3 : w0.heap.size ≤ (wo.alloc (.cells #[.slice (some ⟨b, o, none⟩) 0 0] 22)).heap.size := by rw [World.size_alloc]; omega
        have hB4 : Below w0.heap.size w0 w4 := (HB.out.alloc hz0 (.cells #[.slice (some ⟨b, o, none⟩) 0 0] 22)).trans (ha4.below HR2.out hz3)
        go_roundw
        case rel => exact ⟨k + 1, A4, c4, _, _, a + 5 + v, by omega, rfl, by go_num, by go_num, by omega, HPN.out, hr4, HSN.out, hB4⟩
        case measure => simp [intOf]; omega
      · have hce1 : ¬ (c : Int) = (a : Int) + 5 := by omega
        have hce2 : ¬ (a : Int) + 5 = (c : Int) := by omega
        have HSN : Hid (Sls w0 (ds ++ [((l.drop a).drop 5).take v]) (vs ++ [.slice (some ⟨b, o + (a + 5), none⟩) v (c - (a + 5))])) := Lib.hid (Sls.snoc (by
          rw [hd55]
          rw [addA_in (show a + 5 ≠ c by omega)] at hs5
          have h1 : Sl w0 (l.drop (a + 5)) (.slice (some ⟨b, o + (a + 5), none⟩) (l.drop (a + 5)).length (c - (a + 5))) := by rw [List.length_drop]; exact hs5
          exact h1.upto (by rw [List.length_drop]; omega)) HSLS.out)
        have HR2 := Lib.hid (HROW.out.alloc (.cells #[.slice (some ⟨b, o + (a + 5), none⟩) v (c - (a + 5))] 22))
        have HN2 := Lib.hid (Rd.newRow wo 22 #[.slice (some ⟨b, o + (a + 5), none⟩) v (c - (a + 5))] 1 1 rfl)
        clear hs5 HSLS HROW hd55
        go_wp2_with (at_builtin; refine appW _ rfl (.tmp 49) (.tmp 56) rfl w0.heap.size A3 k c3 vs rfl HR2.out (some ⟨wo.heap.size, 0, none⟩) 1 1 [.slice (some ⟨b, o + (a + 5), none⟩) v (c - (a + 5))] rfl HN2.out (fun u hu => by rw [List.mem_singleton.1 hu]; rfl) (by omega) (by rw [World.size_alloc]; omega) ?_; intro A4 c4 w4 hr4 ha4)
        have hz3 : w0.heap.size ≤ (wo.alloc (.cells #[.slice (some ⟨b, o + (a + 5), none⟩) v (c - (a + 5))] 22)).heap.size := by rw [World.size_alloc]; omega
        have hB4 : Below w0.heap.size w0 w4 := (HB.out.alloc hz0 (.cells #[.slice (some ⟨b, o + (a + 5), none⟩) v (c - (a + 5))] 22)).trans (ha4.below HR2.out hz3)
        go_roundw
        case rel => exact ⟨k + 1, A4, c4, _, _, a + 5 + v, by omega, rfl, by go_num, by go_num, by omega, HPN.out, hr4, HSN.out, hB4⟩
        case measure => simp [intOf]; omega

    · subst hk5
      have hrow := HROW.out
      obtain ⟨g, rfl, hg0, hg1⟩ := hrow.five
      have hpt := HPT.out
      have hsls := HSLS.out
      obtain ⟨p0, p1, p2, p3, p4, rfl⟩ := five (O.parts_len 5 ds _ hpt).1
      obtain ⟨v0, v1, v2, v3, v4, rfl⟩ := five hsls.len
      obtain ⟨hs0, hs1, hs2, hs3, hs4, _⟩ := hsls
      obtain ⟨D0, c0, rfl, hd0, _⟩ := hs0
      obtain ⟨D1, c1', rfl, hd1, _⟩ := hs1
      obtain ⟨D2, c2, rfl, hd2, hc2, _⟩ := hs2
      obtain ⟨D3, c3', rfl, hd3, hc3, _⟩ := hs3
      obtain ⟨D4, c4, rfl, hd4, hc4, _⟩ := hs4
      have hl2 : p2.length ≤ 1073741824 ∧ p3.length ≤ 1073741824 := by
        have h2 := O.parts_sum 5 _ _ hpt
        simp only [List.map_cons, List.map_nil, List.sum_cons, List.sum_nil, List.length_drop] at h2
        omega
      have HC0 := Lib.hid (fun (u : World) (hu : Below w0.heap.size w0 u) => conv_bs (hd0.below hu) c0)
      have HC1 := Lib.hid (fun (u : World) (hu : Below w0.heap.size w0 u) => conv_bs (hd1.below hu) c1')
      have HRS := Lib.hid (fun (u : World) (hu : Below w0.heap.size w0 u) => refHResponse_any D2 p2.length c2 p2 u hl2.1 hc2 (hd2.below hu))
      have HCL := Lib.hid (fun (u : World) (hu : Below w0.heap.size w0 u) => copyBytesR_any D3 c3' p3 u (by omega) (hd3.below hu))
      have HD4 := Lib.hid hd4
      have HDR := Lib.hid (fun h => O.dec_resp hpt h)
      have HDT := Lib.hid (fun h => O.dec_times hpt h)
      have HDH := Lib.hid (fun h => O.dec_high hpt h)
      have HDE := Lib.hid (fun h => O.dec_at hpt h)
      obtain ⟨y0, y1, y2, y3, y4⟩ := hrow.five5
      clear hrow hpt hd0 hd1 hd2 hd3 hd4 HSLS HPT HS0 HX0
      have hfb : F.bulk (P.response p2).fs ≤ 1073741824 := by have := (P.response_bulk p2).1; omega
      have hrz : (P.response p2).r.size ≤ 1073741824 := by have := (P.response_bulk p2).2; omega
      go_wp2_with fail
      refine (HRS.out _ HB.out).mono ?_
      rintro e w2 ⟨A1, c1, rfl, hr1, hb2⟩
      obtain ⟨RS, hRS⟩ : ∃ RS, P.response p2 = RS := ⟨_, rfl⟩
      rw [hRS] at hr1 HDE hfb hrz HDR ⊢
      clear hRS
      obtain ⟨s, r, mi, fs, N, E⟩ := RS
      replace hr1 : Row w2 wo.heap.size 94 2 A1 fs.length c1 (fcells fs) := hr1
      replace hfb : F.bulk fs ≤ 1073741824 := hfb
      replace hrz : r.size ≤ 1073741824 := hrz
      replace HDR : Hid ((E = 0 → N = (p2.length : Int) → p2.length = 0) → O.dec l = none) := HDR
      replace HDE : Hid (p4.length = 16 → ((objE (B p0) (B p1) s r mi fs p3.length (wrap64 (O.val (p4.take 8) : Nat)) (wrap64 (O.val (p4.drop 8) : Nat)) = 0 ∧ objB (B p0) (B p1) s r mi fs p3 (wrap64 (O.val (p4.take 8) : Nat)) (wrap64 (O.val (p4.drop 8) : Nat)) = l ∧ O.dec l = some ⟨B p0, B p1, s, r, mi, fs, p3, wrap64 (O.val (p4.take 8) : Nat), wrap64 (O.val (p4.drop 8) : Nat)⟩) ∨ (¬ (objE (B p0) (B p1) s r mi fs p3.length (wrap64 (O.val (p4.take 8) : Nat)) (wrap64 (O.val (p4.drop 8) : Nat)) = 0 ∧ objB (B p0) (B p1) s r mi fs p3 (wrap64 (O.val (p4.take 8) : Nat)) (wrap64 (O.val (p4.drop 8) : Nat)) = l) ∧ O.dec l = none))) := HDE
      have q2 : Below w2.heap.size w2 (w2.alloc (.cells #[.int .i64 s, .string r, .int .i64 mi, .slice A1 fs.length c1] 27)) := (Below.refl _ _).alloc (Nat.le_refl _) _
      have HB2 := Lib.hid (below_then (below_then HB.out.size HB.out hb2).size (below_then HB.out.size HB.out hb2) q2)
      have HK2 := Lib.hid ((HKO.out.below hb2).below q2)
      have HL2 := Lib.hid (below_then (below_then HLO.out.size HLO.out hb2).size (below_then HLO.out.size HLO.out hb2) q2)
      have HO2 := Lib.hid (Blk.new w2 #[.int .i64 s, .string r, .int .i64 mi, .slice A1 fs.length c1] 27)
      have HR2 := Lib.hid ((hr1.mono HB.out.size).below q2)
      have HW2 := Lib.hid ((HROW.out.below hb2).below q2)
      have hb5 : w0.heap.size ≤ w2.heap.size := by have := HB.out.size; have := hb2.size; omega
      clear HB HKO HLO HROW hb2 hr1 q2 HRS y0 y1 y2 y3 y4
      go_upto_region 17 with fail
      generalize w2.alloc (.cells #[.int .i64 s, .string r, .int .i64 mi, .slice A1 fs.length c1] 27) = w3 at *
      generalize w2.heap.size = b5 at *
      obtain ⟨y0, y1, y2, y3, y4⟩ := HW2.out.five5
      by_cases hE : E = 0
      rotate_left
      · have HF := Lib.hid (HDR.out fun h => absurd h hE)
        have hEb : (E != 0) = true := by rw [bne_iff_ne]; exact hE
        clear HDE HDR HDT HDH HC0 HC1 HCL HXW HW2 HR2 HO2 HD4
        obtain ⟨a0, a1, a2, a3, a4, a5, a6, a7, a8⟩ := HK2.out.cells9
        obtain ⟨g0, g1, g2, g3, g4, g5, g6, g7, g8⟩ := HK2.out.free9
        go_wp2
        obtain ⟨z0, z1, z2, z3, z4, z5, z6, z7, z8⟩ := (HK2.out.set9 (.string ⟨#[]⟩) (.string ⟨#[]⟩) (.int .i64 0) (.string ⟨#[]⟩) (.int .i64 0) (.slice none 0 0) (.slice none 0 0) (.int .i64 0) (.int .i64 0)).cells9
        unfold nine at z0 z1 z2 z3 z4 z5 z6 z7 z8
        refine bodyPost_ret (v := .tuple #[.agg #[.string ⟨#[]⟩, .string ⟨#[]⟩, .int .i64 0, .string ⟨#[]⟩, .int .i64 0, .slice none 0 0, .slice none 0 0, .int .i64 0, .int .i64 0], .int .i64 120]) (by simp [results, Tryz.results17, go_sem, z0, z1, z2, z3, z4, z5, z6, z7, z8]) rfl ?_
        exact .inr ⟨HF.out, rfl, below_nine HL2.out (Nat.le_refl _) _ _ _ _ _ _ _ _ _⟩
      subst hE
      by_cases hN : N = 0
      · have HF := Lib.hid (HDR.out fun _ h => by rw [hN] at h; omega)
        subst hN
        clear HDE HDR HDT HDH HC0 HC1 HCL HXW HW2 HR2 HO2 HD4
        obtain ⟨a0, a1, a2, a3, a4, a5, a6, a7, a8⟩ := HK2.out.cells9
        obtain ⟨g0, g1, g2, g3, g4, g5, g6, g7, g8⟩ := HK2.out.free9
        go_wp2
        obtain ⟨z0, z1, z2, z3, z4, z5, z6, z7, z8⟩ := (HK2.out.set9 (.string ⟨#[]⟩) (.string ⟨#[]⟩) (.int .i64 0) (.string ⟨#[]⟩) (.int .i64 0) (.slice none 0 0) (.slice none 0 0) (.int .i64 0) (.int .i64 0)).cells9
        unfold nine at z0 z1 z2 z3 z4 z5 z6 z7 z8
        refine bodyPost_ret (v := .tuple #[.agg #[.string ⟨#[]⟩, .string ⟨#[]⟩, .int .i64 0, .string ⟨#[]⟩, .int .i64 0, .slice none 0 0, .slice none 0 0, .int .i64 0, .int .i64 0], .int .i64 120]) (by simp [results, Tryz.results17, go_sem, z0, z1, z2, z3, z4, z5, z6, z7, z8]) rfl ?_
        exact .inr ⟨HF.out, rfl, below_nine HL2.out (Nat.le_refl _) _ _ _ _ _ _ _ _ _⟩
      have hNb : (N == 0) = false := beq_eq_false_iff_ne.2 hN
      by_cases h16 : p4.length = 16
      rotate_left
      · have HF := Lib.hid (HDT.out h16)
        have h16b : ((p4.length : Int) != 16) = true := by rw [bne_iff_ne]; omega
        clear HDE HDR HDT HDH HC0 HC1 HCL HXW HW2 HR2 HO2 HD4 h16
        obtain ⟨a0, a1, a2, a3, a4, a5, a6, a7, a8⟩ := HK2.out.cells9
        obtain ⟨g0, g1, g2, g3, g4, g5, g6, g7, g8⟩ := HK2.out.free9
        go_wp2
        obtain ⟨z0, z1, z2, z3, z4, z5, z6, z7, z8⟩ := (HK2.out.set9 (.string ⟨#[]⟩) (.string ⟨#[]⟩) (.int .i64 0) (.string ⟨#[]⟩) (.int .i64 0) (.slice none 0 0) (.slice none 0 0) (.int .i64 0) (.int .i64 0)).cells9
        unfold nine at z0 z1 z2 z3 z4 z5 z6 z7 z8
        refine bodyPost_ret (v := .tuple #[.agg #[.string ⟨#[]⟩, .string ⟨#[]⟩, .int .i64 0, .string ⟨#[]⟩, .int .i64 0, .slice none 0 0, .slice none 0 0, .int .i64 0, .int .i64 0], .int .i64 120]) (by simp [results, Tryz.results17, go_sem, z0, z1, z2, z3, z4, z5, z6, z7, z8]) rfl ?_
        exact .inr ⟨HF.out, rfl, below_nine HL2.out (Nat.le_refl _) _ _ _ _ _ _ _ _ _⟩
      have h16b : ((p4.length : Int) != 16) = false := by rw [bne_eq_false_iff_eq]; omega
      obtain ⟨b4, o4, rfl, _, hq4⟩ := HD4.out.2 (by omega)
      have e0 := hq4 0 (.int .u8 (p4[0]'(by omega)).toNat) (by simp [bcells, h16])
      have e8 := hq4 8 (.int .u8 (p4[8]'(by omega)).toNat) (by simp [bcells, h16])
      have e0' := (HB2.out.cell (p := ⟨b4, o4 + 0, none⟩) (by assumption)).trans e0
      have e8' := (HB2.out.cell (p := ⟨b4, o4 + 8, none⟩) (by assumption)).trans e8
      rw [Nat.add_zero] at e0'
      have HVA := Lib.hid (O.val_high (p4.take 8) (by rw [List.length_take]; omega))
      have HVB := Lib.hid (O.val_high (p4.drop 8) (by rw [List.length_drop]; omega))
      rw [show (p4.take 8).getD 0 0 = p4[0]'(by omega) from by rw [List.getD_eq_getElem?_getD, List.getElem?_take_of_lt (by decide), List.getElem?_eq_getElem (by omega)]; rfl] at HVA
      rw [show (p4.drop 8).getD 0 0 = p4[8]'(by omega) from by rw [List.getD_eq_getElem?_getD, List.getElem?_drop, List.getElem?_eq_getElem (by omega)]; rfl] at HVB
      have h0i : (0 : Int) < (p4.length : Int) := by omega
      have h8i : (8 : Int) < (p4.length : Int) := by omega
      have HDE2 := Lib.hid (HDE.out h16)
      have hdA : Rd w0 (some ⟨b4, o4, none⟩) 8 1 (bcells (p4.take 8)) := HD4.out.upto (by omega)
      have hdB : Rd w0 (some ⟨b4, o4 + 8, none⟩) (p4.length - 8) 1 (bcells (p4.drop 8)) := HD4.out.from_ (show 8 ≤ p4.length by omega)
      have hlA : (p4.take 8).length = 8 := by rw [List.length_take]; omega
      have hlB : (p4.drop 8).length = p4.length - 8 := List.length_drop
      have HGA := Lib.hid (fun (u : World) (hu : Below w0.heap.size w0 u) (hlt : O.val (p4.take 8) < 9223372036854775808) => show Calls Tryz.prog 56 #[.slice (some ⟨b4, o4, none⟩) 8 c4] u (RetP u (.int .i64 (O.val (p4.take 8) : Nat))) from by
        have := refBeVal_any (some ⟨b4, o4, none⟩) c4 (p4.take 8) u (by omega) hlt (by rw [hlA]; exact hdA.below hu)
        rwa [hlA] at this)
      have HGB := Lib.hid (fun (u : World) (hu : Below w0.heap.size w0 u) (hlt : O.val (p4.drop 8) < 9223372036854775808) => show Calls Tryz.prog 56 #[.slice (some ⟨b4, o4 + 8, none⟩) (p4.length - 8) (c4 - 8)] u (RetP u (.int .i64 (O.val (p4.drop 8) : Nat))) from by
        have := refBeVal_any (some ⟨b4, o4 + 8, none⟩) (c4 - 8) (p4.drop 8) u (by omega) hlt (by rw [hlB]; exact hdB.below hu)
        rwa [hlB] at this)
      have hc4a : (8 : Int) ≤ (c4 : Int) := by omega
      have hc4b : (8 : Int) < (c4 : Int) := by omega
      have h48 : (8 : Int) ≤ (p4.length : Int) := by omega
      have hc48 : ¬ c4 = 8 := by omega
      generalize (p4[0]'(by omega)) = x0 at *
      generalize (p4[8]'(by omega)) = x8 at *
      generalize O.val (p4.take 8) = xa at *
      generalize O.val (p4.drop 8) = xg at *
      have H16 := Lib.hid h16
      clear h16 hq4 e0 e8 hdA hdB hlA hlB HDE HD4 HDT HDR hl2
      by_cases hx0 : x0.toNat ≤ 127
      rotate_left
      · have HF := Lib.hid (HDH.out fun h => hx0 (HVA.out.1 h.1))
        have hx0i : (127 : Int) < (x0.toNat : Int) := by omega
        clear HDE2 HDH HC0 HC1 HCL HXW HW2 HR2 HO2 HGA HGB
        obtain ⟨a0, a1, a2, a3, a4, a5, a6, a7, a8⟩ := HK2.out.cells9
        obtain ⟨g0, g1, g2, g3, g4, g5, g6, g7, g8⟩ := HK2.out.free9
        go_wp2
        obtain ⟨z0, z1, z2, z3, z4, z5, z6, z7, z8⟩ := (HK2.out.set9 (.string ⟨#[]⟩) (.string ⟨#[]⟩) (.int .i64 0) (.string ⟨#[]⟩) (.int .i64 0) (.slice none 0 0) (.slice none 0 0) (.int .i64 0) (.int .i64 0)).cells9
        unfold nine at z0 z1 z2 z3 z4 z5 z6 z7 z8
        refine bodyPost_ret (v := .tuple #[.agg #[.string ⟨#[]⟩, .string ⟨#[]⟩, .int .i64 0, .string ⟨#[]⟩, .int .i64 0, .slice none 0 0, .slice none 0 0, .int .i64 0, .int .i64 0], .int .i64 120]) (by simp [results, Tryz.results17, go_sem, z0, z1, z2, z3, z4, z5, z6, z7, z8]) rfl ?_
        exact .inr ⟨HF.out, rfl, below_nine HL2.out (Nat.le_refl _) _ _ _ _ _ _ _ _ _⟩
      have hx0i : ¬ (127 : Int) < (x0.toNat : Int) := by omega
      by_cases hx8 : x8.toNat ≤ 127
      rotate_left
      · have HF := Lib.hid (HDH.out fun h => hx8 (HVB.out.1 h.2))
        have hx8i : (127 : Int) < (x8.toNat : Int) := by omega
        clear HDE2 HDH HC0 HC1 HCL HXW HW2 HR2 HO2 HGA HGB
        obtain ⟨a0, a1, a2, a3, a4, a5, a6, a7, a8⟩ := HK2.out.cells9
        obtain ⟨g0, g1, g2, g3, g4, g5, g6, g7, g8⟩ := HK2.out.free9
        go_wp2
        obtain ⟨z0, z1, z2, z3, z4, z5, z6, z7, z8⟩ := (HK2.out.set9 (.string ⟨#[]⟩) (.string ⟨#[]⟩) (.int .i64 0) (.string ⟨#[]⟩) (.int .i64 0) (.slice none 0 0) (.slice none 0 0) (.int .i64 0) (.int .i64 0)).cells9
        unfold nine at z0 z1 z2 z3 z4 z5 z6 z7 z8
        refine bodyPost_ret (v := .tuple #[.agg #[.string ⟨#[]⟩, .string ⟨#[]⟩, .int .i64 0, .string ⟨#[]⟩, .int .i64 0, .slice none 0 0, .slice none 0 0, .int .i64 0, .int .i64 0], .int .i64 120]) (by simp [results, Tryz.results17, go_sem, z0, z1, z2, z3, z4, z5, z6, z7, z8]) rfl ?_
        exact .inr ⟨HF.out, rfl, below_nine HL2.out (Nat.le_refl _) _ _ _ _ _ _ _ _ _⟩
      have hx8i : ¬ (127 : Int) < (x8.toNat : Int) := by omega
      have hva := HVA.out.2 hx0
      have hvb := HVB.out.2 hx8
      rw [IntWalk.wrap64_in (xa : Int) (by omega), IntWalk.wrap64_in (xg : Int) (by omega)] at HDE2
      have HGA2 := Lib.hid (fun (u : World) (hu : Below w0.heap.size w0 u) => HGA.out u hu hva)
      have HGB2 := Lib.hid (fun (u : World) (hu : Below w0.heap.size w0 u) => HGB.out u hu hvb)
      have HEN := Lib.hid (fun (A1 : Option Addr) (c1 : Nat) (X : Option Addr) (d : Nat) (u : World) (hf : Rd u A1 fs.length 2 (fcells fs)) (hX : Rd u X p3.length 1 (bcells p3)) => refObjEncode_any (B p0) (B p1) s r mi A1 c1 fs X d p3 xa xg u hrz hfb hf hX)
      have hxa : (xa : Int) < 9223372036854775808 := by omega
      generalize (xa : Int) = ia at *
      generalize (xg : Int) = ig at *
      generalize objE (B p0) (B p1) s r mi fs p3.length ia ig = OE at *
      obtain ⟨OB, hOB⟩ : ∃ OB, objB (B p0) (B p1) s r mi fs p3 ia ig = OB := ⟨_, rfl⟩
      have HOB := Lib.hid hOB.symm
      rw [hOB] at HDE2 HEN
      clear hOB
      clear HGA HGB HVA HVB hva hvb hxa HDH hfb hrz
      go_upto_region 19 with fail
      have hS0 : DecS w w0 g c3 [.slice D0 p0.length c0, .slice D1 p1.length c1', .slice D2 p2.length c2, .slice D3 p3.length c3', .slice (some ⟨b4, o4, none⟩) p4.length c4] b5 #[.int .i64 s, .string r, .int .i64 mi, .slice A1 fs.length c1] A1 c1 fs w3.drew := (show DecS w w0 g c3 [.slice D0 p0.length c0, .slice D1 p1.length c1', .slice D2 p2.length c2, .slice D3 p3.length c3', .slice (some ⟨b4, o4, none⟩) p4.length c4] b5 #[.int .i64 s, .string r, .int .i64 mi, .slice A1 fs.length c1] A1 c1 fs w3 from ⟨HK2.out, HB2.out, HW2.out, HO2.out, HR2.out, HL2.out⟩).below (Below.refl _ _).drew
      clear HK2 HB2 HW2 HO2 HR2 HL2 y0 y1 y2 y3 y4 e0' e8' hNb h16b h0i h8i hx0i hx8i
      refine wp_region_noPanic ?_
      refine HT.begin (n := 25) (S := (DecS w w0 g c3 [.slice D0 p0.length c0, .slice D1 p1.length c1', .slice D2 p2.length c2, .slice D3 p3.length c3', .slice (some ⟨b4, o4, none⟩) p4.length c4] b5 #[.int .i64 s, .string r, .int .i64 mi, .slice A1 fs.length c1] A1 c1 fs)) (by kernel_rfl) hS0 ?_
      refine HT.take 0 (.slice (some ⟨g, 0, none⟩) 5 c3) rfl (by kernel_rfl) (fun _ _ _ h => h) (Or.inl ⟨by rfl, ?_⟩) (?_ : HT _ _ _ _ _ _ _ ⟨#[_, _, _, _, _, _, _, _, _, _, _, _, _, _, _, _, _, _, _, _, _, _, _, _, _, _, _, _, _, _, _, _, _, _, _, _, _, _, _, _, _, _, _, _, _, _, _, _, _, _, _, _, _, _, _, _, _, _, _, _, _, _, _, _, _, _, _, _, _, _, _, _, _, _, _, _, _, _, _, _, _, _, _, _, _, _, _, _, _, _, _, _, _, _, _, _, _, _, _, .slice (some ⟨g, 0, none⟩) 5 c3, _, _, _, _, _, _, _, _, _, _, _, _, _, _, _, _, _, _, _, _, _, _, _, _, _, _, _, _, _, _, _, _, _, _, _, _, _, _], []⟩ _)
      · intro u hu
        go_simp
      refine HT.take 1 (.pointer (some ⟨g, 0, none⟩)) rfl (by kernel_rfl) (fun _ _ _ h => h) (Or.inl ⟨by rfl, ?_⟩) (?_ : HT _ _ _ _ _ _ _ ⟨#[_, _, _, _, _, _, _, _, _, _, _, _, _, _, _, _, _, _, _, _, _, _, _, _, _, _, _, _, _, _, _, _, _, _, _, _, _, _, _, _, _, _, _, _, _, _, _, _, _, _, _, _, _, _, _, _, _, _, _, _, _, _, _, _, _, _, _, _, _, _, _, _, _, _, _, _, _, _, _, _, _, _, _, _, _, _, _, _, _, _, _, _, _, _, _, _, _, _, _, .slice (some ⟨g, 0, none⟩) 5 c3, .pointer (some ⟨g, 0, none⟩), _, _, _, _, _, _, _, _, _, _, _, _, _, _, _, _, _, _, _, _, _, _, _, _, _, _, _, _, _, _, _, _, _, _, _, _, _], []⟩ _)
      · intro u hu
        go_simp
      refine HT.take 2 (.slice D0 p0.length c0) rfl (by kernel_rfl) (fun _ _ _ h => h) (Or.inl ⟨by rfl, ?_⟩) (?_ : HT _ _ _ _ _ _ _ ⟨#[_, _, _, _, _, _, _, _, _, _, _, _, _, _, _, _, _, _, _, _, _, _, _, _, _, _, _, _, _, _, _, _, _, _, _, _, _, _, _, _, _, _, _, _, _, _, _, _, _, _, _, _, _, _, _, _, _, _, _, _, _, _, _, _, _, _, _, _, _, _, _, _, _, _, _, _, _, _, _, _, _, _, _, _, _, _, _, _, _, _, _, _, _, _, _, _, _, _, _, .slice (some ⟨g, 0, none⟩) 5 c3, .pointer (some ⟨g, 0, none⟩), .slice D0 p0.length c0, _, _, _, _, _, _, _, _, _, _, _, _, _, _, _, _, _, _, _, _, _, _, _, _, _, _, _, _, _, _, _, _, _, _, _, _], []⟩ _)
      · intro u hu
        obtain ⟨y0, y1, y2, y3, y4⟩ := hu.2.2.1.five5
        go_simp
      refine HT.take 3 (.string (B p0)) rfl (by kernel_rfl) (fun _ _ _ h => h) (Or.inl ⟨by rfl, ?_⟩) (?_ : HT _ _ _ _ _ _ _ ⟨#[_, _, _, _, _, _, _, _, _, _, _, _, _, _, _, _, _, _, _, _, _, _, _, _, _, _, _, _, _, _, _, _, _, _, _, _, _, _, _, _, _, _, _, _, _, _, _, _, _, _, _, _, _, _, _, _, _, _, _, _, _, _, _, _, _, _, _, _, _, _, _, _, _, _, _, _, _, _, _, _, _, _, _, _, _, _, _, _, _, _, _, _, _, _, _, _, _, _, _, .slice (some ⟨g, 0, none⟩) 5 c3, .pointer (some ⟨g, 0, none⟩), .slice D0 p0.length c0, .string (B p0), _, _, _, _, _, _, _, _, _, _, _, _, _, _, _, _, _, _, _, _, _, _, _, _, _, _, _, _, _, _, _, _, _, _, _], []⟩ _)
      · intro u hu
        have hcv := HC0.out u hu.2.1
        go_simp
      refine HT.take 4 (.slice (some ⟨g, 0, none⟩) 5 c3) rfl (by kernel_rfl) (fun _ _ _ h => h) (Or.inl ⟨by rfl, ?_⟩) (?_ : HT _ _ _ _ _ _ _ ⟨#[_, _, _, _, _, _, _, _, _, _, _, _, _, _, _, _, _, _, _, _, _, _, _, _, _, _, _, _, _, _, _, _, _, _, _, _, _, _, _, _, _, _, _, _, _, _, _, _, _, _, _, _, _, _, _, _, _, _, _, _, _, _, _, _, _, _, _, _, _, _, _, _, _, _, _, _, _, _, _, _, _, _, _, _, _, _, _, _, _, _, _, _, _, _, _, _, _, _, _, .slice (some ⟨g, 0, none⟩) 5 c3, .pointer (some ⟨g, 0, none⟩), .slice D0 p0.length c0, .string (B p0), .slice (some ⟨g, 0, none⟩) 5 c3, _, _, _, _, _, _, _, _, _, _, _, _, _, _, _, _, _, _, _, _, _, _, _, _, _, _, _, _, _, _, _, _, _, _], []⟩ _)
      · intro u hu
        go_simp
      refine HT.take 5 (.pointer (some ⟨g, 1, none⟩)) rfl (by kernel_rfl) (fun _ _ _ h => h) (Or.inl ⟨by rfl, ?_⟩) (?_ : HT _ _ _ _ _ _ _ ⟨#[_, _, _, _, _, _, _, _, _, _, _, _, _, _, _, _, _, _, _, _, _, _, _, _, _, _, _, _, _, _, _, _, _, _, _, _, _, _, _, _, _, _, _, _, _, _, _, _, _, _, _, _, _, _, _, _, _, _, _, _, _, _, _, _, _, _, _, _, _, _, _, _, _, _, _, _, _, _, _, _, _, _, _, _, _, _, _, _, _, _, _, _, _, _, _, _, _, _, _, .slice (some ⟨g, 0, none⟩) 5 c3, .pointer (some ⟨g, 0, none⟩), .slice D0 p0.length c0, .string (B p0), .slice (some ⟨g, 0, none⟩) 5 c3, .pointer (some ⟨g, 1, none⟩), _, _, _, _, _, _, _, _, _, _, _, _, _, _, _, _, _, _, _, _, _, _, _, _, _, _, _, _, _, _, _, _, _], []⟩ _)
      · intro u hu
        go_simp
      refine HT.take 6 (.slice D1 p1.length c1') rfl (by kernel_rfl) (fun _ _ _ h => h) (Or.inl ⟨by rfl, ?_⟩) (?_ : HT _ _ _ _ _ _ _ ⟨#[_, _, _, _, _, _, _, _, _, _, _, _, _, _, _, _, _, _, _, _, _, _, _, _, _, _, _, _, _, _, _, _, _, _, _, _, _, _, _, _, _, _, _, _, _, _, _, _, _, _, _, _, _, _, _, _, _, _, _, _, _, _, _, _, _, _, _, _, _, _, _, _, _, _, _, _, _, _, _, _, _, _, _, _, _, _, _, _, _, _, _, _, _, _, _, _, _, _, _, .slice (some ⟨g, 0, none⟩) 5 c3, .pointer (some ⟨g, 0, none⟩), .slice D0 p0.length c0, .string (B p0), .slice (some ⟨g, 0, none⟩) 5 c3, .pointer (some ⟨g, 1, none⟩), .slice D1 p1.length c1', _, _, _, _, _, _, _, _, _, _, _, _, _, _, _, _, _, _, _, _, _, _, _, _, _, _, _, _, _, _, _, _], []⟩ _)
      · intro u hu
        obtain ⟨y0, y1, y2, y3, y4⟩ := hu.2.2.1.five5
        go_simp
      refine HT.take 7 (.string (B p1)) rfl (by kernel_rfl) (fun _ _ _ h => h) (Or.inl ⟨by rfl, ?_⟩) (?_ : HT _ _ _ _ _ _ _ ⟨#[_, _, _, _, _, _, _, _, _, _, _, _, _, _, _, _, _, _, _, _, _, _, _, _, _, _, _, _, _, _, _, _, _, _, _, _, _, _, _, _, _, _, _, _, _, _, _, _, _, _, _, _, _, _, _, _, _, _, _, _, _, _, _, _, _, _, _, _, _, _, _, _, _, _, _, _, _, _, _, _, _, _, _, _, _, _, _, _, _, _, _, _, _, _, _, _, _, _, _, .slice (some ⟨g, 0, none⟩) 5 c3, .pointer (some ⟨g, 0, none⟩), .slice D0 p0.length c0, .string (B p0), .slice (some ⟨g, 0, none⟩) 5 c3, .pointer (some ⟨g, 1, none⟩), .slice D1 p1.length c1', .string (B p1), _, _, _, _, _, _, _, _, _, _, _, _, _, _, _, _, _, _, _, _, _, _, _, _, _, _, _, _, _, _, _], []⟩ _)
      · intro u hu
        have hcv := HC1.out u hu.2.1
        go_simp
      refine HT.take 8 (.agg #[.int .i64 s, .string r, .int .i64 mi, .slice A1 fs.length c1]) rfl (by kernel_rfl) (fun _ _ _ h => h) (Or.inl ⟨by rfl, ?_⟩) (?_ : HT _ _ _ _ _ _ _ ⟨#[_, _, _, _, _, _, _, _, _, _, _, _, _, _, _, _, _, _, _, _, _, _, _, _, _, _, _, _, _, _, _, _, _, _, _, _, _, _, _, _, _, _, _, _, _, _, _, _, _, _, _, _, _, _, _, _, _, _, _, _, _, _, _, _, _, _, _, _, _, _, _, _, _, _, _, _, _, _, _, _, _, _, _, _, _, _, _, _, _, _, _, _, _, _, _, _, _, _, _, .slice (some ⟨g, 0, none⟩) 5 c3, .pointer (some ⟨g, 0, none⟩), .slice D0 p0.length c0, .string (B p0), .slice (some ⟨g, 0, none⟩) 5 c3, .pointer (some ⟨g, 1, none⟩), .slice D1 p1.length c1', .string (B p1), .agg #[.int .i64 s, .string r, .int .i64 mi, .slice A1 fs.length c1], _, _, _, _, _, _, _, _, _, _, _, _, _, _, _, _, _, _, _, _, _, _, _, _, _, _, _, _, _, _], []⟩ _)
      · intro u hu
        obtain ⟨q0, q1, q2, q3⟩ := hu.2.2.2.1.cells4
        go_simp
      refine HT.take 9 (.slice (some ⟨g, 0, none⟩) 5 c3) rfl (by kernel_rfl) (fun _ _ _ h => h) (Or.inl ⟨by rfl, ?_⟩) (?_ : HT _ _ _ _ _ _ _ ⟨#[_, _, _, _, _, _, _, _, _, _, _, _, _, _, _, _, _, _, _, _, _, _, _, _, _, _, _, _, _, _, _, _, _, _, _, _, _, _, _, _, _, _, _, _, _, _, _, _, _, _, _, _, _, _, _, _, _, _, _, _, _, _, _, _, _, _, _, _, _, _, _, _, _, _, _, _, _, _, _, _, _, _, _, _, _, _, _, _, _, _, _, _, _, _, _, _, _, _, _, .slice (some ⟨g, 0, none⟩) 5 c3, .pointer (some ⟨g, 0, none⟩), .slice D0 p0.length c0, .string (B p0), .slice (some ⟨g, 0, none⟩) 5 c3, .pointer (some ⟨g, 1, none⟩), .slice D1 p1.length c1', .string (B p1), .agg #[.int .i64 s, .string r, .int .i64 mi, .slice A1 fs.length c1], .slice (some ⟨g, 0, none⟩) 5 c3, _, _, _, _, _, _, _, _, _, _, _, _, _, _, _, _, _, _, _, _, _, _, _, _, _, _, _, _, _], []⟩ _)
      · intro u hu
        go_simp
      refine HT.take 10 (.pointer (some ⟨g, 3, none⟩)) rfl (by kernel_rfl) (fun _ _ _ h => h) (Or.inl ⟨by rfl, ?_⟩) (?_ : HT _ _ _ _ _ _ _ ⟨#[_, _, _, _, _, _, _, _, _, _, _, _, _, _, _, _, _, _, _, _, _, _, _, _, _, _, _, _, _, _, _, _, _, _, _, _, _, _, _, _, _, _, _, _, _, _, _, _, _, _, _, _, _, _, _, _, _, _, _, _, _, _, _, _, _, _, _, _, _, _, _, _, _, _, _, _, _, _, _, _, _, _, _, _, _, _, _, _, _, _, _, _, _, _, _, _, _, _, _, .slice (some ⟨g, 0, none⟩) 5 c3, .pointer (some ⟨g, 0, none⟩), .slice D0 p0.length c0, .string (B p0), .slice (some ⟨g, 0, none⟩) 5 c3, .pointer (some ⟨g, 1, none⟩), .slice D1 p1.length c1', .string (B p1), .agg #[.int .i64 s, .string r, .int .i64 mi, .slice A1 fs.length c1], .slice (some ⟨g, 0, none⟩) 5 c3, .pointer (some ⟨g, 3, none⟩), _, _, _, _, _, _, _, _, _, _, _, _, _, _, _, _, _, _, _, _, _, _, _, _, _, _, _, _], []⟩ _)
      · intro u hu
        go_simp
      refine HT.take 11 (.slice D3 p3.length c3') rfl (by kernel_rfl) (fun _ _ _ h => h) (Or.inl ⟨by rfl, ?_⟩) (?_ : HT _ _ _ _ _ _ _ ⟨#[_, _, _, _, _, _, _, _, _, _, _, _, _, _, _, _, _, _, _, _, _, _, _, _, _, _, _, _, _, _, _, _, _, _, _, _, _, _, _, _, _, _, _, _, _, _, _, _, _, _, _, _, _, _, _, _, _, _, _, _, _, _, _, _, _, _, _, _, _, _, _, _, _, _, _, _, _, _, _, _, _, _, _, _, _, _, _, _, _, _, _, _, _, _, _, _, _, _, _, .slice (some ⟨g, 0, none⟩) 5 c3, .pointer (some ⟨g, 0, none⟩), .slice D0 p0.length c0, .string (B p0), .slice (some ⟨g, 0, none⟩) 5 c3, .pointer (some ⟨g, 1, none⟩), .slice D1 p1.length c1', .string (B p1), .agg #[.int .i64 s, .string r, .int .i64 mi, .slice A1 fs.length c1], .slice (some ⟨g, 0, none⟩) 5 c3, .pointer (some ⟨g, 3, none⟩), .slice D3 p3.length c3', _, _, _, _, _, _, _, _, _, _, _, _, _, _, _, _, _, _, _, _, _, _, _, _, _, _, _], []⟩ _)
      · intro u hu
        obtain ⟨y0, y1, y2, y3, y4⟩ := hu.2.2.1.five5
        go_simp
      refine HT.take 13 (.slice (some ⟨g, 0, none⟩) 5 c3) rfl (by kernel_rfl) (fun _ _ _ h => h) (Or.inl ⟨by rfl, ?_⟩) (?_ : HT _ _ _ _ _ _ _ ⟨#[_, _, _, _, _, _, _, _, _, _, _, _, _, _, _, _, _, _, _, _, _, _, _, _, _, _, _, _, _, _, _, _, _, _, _, _, _, _, _, _, _, _, _, _, _, _, _, _, _, _, _, _, _, _, _, _, _, _, _, _, _, _, _, _, _, _, _, _, _, _, _, _, _, _, _, _, _, _, _, _, _, _, _, _, _, _, _, _, _, _, _, _, _, _, _, _, _, _, _, .slice (some ⟨g, 0, none⟩) 5 c3, .pointer (some ⟨g, 0, none⟩), .slice D0 p0.length c0, .string (B p0), .slice (some ⟨g, 0, none⟩) 5 c3, .pointer (some ⟨g, 1, none⟩), .slice D1 p1.length c1', .string (B p1), .agg #[.int .i64 s, .string r, .int .i64 mi, .slice A1 fs.length c1], .slice (some ⟨g, 0, none⟩) 5 c3, .pointer (some ⟨g, 3, none⟩), .slice D3 p3.length c3', _, .slice (some ⟨g, 0, none⟩) 5 c3, _, _, _, _, _, _, _, _, _, _, _, _, _, _, _, _, _, _, _, _, _, _, _, _, _], []⟩ _)
      · intro u hu
        go_simp
      refine HT.take 14 (.pointer (some ⟨g, 4, none⟩)) rfl (by kernel_rfl) (fun _ _ _ h => h) (Or.inl ⟨by rfl, ?_⟩) (?_ : HT _ _ _ _ _ _ _ ⟨#[_, _, _, _, _, _, _, _, _, _, _, _, _, _, _, _, _, _, _, _, _, _, _, _, _, _, _, _, _, _, _, _, _, _, _, _, _, _, _, _, _, _, _, _, _, _, _, _, _, _, _, _, _, _, _, _, _, _, _, _, _, _, _, _, _, _, _, _, _, _, _, _, _, _, _, _, _, _, _, _, _, _, _, _, _, _, _, _, _, _, _, _, _, _, _, _, _, _, _, .slice (some ⟨g, 0, none⟩) 5 c3, .pointer (some ⟨g, 0, none⟩), .slice D0 p0.length c0, .string (B p0), .slice (some ⟨g, 0, none⟩) 5 c3, .pointer (some ⟨g, 1, none⟩), .slice D1 p1.length c1', .string (B p1), .agg #[.int .i64 s, .string r, .int .i64 mi, .slice A1 fs.length c1], .slice (some ⟨g, 0, none⟩) 5 c3, .pointer (some ⟨g, 3, none⟩), .slice D3 p3.length c3', _, .slice (some ⟨g, 0, none⟩) 5 c3, .pointer (some ⟨g, 4, none⟩), _, _, _, _, _, _, _, _, _, _, _, _, _, _, _, _, _, _, _, _, _, _, _, _], []⟩ _)
      · intro u hu
        go_simp
      refine HT.take 15 (.slice (some ⟨b4, o4, none⟩) p4.length c4) rfl (by kernel_rfl) (fun _ _ _ h => h) (Or.inl ⟨by rfl, ?_⟩) (?_ : HT _ _ _ _ _ _ _ ⟨#[_, _, _, _, _, _, _, _, _, _, _, _, _, _, _, _, _, _, _, _, _, _, _, _, _, _, _, _, _, _, _, _, _, _, _, _, _, _, _, _, _, _, _, _, _, _, _, _, _, _, _, _, _, _, _, _, _, _, _, _, _, _, _, _, _, _, _, _, _, _, _, _, _, _, _, _, _, _, _, _, _, _, _, _, _, _, _, _, _, _, _, _, _, _, _, _, _, _, _, .slice (some ⟨g, 0, none⟩) 5 c3, .pointer (some ⟨g, 0, none⟩), .slice D0 p0.length c0, .string (B p0), .slice (some ⟨g, 0, none⟩) 5 c3, .pointer (some ⟨g, 1, none⟩), .slice D1 p1.length c1', .string (B p1), .agg #[.int .i64 s, .string r, .int .i64 mi, .slice A1 fs.length c1], .slice (some ⟨g, 0, none⟩) 5 c3, .pointer (some ⟨g, 3, none⟩), .slice D3 p3.length c3', _, .slice (some ⟨g, 0, none⟩) 5 c3, .pointer (some ⟨g, 4, none⟩), .slice (some ⟨b4, o4, none⟩) p4.length c4, _, _, _, _, _, _, _, _, _, _, _, _, _, _, _, _, _, _, _, _, _, _, _], []⟩ _)
      · intro u hu
        obtain ⟨y0, y1, y2, y3, y4⟩ := hu.2.2.1.five5
        go_simp
      refine HT.take 16 (.slice (some ⟨b4, o4, none⟩) 8 c4) rfl (by kernel_rfl) (fun _ _ _ h => h) (Or.inl ⟨by rfl, ?_⟩) (?_ : HT _ _ _ _ _ _ _ ⟨#[_, _, _, _, _, _, _, _, _, _, _, _, _, _, _, _, _, _, _, _, _, _, _, _, _, _, _, _, _, _, _, _, _, _, _, _, _, _, _, _, _, _, _, _, _, _, _, _, _, _, _, _, _, _, _, _, _, _, _, _, _, _, _, _, _, _, _, _, _, _, _, _, _, _, _, _, _, _, _, _, _, _, _, _, _, _, _, _, _, _, _, _, _, _, _, _, _, _, _, .slice (some ⟨g, 0, none⟩) 5 c3, .pointer (some ⟨g, 0, none⟩), .slice D0 p0.length c0, .string (B p0), .slice (some ⟨g, 0, none⟩) 5 c3, .pointer (some ⟨g, 1, none⟩), .slice D1 p1.length c1', .string (B p1), .agg #[.int .i64 s, .string r, .int .i64 mi, .slice A1 fs.length c1], .slice (some ⟨g, 0, none⟩) 5 c3, .pointer (some ⟨g, 3, none⟩), .slice D3 p3.length c3', _, .slice (some ⟨g, 0, none⟩) 5 c3, .pointer (some ⟨g, 4, none⟩), .slice (some ⟨b4, o4, none⟩) p4.length c4, .slice (some ⟨b4, o4, none⟩) 8 c4, _, _, _, _, _, _, _, _, _, _, _, _, _, _, _, _, _, _, _, _, _, _], []⟩ _)
      · intro u hu
        go_simp
      refine HT.take 18 (.slice (some ⟨g, 0, none⟩) 5 c3) rfl (by kernel_rfl) (fun _ _ _ h => h) (Or.inl ⟨by rfl, ?_⟩) (?_ : HT _ _ _ _ _ _ _ ⟨#[_, _, _, _, _, _, _, _, _, _, _, _, _, _, _, _, _, _, _, _, _, _, _, _, _, _, _, _, _, _, _, _, _, _, _, _, _, _, _, _, _, _, _, _, _, _, _, _, _, _, _, _, _, _, _, _, _, _, _, _, _, _, _, _, _, _, _, _, _, _, _, _, _, _, _, _, _, _, _, _, _, _, _, _, _, _, _, _, _, _, _, _, _, _, _, _, _, _, _, .slice (some ⟨g, 0, none⟩) 5 c3, .pointer (some ⟨g, 0, none⟩), .slice D0 p0.length c0, .string (B p0), .slice (some ⟨g, 0, none⟩) 5 c3, .pointer (some ⟨g, 1, none⟩), .slice D1 p1.length c1', .string (B p1), .agg #[.int .i64 s, .string r, .int .i64 mi, .slice A1 fs.length c1], .slice (some ⟨g, 0, none⟩) 5 c3, .pointer (some ⟨g, 3, none⟩), .slice D3 p3.length c3', _, .slice (some ⟨g, 0, none⟩) 5 c3, .pointer (some ⟨g, 4, none⟩), .slice (some ⟨b4, o4, none⟩) p4.length c4, .slice (some ⟨b4, o4, none⟩) 8 c4, _, .slice (some ⟨g, 0, none⟩) 5 c3, _, _, _, _, _, _, _, _, _, _, _, _, _, _, _, _, _, _, _, _], []⟩ _)
      · intro u hu
        go_simp
      refine HT.take 19 (.pointer (some ⟨g, 4, none⟩)) rfl (by kernel_rfl) (fun _ _ _ h => h) (Or.inl ⟨by rfl, ?_⟩) (?_ : HT _ _ _ _ _ _ _ ⟨#[_, _, _, _, _, _, _, _, _, _, _, _, _, _, _, _, _, _, _, _, _, _, _, _, _, _, _, _, _, _, _, _, _, _, _, _, _, _, _, _, _, _, _, _, _, _, _, _, _, _, _, _, _, _, _, _, _, _, _, _, _, _, _, _, _, _, _, _, _, _, _, _, _, _, _, _, _, _, _, _, _, _, _, _, _, _, _, _, _, _, _, _, _, _, _, _, _, _, _, .slice (some ⟨g, 0, none⟩) 5 c3, .pointer (some ⟨g, 0, none⟩), .slice D0 p0.length c0, .string (B p0), .slice (some ⟨g, 0, none⟩) 5 c3, .pointer (some ⟨g, 1, none⟩), .slice D1 p1.length c1', .string (B p1), .agg #[.int .i64 s, .string r, .int .i64 mi, .slice A1 fs.length c1], .slice (some ⟨g, 0, none⟩) 5 c3, .pointer (some ⟨g, 3, none⟩), .slice D3 p3.length c3', _, .slice (some ⟨g, 0, none⟩) 5 c3, .pointer (some ⟨g, 4, none⟩), .slice (some ⟨b4, o4, none⟩) p4.length c4, .slice (some ⟨b4, o4, none⟩) 8 c4, _, .slice (some ⟨g, 0, none⟩) 5 c3, .pointer (some ⟨g, 4, none⟩), _, _, _, _, _, _, _, _, _, _, _, _, _, _, _, _, _, _, _], []⟩ _)
      · intro u hu
        go_simp
      refine HT.take 20 (.slice (some ⟨b4, o4, none⟩) p4.length c4) rfl (by kernel_rfl) (fun _ _ _ h => h) (Or.inl ⟨by rfl, ?_⟩) (?_ : HT _ _ _ _ _ _ _ ⟨#[_, _, _, _, _, _, _, _, _, _, _, _, _, _, _, _, _, _, _, _, _, _, _, _, _, _, _, _, _, _, _, _, _, _, _, _, _, _, _, _, _, _, _, _, _, _, _, _, _, _, _, _, _, _, _, _, _, _, _, _, _, _, _, _, _, _, _, _, _, _, _, _, _, _, _, _, _, _, _, _, _, _, _, _, _, _, _, _, _, _, _, _, _, _, _, _, _, _, _, .slice (some ⟨g, 0, none⟩) 5 c3, .pointer (some ⟨g, 0, none⟩), .slice D0 p0.length c0, .string (B p0), .slice (some ⟨g, 0, none⟩) 5 c3, .pointer (some ⟨g, 1, none⟩), .slice D1 p1.length c1', .string (B p1), .agg #[.int .i64 s, .string r, .int .i64 mi, .slice A1 fs.length c1], .slice (some ⟨g, 0, none⟩) 5 c3, .pointer (some ⟨g, 3, none⟩), .slice D3 p3.length c3', _, .slice (some ⟨g, 0, none⟩) 5 c3, .pointer (some ⟨g, 4, none⟩), .slice (some ⟨b4, o4, none⟩) p4.length c4, .slice (some ⟨b4, o4, none⟩) 8 c4, _, .slice (some ⟨g, 0, none⟩) 5 c3, .pointer (some ⟨g, 4, none⟩), .slice (some ⟨b4, o4, none⟩) p4.length c4, _, _, _, _, _, _, _, _, _, _, _, _, _, _, _, _, _, _], []⟩ _)
      · intro u hu
        obtain ⟨y0, y1, y2, y3, y4⟩ := hu.2.2.1.five5
        go_simp
      refine HT.take 21 (.slice (some ⟨b4, o4 + 8, none⟩) (p4.length - 8) (c4 - 8)) rfl (by kernel_rfl) (fun _ _ _ h => h) (Or.inl ⟨by rfl, ?_⟩) (?_ : HT _ _ _ _ _ _ _ ⟨#[_, _, _, _, _, _, _, _, _, _, _, _, _, _, _, _, _, _, _, _, _, _, _, _, _, _, _, _, _, _, _, _, _, _, _, _, _, _, _, _, _, _, _, _, _, _, _, _, _, _, _, _, _, _, _, _, _, _, _, _, _, _, _, _, _, _, _, _, _, _, _, _, _, _, _, _, _, _, _, _, _, _, _, _, _, _, _, _, _, _, _, _, _, _, _, _, _, _, _, .slice (some ⟨g, 0, none⟩) 5 c3, .pointer (some ⟨g, 0, none⟩), .slice D0 p0.length c0, .string (B p0), .slice (some ⟨g, 0, none⟩) 5 c3, .pointer (some ⟨g, 1, none⟩), .slice D1 p1.length c1', .string (B p1), .agg #[.int .i64 s, .string r, .int .i64 mi, .slice A1 fs.length c1], .slice (some ⟨g, 0, none⟩) 5 c3, .pointer (some ⟨g, 3, none⟩), .slice D3 p3.length c3', _, .slice (some ⟨g, 0, none⟩) 5 c3, .pointer (some ⟨g, 4, none⟩), .slice (some ⟨b4, o4, none⟩) p4.length c4, .slice (some ⟨b4, o4, none⟩) 8 c4, _, .slice (some ⟨g, 0, none⟩) 5 c3, .pointer (some ⟨g, 4, none⟩), .slice (some ⟨b4, o4, none⟩) p4.length c4, .slice (some ⟨b4, o4 + 8, none⟩) (p4.length - 8) (c4 - 8), _, _, _, _, _, _, _, _, _, _, _, _, _, _, _, _, _], []⟩ _)
      · intro u hu
        go_simp
      refine HT.block (f0 := 1) [12, 17, 22, 23, 24] (fun j v u => match j with | 12 => ∃ X d, v = .slice X p3.length d ∧ Row u w0.heap.size 5 1 X p3.length d (bcells p3) | 17 => v = .int .i64 ia | 22 => v = .int .i64 ig | 23 => ∃ X d, v = .agg #[.string (B p0), .string (B p1), .int .i64 s, .string r, .int .i64 mi, .slice A1 fs.length c1, .slice X p3.length d, .int .i64 ia, .int .i64 ig] ∧ Row u w0.heap.size 5 1 X p3.length d (bcells p3) | 24 => PtrBlk w0.heap.size #[.string ⟨#[]⟩, .string ⟨#[]⟩, .int .i64 0, .string ⟨#[]⟩, .int .i64 0, .slice none 0 0, .slice none 0 0, .int .i64 0, .int .i64 0] 29 v u | _ => True) (fun vs => ⟨#[_, _, _, _, _, _, _, _, _, _, _, vs 24, _, _, _, _, _, _, _, _, _, _, _, _, _, _, _, _, _, _, _, _, _, _, _, _, _, _, _, _, _, _, _, _, _, _, _, _, _, _, _, _, _, _, _, _, _, _, _, _, _, _, _, _, _, _, _, _, _, _, _, _, _, _, _, _, _, _, _, _, _, _, _, _, _, _, _, _, _, _, _, _, _, _, _, _, _, _, _, .slice (some ⟨g, 0, none⟩) 5 c3, .pointer (some ⟨g, 0, none⟩), .slice D0 p0.length c0, .string (B p0), .slice (some ⟨g, 0, none⟩) 5 c3, .pointer (some ⟨g, 1, none⟩), .slice D1 p1.length c1', .string (B p1), .agg #[.int .i64 s, .string r, .int .i64 mi, .slice A1 fs.length c1], .slice (some ⟨g, 0, none⟩) 5 c3, .pointer (some ⟨g, 3, none⟩), .slice D3 p3.length c3', vs 12, .slice (some ⟨g, 0, none⟩) 5 c3, .pointer (some ⟨g, 4, none⟩), .slice (some ⟨b4, o4, none⟩) p4.length c4, .slice (some ⟨b4, o4, none⟩) 8 c4, vs 17, .slice (some ⟨g, 0, none⟩) 5 c3, .pointer (some ⟨g, 4, none⟩), .slice (some ⟨b4, o4, none⟩) p4.length c4, .slice (some ⟨b4, o4 + 8, none⟩) (p4.length - 8) (c4 - 8), vs 22, vs 23, _, _, _, _, _, _, _, _, _, _, _, _, _, _, _], []⟩) (fun _ => rfl) (by kernel_rfl) (fun u u' hb h => h.below hb) (fun j v u u' hb h => by revert h; split <;> intro h <;> first | exact h.below hb | (obtain ⟨X, d, hv, hr⟩ := h; exact ⟨X, d, hv, hr.below hb⟩) | exact h | trivial) (List.forall_mem_cons.2 ⟨⟨_, rfl, ?_⟩, List.forall_mem_cons.2 ⟨⟨_, rfl, ?_⟩, List.forall_mem_cons.2 ⟨⟨_, rfl, ?_⟩, List.forall_mem_cons.2 ⟨⟨_, rfl, ?_⟩, List.forall_mem_cons.2 ⟨⟨_, rfl, ?_⟩, fun _ h => by cases h⟩⟩⟩⟩⟩) ?_
      · intro vs u hS hd K hK
        go_simp
        refine (HCL.out u hS.2.1).mono ?_
        rintro e w5 ⟨X, d, rfl, hr, hb⟩
        exact hK.out (.slice X p3.length d) _ ⟨X, d, rfl, hr.mono hS.2.1.size⟩ hb
      · intro vs u hS hd K hK
        go_simp
        refine (HGA2.out u hS.2.1).mono ?_
        rintro e w5 ⟨rfl, rfl⟩
        exact hK.out (.int .i64 ia) _ rfl (Below.refl _ _)
      · intro vs u hS hd K hK
        go_simp
        refine (HGB2.out u hS.2.1).mono ?_
        rintro e w5 ⟨rfl, rfl⟩
        exact hK.out (.int .i64 ig) _ rfl (Below.refl _ _)
      · intro vs u hS hd K hK
        obtain ⟨X, d, e1, hr1⟩ : (fun v u => ∃ X d, v = .slice X p3.length d ∧ Row u w0.heap.size 5 1 X p3.length d (bcells p3)) (vs 12) u := hd 12 (by simp) (by kernel_rfl)
        have e17 : vs 17 = .int .i64 ia := hd 17 (by simp) (by kernel_rfl)
        have e22 : vs 22 = .int .i64 ig := hd 22 (by simp) (by kernel_rfl)
        have hk : K ⟨#[_, _, _, _, _, _, _, _, _, _, _, vs 24, _, _, _, _, _, _, _, _, _, _, _, _, _, _, _, _, _, _, _, _, _, _, _, _, _, _, _, _, _, _, _, _, _, _, _, _, _, _, _, _, _, _, _, _, _, _, _, _, _, _, _, _, _, _, _, _, _, _, _, _, _, _, _, _, _, _, _, _, _, _, _, _, _, _, _, _, _, _, _, _, _, _, _, _, _, _, _, .slice (some ⟨g, 0, none⟩) 5 c3, .pointer (some ⟨g, 0, none⟩), .slice D0 p0.length c0, .string (B p0), .slice (some ⟨g, 0, none⟩) 5 c3, .pointer (some ⟨g, 1, none⟩), .slice D1 p1.length c1', .string (B p1), .agg #[.int .i64 s, .string r, .int .i64 mi, .slice A1 fs.length c1], .slice (some ⟨g, 0, none⟩) 5 c3, .pointer (some ⟨g, 3, none⟩), .slice D3 p3.length c3', vs 12, .slice (some ⟨g, 0, none⟩) 5 c3, .pointer (some ⟨g, 4, none⟩), .slice (some ⟨b4, o4, none⟩) p4.length c4, .slice (some ⟨b4, o4, none⟩) 8 c4, vs 17, .slice (some ⟨g, 0, none⟩) 5 c3, .pointer (some ⟨g, 4, none⟩), .slice (some ⟨b4, o4, none⟩) p4.length c4, .slice (some ⟨b4, o4 + 8, none⟩) (p4.length - 8) (c4 - 8), vs 22, .agg #[.string (B p0), .string (B p1), .int .i64 s, .string r, .int .i64 mi, .slice A1 fs.length c1, .slice X p3.length d, .int .i64 ia, .int .i64 ig], _, _, _, _, _, _, _, _, _, _, _, _, _, _, _], []⟩ u := hK.out (.agg #[.string (B p0), .string (B p1), .int .i64 s, .string r, .int .i64 mi, .slice A1 fs.length c1, .slice X p3.length d, .int .i64 ia, .int .i64 ig]) _ ⟨X, d, rfl, hr1⟩ (Below.refl _ _)
        rw [e1, e17, e22] at hk
        clear hd hK hr1
        go_simp
        exact hk
      · intro vs u hS hd K hK
        go_simp
        exact hK.out (.pointer (some ⟨u.heap.size, 0, none⟩)) _ ⟨_, rfl, hS.2.1.size, Blk.new u _ _⟩ ((Below.refl _ _).alloc (Nat.le_refl _) _)
      intro vs u hS hR
      have hv111 := hR 12 (by simp)
      generalize vs 12 = v111 at *
      have hv116 := hR 17 (by simp)
      generalize vs 17 = v116 at *
      have hv121 := hR 22 (by simp)
      generalize vs 22 = v121 at *
      have hv122 := hR 23 (by simp)
      generalize vs 23 = v122 at *
      have hv11 := hR 24 (by simp)
      generalize vs 24 = v11 at *
      clear hR
      refine (?_ : HT _ _ _ _ _ _ _ ⟨#[_, _, _, _, _, _, _, _, _, _, _, v11, _, _, _, _, _, _, _, _, _, _, _, _, _, _, _, _, _, _, _, _, _, _, _, _, _, _, _, _, _, _, _, _, _, _, _, _, _, _, _, _, _, _, _, _, _, _, _, _, _, _, _, _, _, _, _, _, _, _, _, _, _, _, _, _, _, _, _, _, _, _, _, _, _, _, _, _, _, _, _, _, _, _, _, _, _, _, _, .slice (some ⟨g, 0, none⟩) 5 c3, .pointer (some ⟨g, 0, none⟩), .slice D0 p0.length c0, .string (B p0), .slice (some ⟨g, 0, none⟩) 5 c3, .pointer (some ⟨g, 1, none⟩), .slice D1 p1.length c1', .string (B p1), .agg #[.int .i64 s, .string r, .int .i64 mi, .slice A1 fs.length c1], .slice (some ⟨g, 0, none⟩) 5 c3, .pointer (some ⟨g, 3, none⟩), .slice D3 p3.length c3', v111, .slice (some ⟨g, 0, none⟩) 5 c3, .pointer (some ⟨g, 4, none⟩), .slice (some ⟨b4, o4, none⟩) p4.length c4, .slice (some ⟨b4, o4, none⟩) 8 c4, v116, .slice (some ⟨g, 0, none⟩) 5 c3, .pointer (some ⟨g, 4, none⟩), .slice (some ⟨b4, o4, none⟩) p4.length c4, .slice (some ⟨b4, o4 + 8, none⟩) (p4.length - 8) (c4 - 8), v121, v122, _, _, _, _, _, _, _, _, _, _, _, _, _, _, _], []⟩ _)
      clear hv111 hv116 hv121
      obtain ⟨X, d, rfl, hrX⟩ := hv122
      obtain ⟨b8, rfl, hb8, hk8⟩ := hv11
      refine HT.tail _ rfl rfl (by kernel_rfl) (fun hS => ?_)
      have hne8 : b8 ≠ w.heap.size := by have := HZ0.out; omega
      have hne5 : b8 ≠ b5 := fun h => by
        have h1 := hS.2.2.2.1
        rw [← h] at h1
        unfold Blk at h1 hk8
        rw [hk8] at h1
        exact neER (by injection h1 with h1; injection h1)
      have HS7 : Hid (DecS w w0 g c3 [.slice D0 p0.length c0, .slice D1 p1.length c1', .slice D2 p2.length c2, .slice D3 p3.length c3', .slice (some ⟨b4, o4, none⟩) p4.length c4] b5 #[.int .i64 s, .string r, .int .i64 mi, .slice A1 fs.length c1] A1 c1 fs (((((((((u.setCell ⟨b8, 0, none⟩ (.string (B p0))).setCell ⟨b8, 1, none⟩ (.string (B p1))).setCell ⟨b8, 2, none⟩ (.int .i64 s)).setCell ⟨b8, 3, none⟩ (.string r)).setCell ⟨b8, 4, none⟩ (.int .i64 mi)).setCell ⟨b8, 5, none⟩ (.slice A1 fs.length c1)).setCell ⟨b8, 6, none⟩ (.slice X p3.length d)).setCell ⟨b8, 7, none⟩ (.int .i64 ia)).setCell ⟨b8, 8, none⟩ (.int .i64 ig))) := Lib.hid ⟨hS.1.far9 hne8 (.string (B p0)) (.string (B p1)) (.int .i64 s) (.string r) (.int .i64 mi) (.slice A1 fs.length c1) (.slice X p3.length d) (.int .i64 ia) (.int .i64 ig), below_nine hS.2.1 hb8 (.string (B p0)) (.string (B p1)) (.int .i64 s) (.string r) (.int .i64 mi) (.slice A1 fs.length c1) (.slice X p3.length d) (.int .i64 ia) (.int .i64 ig), hS.2.2.1.farT9 hk8 neES (.string (B p0)) (.string (B p1)) (.int .i64 s) (.string r) (.int .i64 mi) (.slice A1 fs.length c1) (.slice X p3.length d) (.int .i64 ia) (.int .i64 ig), hS.2.2.2.1.far9 hne5 (.string (B p0)) (.string (B p1)) (.int .i64 s) (.string r) (.int .i64 mi) (.slice A1 fs.length c1) (.slice X p3.length d) (.int .i64 ia) (.int .i64 ig), hS.2.2.2.2.1.farT9 hk8 neEF (.string (B p0)) (.string (B p1)) (.int .i64 s) (.string r) (.int .i64 mi) (.slice A1 fs.length c1) (.slice X p3.length d) (.int .i64 ia) (.int .i64 ig), below_nine hS.2.2.2.2.2 (show w.heap.size ≤ b8 by have := HZ0.out; omega) (.string (B p0)) (.string (B p1)) (.int .i64 s) (.string r) (.int .i64 mi) (.slice A1 fs.length c1) (.slice X p3.length d) (.int .i64 ia) (.int .i64 ig)⟩
      have HK7 : Hid (Blk (((((((((u.setCell ⟨b8, 0, none⟩ (.string (B p0))).setCell ⟨b8, 1, none⟩ (.string (B p1))).setCell ⟨b8, 2, none⟩ (.int .i64 s)).setCell ⟨b8, 3, none⟩ (.string r)).setCell ⟨b8, 4, none⟩ (.int .i64 mi)).setCell ⟨b8, 5, none⟩ (.slice A1 fs.length c1)).setCell ⟨b8, 6, none⟩ (.slice X p3.length d)).setCell ⟨b8, 7, none⟩ (.int .i64 ia)).setCell ⟨b8, 8, none⟩ (.int .i64 ig)) b8 #[.string (B p0), .string (B p1), .int .i64 s, .string r, .int .i64 mi, .slice A1 fs.length c1, .slice X p3.length d, .int .i64 ia, .int .i64 ig] 29) := Lib.hid (hk8.set9 (.string (B p0)) (.string (B p1)) (.int .i64 s) (.string r) (.int .i64 mi) (.slice A1 fs.length c1) (.slice X p3.length d) (.int .i64 ia) (.int .i64 ig))
      have HX7 : Hid (Row (((((((((u.setCell ⟨b8, 0, none⟩ (.string (B p0))).setCell ⟨b8, 1, none⟩ (.string (B p1))).setCell ⟨b8, 2, none⟩ (.int .i64 s)).setCell ⟨b8, 3, none⟩ (.string r)).setCell ⟨b8, 4, none⟩ (.int .i64 mi)).setCell ⟨b8, 5, none⟩ (.slice A1 fs.length c1)).setCell ⟨b8, 6, none⟩ (.slice X p3.length d)).setCell ⟨b8, 7, none⟩ (.int .i64 ia)).setCell ⟨b8, 8, none⟩ (.int .i64 ig)) w0.heap.size 5 1 X p3.length d (bcells p3)) := Lib.hid (hrX.farT9 hk8 neEU (.string (B p0)) (.string (B p1)) (.int .i64 s) (.string r) (.int .i64 mi) (.slice A1 fs.length c1) (.slice X p3.length d) (.int .i64 ia) (.int .i64 ig))
      obtain ⟨q0, q1, q2, q3, q4, q5, q6, q7, q8⟩ := hk8.cells9
      obtain ⟨f0, f1, f2, f3, f4, f5, f6, f7, f8⟩ := hk8.free9
      clear hS hrX hk8 HCL HC0 HC1 hS0 HGA2 HGB2
      go_wp2
      refine NoPanic.normal ?_
      clear q0 f0 q1 f1 q2 f2 q3 f3 q4 f4 q5 f5 q6 f6 q7 f7 q8 f8
      generalize (((((((((u.setCell ⟨b8, 0, none⟩ (.string (B p0))).setCell ⟨b8, 1, none⟩ (.string (B p1))).setCell ⟨b8, 2, none⟩ (.int .i64 s)).setCell ⟨b8, 3, none⟩ (.string r)).setCell ⟨b8, 4, none⟩ (.int .i64 mi)).setCell ⟨b8, 5, none⟩ (.slice A1 fs.length c1)).setCell ⟨b8, 6, none⟩ (.slice X p3.length d)).setCell ⟨b8, 7, none⟩ (.int .i64 ia)).setCell ⟨b8, 8, none⟩ (.int .i64 ig)) = w8 at *
      obtain ⟨q0, q1, q2, q3, q4, q5, q6, q7, q8⟩ := HK7.out.cells9
      go_wp2_with fail
      refine (HEN.out A1 c1 X d _ HS7.out.2.2.2.2.1.rd HX7.out.rd).mono ?_
      rintro e w9 ⟨A9, c9, rfl, hr9, hb9⟩
      have HS9 := Lib.hid (HS7.out.below hb9)
      have HK9 := Lib.hid (HK7.out.below hb9)
      have HX9 := Lib.hid (HX7.out.below hb9)
      have hobl : OB.length ≤ 1099511627776 := by rw [HOB.out]; have := objB_lenV (B p0) (B p1) s r mi fs p3 ia ig; omega
      have HEQ := Lib.hid (sameBytes_any A9 (some ⟨b, o, none⟩) OB.length l.length c9 c OB l w9 hobl (by omega) hr9.rd (HXW.out.below HS9.out.2.2.2.2.2) rfl rfl)
      clear q0 q1 q2 q3 q4 q5 q6 q7 q8 HS7 HK7 HX7 hr9 hb9 HEN hobl
      obtain ⟨q0, q1, q2, q3, q4, q5, q6, q7, q8⟩ := HK9.out.cells9
      go_upto_region 21 with fail
      have HK2 := Lib.hid HS9.out.1
      have HB2 := Lib.hid HS9.out.2.2.2.2.2
      rcases HDE2.out with ⟨h0, h1, h2⟩ | ⟨h0, h2⟩
      · subst h0
        have h1d : decide (OB = l) = true := decide_eq_true h1
        rw [h1d] at HEQ
        have HF := Lib.hid h2
        clear HDE2 h1 h2 h1d q0 q1 q2 q3 q4 q5 q6 q7 q8
        go_wp2_with fail
        refine HEQ.out.mono ?_
        rintro e w10 ⟨rfl, hb10⟩
        have HT2 := Lib.hid (HS9.out.below hb10)
        have HY2 := Lib.hid (HK9.out.below hb10)
        have HX2 := Lib.hid (HX9.out.below hb10)
        clear hb10 HK2 HB2 HS9 HK9 HX9 HEQ
        obtain ⟨q0, q1, q2, q3, q4, q5, q6, q7, q8⟩ := HY2.out.cells9
        obtain ⟨a0, a1, a2, a3, a4, a5, a6, a7, a8⟩ := HT2.out.1.cells9
        obtain ⟨g0, g1, g2, g3, g4, g5, g6, g7, g8⟩ := HT2.out.1.free9
        go_wp2
        obtain ⟨z0, z1, z2, z3, z4, z5, z6, z7, z8⟩ := (HT2.out.1.set9 (.string (B p0)) (.string (B p1)) (.int .i64 s) (.string r) (.int .i64 mi) (.slice A1 fs.length c1) (.slice X p3.length d) (.int .i64 ia) (.int .i64 ig)).cells9
        unfold nine at z0 z1 z2 z3 z4 z5 z6 z7 z8
        refine bodyPost_ret (v := .tuple #[.agg #[.string (B p0), .string (B p1), .int .i64 s, .string r, .int .i64 mi, .slice A1 fs.length c1, .slice X p3.length d, .int .i64 ia, .int .i64 ig], .int .i64 0]) (by simp [results, Tryz.results17, go_sem, z0, z1, z2, z3, z4, z5, z6, z7, z8]) rfl ?_
        exact .inl ⟨_, A1, c1, X, d, HF.out, rfl, (HT2.out.2.2.2.2.1.farT9 HT2.out.1 neEF _ _ _ _ _ _ _ _ _).mono (by have := HZ0.out; omega), (HX2.out.farT9 HT2.out.1 neEU _ _ _ _ _ _ _ _ _).mono (by have := HZ0.out; omega), below_nine HT2.out.2.2.2.2.2 (Nat.le_refl _) _ _ _ _ _ _ _ _ _⟩
      · have HF := Lib.hid h2
        by_cases hOE : OE = 0
        · subst hOE
          have h1d : decide (OB = l) = false := decide_eq_false fun h => h0 ⟨rfl, h⟩
          rw [h1d] at HEQ
          clear HDE2 h0 h2 h1d q0 q1 q2 q3 q4 q5 q6 q7 q8
          go_wp2_with fail
          refine HEQ.out.mono ?_
          rintro e w10 ⟨rfl, hb10⟩
          have HK3 := Lib.hid (HK2.out.below hb10)
          have HB3 := Lib.hid (below_then HB2.out.size HB2.out hb10)
          clear hb10 HK2 HB2 HS9 HK9 HX9 HEQ
          obtain ⟨a0, a1, a2, a3, a4, a5, a6, a7, a8⟩ := HK3.out.cells9
          obtain ⟨g0, g1, g2, g3, g4, g5, g6, g7, g8⟩ := HK3.out.free9
          go_wp2
          obtain ⟨z0, z1, z2, z3, z4, z5, z6, z7, z8⟩ := (HK3.out.set9 (.string ⟨#[]⟩) (.string ⟨#[]⟩) (.int .i64 0) (.string ⟨#[]⟩) (.int .i64 0) (.slice none 0 0) (.slice none 0 0) (.int .i64 0) (.int .i64 0)).cells9
          unfold nine at z0 z1 z2 z3 z4 z5 z6 z7 z8
          refine bodyPost_ret (v := .tuple #[.agg #[.string ⟨#[]⟩, .string ⟨#[]⟩, .int .i64 0, .string ⟨#[]⟩, .int .i64 0, .slice none 0 0, .slice none 0 0, .int .i64 0, .int .i64 0], .int .i64 120]) (by simp [results, Tryz.results17, go_sem, z0, z1, z2, z3, z4, z5, z6, z7, z8]) rfl ?_
          exact .inr ⟨HF.out, rfl, below_nine HB3.out (Nat.le_refl _) _ _ _ _ _ _ _ _ _⟩
        · have hOb : (OE != 0) = true := by rw [bne_iff_ne]; exact hOE
          clear HDE2 h0 h2 q0 q1 q2 q3 q4 q5 q6 q7 q8 HEQ
          obtain ⟨a0, a1, a2, a3, a4, a5, a6, a7, a8⟩ := HK2.out.cells9
          obtain ⟨g0, g1, g2, g3, g4, g5, g6, g7, g8⟩ := HK2.out.free9
          go_wp2
          obtain ⟨z0, z1, z2, z3, z4, z5, z6, z7, z8⟩ := (HK2.out.set9 (.string ⟨#[]⟩) (.string ⟨#[]⟩) (.int .i64 0) (.string ⟨#[]⟩) (.int .i64 0) (.slice none 0 0) (.slice none 0 0) (.int .i64 0) (.int .i64 0)).cells9
          unfold nine at z0 z1 z2 z3 z4 z5 z6 z7 z8
          refine bodyPost_ret (v := .tuple #[.agg #[.string ⟨#[]⟩, .string ⟨#[]⟩, .int .i64 0, .string ⟨#[]⟩, .int .i64 0, .slice none 0 0, .slice none 0 0, .int .i64 0, .int .i64 0], .int .i64 120]) (by simp [results, Tryz.results17, go_sem, z0, z1, z2, z3, z4, z5, z6, z7, z8]) rfl ?_
          exact .inr ⟨HF.out, rfl, below_nine HB2.out (Nat.le_refl _) _ _ _ _ _ _ _ _ _⟩
end Go.Proofs.YtcdbppoohlabnaaGreatDoor
