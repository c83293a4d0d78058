/- The walk of the document's Request. Conditions: a row of at most 2^30 bytes. -/
import Derived.Test.YtnmldbcgpfglkaaGreatDoorHeadR2
import Derived.Test.YtnmldbcgpfglkaaGreatDoorHeadR3
import Derived.Test.YtnmldbcgpfglkaaGreatDoorHead5
import Derived.Test.YtnmldbcgpfglkaaGreatDoorFldA
namespace Go.Proofs.YtnmldbcgpfglkaaGreatDoor
open Go.RowKit

theorem pre2 (l : List UInt8) (k : Nat) (h : k + 1 < l.length) : ([13, 10] : List UInt8).isPrefixOf (l.drop k) = (decide (l[k]'(by omega) = 13) && decide (l[k + 1]'(by omega) = 10)) := occ2 l k h
theorem pre2_no (l : List UInt8) (k : Nat) (h : ¬ k + 1 < l.length) : ([13, 10] : List UInt8).isPrefixOf (l.drop k) = false := by
  rcases tf (([13, 10] : List UInt8).isPrefixOf (l.drop k)) with hp | hp
  · have := (P.skip_step hp).2
    rw [List.length_drop] at this
    omega
  · exact hp
theorem verE_nil : P.verE [] = 50 := by decide
theorem visible_nil : F.visible (B []) = false := by decide
/-- What the two blanks of a line tell. -/
theorem blank_facts (l : List UInt8) : blankAt (B l) 0 = (P.methodOf l).length ∧ (blankAt (B l) 0 < l.length → P.behind l = l.drop (blankAt (B l) 0 + 1) ∧ blankAt (B l) (blankAt (B l) 0 + 1) = blankAt (B l) 0 + 1 + (P.methodOf (P.behind l)).length) ∧ (¬ blankAt (B l) 0 < l.length → P.behind l = []) ∧ P.methodOf l = l.take (blankAt (B l) 0) := by
  have h0 : blankAt (B l) 0 = (P.methodOf l).length := by
    unfold blankAt P.methodOf
    rw [L_B, List.drop_zero, Nat.zero_add]
  have h := P.upto_from P.sp l
  have hl := P.upto_len P.sp l
  have key : ∀ u f : List UInt8, u ++ f = l → f = l.drop u.length ∧ u = l.take u.length := by
    rintro u f rfl
    simp
  obtain ⟨k1, k2⟩ := key _ _ h
  have hb : P.behind l = l.drop (blankAt (B l) 0 + 1) := by
    unfold P.behind
    rw [h0, k1, List.drop_drop]
    rfl
  refine ⟨h0, fun _ => ⟨hb, ?_⟩, fun hn => ?_, ?_⟩
  · unfold blankAt P.methodOf at *
    rw [hb, L_B]
  · rw [hb]
    exact List.drop_of_length_le (by omega)
  · rw [h0]; exact k2

set_option maxRecDepth 100000 in
set_option maxHeartbeats 8000000 in
theorem refRequest_any2 (A : Option Addr) (n c : Nat) (bs : List UInt8) (w : World) (hnm : n ≤ 1073741824) (hnc : n ≤ c) (hx : Rd w A n 1 (bcells bs)) :
    Calls Tryz.prog 72 #[.slice A n c] w (RetReq w (P.request bs)) := by
  have hll := rd_len hx
  have hsk := P.skip_le bs.length bs (Nat.le_refl _)
  rw [hll] at hsk
  have HX := Lib.hid hx
  have HCL := Lib.hid (fun (j : Nat) (hj : j < bs.length) (u : World) (hb : Below w.heap.size w u) => show ∃ b o, A = some ⟨b, o, none⟩ ∧ u.cell? ⟨b, o + j, none⟩ = some (.int .u8 (bs[j]'hj).toNat) from by
    obtain ⟨b, o, e, hlt, hc⟩ := hx.2 (by omega)
    exact ⟨b, o, e, (hb.cell (p := ⟨b, o + j, none⟩) hlt).trans (hc j _ (by simp [bcells, hj]))⟩)
  have HEN := Lib.hid (fun (u : World) (hu : Below w.heap.size w u) => refEnd_any A n c (P.skip bs) bs u hnm hsk (hx.below hu))
  have HK0 := Lib.hid (Blk.new w #[.string ⟨#[]⟩, .string ⟨#[]⟩, .int .i64 0, .slice none 0 0] 55)
  have HB0 := Lib.hid ((Below.refl w.heap.size w).alloc (Nat.le_refl _) (.cells #[.string ⟨#[]⟩, .string ⟨#[]⟩, .int .i64 0, .slice none 0 0] 55))
  obtain ⟨Q, hQ⟩ : ∃ Q, P.request bs = Q := ⟨_, rfl⟩
  rw [hQ]
  have HQ : Hid (Q = if P.hE bs (P.skip bs) ≠ 0 ∨ P.hN bs (P.skip bs) = 0 then P.RQ.bad (P.hE bs (P.skip bs)) else P.reqOf (P.hLine bs (P.skip bs)) (P.hBlock bs (P.skip bs)) (P.hN bs (P.skip bs))) := Lib.hid (by rw [← hQ]; rfl)
  have HLLE := Lib.hid (P.hLine_le bs (P.skip bs))
  have HLL := Lib.hid hll
  clear hQ hx hll
  go_enter Tryz.func72, Tryz.ntmps72
  go_upto_block 0 with fail
  generalize w.alloc (.cells #[.string ⟨#[]⟩, .string ⟨#[]⟩, .int .i64 0, .slice none 0 0] 55) = w0 at *
  go_cut [5] (fun s5 wx => s5 = .int .i64 (P.skip bs) ∧ wx = w0)
  case first =>
    clear HEN HQ HLLE
    go_wp2_with fail
    go_loop [5] (fun i => ∃ k : Nat, k ≤ n ∧ i = .int .i64 k ∧ k + P.skip (bs.drop k) = P.skip bs) (fun i => n - (intOf i).toNat)
    case atStart => exact ⟨0, Nat.zero_le _, rfl, by simp⟩
    case round =>
      obtain ⟨k, hk, rfl, hsp⟩ := hrel
      have HSP := Lib.hid hsp
      clear hsp
      by_cases hlt : k + 1 < n
      · have hki : (k : Int) + 1 < (n : Int) := by omega
        have hki0 : (k : Int) < (n : Int) := by omega
        have HPR := Lib.hid (pre2 bs k (by rw [HLL.out]; exact hlt))
        obtain ⟨b, o, rfl, q0⟩ := HCL.out k (by rw [HLL.out]; omega) w0 HB0.out
        have q1 : w0.cell? ⟨b, o + (k + 1), none⟩ = some (.int .u8 (bs[k + 1]'(by rw [HLL.out]; omega)).toNat) := by
          obtain ⟨b', o', e, q⟩ := HCL.out (k + 1) (by rw [HLL.out]; omega) w0 HB0.out
          cases e; exact q
        generalize bs[k]'(by rw [HLL.out]; omega) = x at *
        generalize bs[k + 1]'(by rw [HLL.out]; omega) = y at *
        by_cases hx13 : x = 13
        · have g1 : ((x.toNat : Int) == 13) = true := beqI_true (y := 13) hx13
          by_cases hy10 : y = 10
          · have g2 : ((y.toNat : Int) == 10) = true := beqI_true (y := 10) hy10
            have hp : ([13, 10] : List UInt8).isPrefixOf (bs.drop k) = true := by rw [HPR.out, decide_eq_true hx13, decide_eq_true hy10]; rfl
            obtain ⟨h1, _⟩ := P.skip_step hp
            rw [List.drop_drop] at h1
            have HH1 := Lib.hid h1
            clear hp h1 hx13 hy10 HPR
            go_wp2
            go_round
            case rel => exact ⟨k + 2, by omega, by go_num, by have h3 := HSP.out; have h4 := HH1.out; omega⟩
            case measure => simp [intOf]; omega
          · have g2 : ((y.toNat : Int) == 10) = false := beqI_false (y := 10) hy10
            have HZ : Hid (P.skip bs = k) := Lib.hid (by
              have h := HSP.out
              rw [P.skip_stop (by rw [HPR.out, decide_eq_false hy10, Bool.and_false])] at h
              exact h.symm)
            clear hx13 hy10 HPR
            go_wp2_with fail
            go_meet
            exact ⟨by rw [HZ.out], rfl⟩
        · have g1 : ((x.toNat : Int) == 13) = false := beqI_false (y := 13) hx13
          have HZ : Hid (P.skip bs = k) := Lib.hid (by
            have h := HSP.out
            rw [P.skip_stop (by rw [HPR.out, decide_eq_false hx13, Bool.false_and])] at h
            exact h.symm)
          clear hx13 HPR
          go_wp2_with fail
          go_meet
          exact ⟨by rw [HZ.out], rfl⟩
      · have hki : ¬ (k : Int) + 1 < (n : Int) := by omega
        have HZ : Hid (P.skip bs = k) := Lib.hid (by
          have h := HSP.out
          rw [P.skip_stop (pre2_no bs k (by rw [HLL.out]; exact hlt))] at h
          exact h.symm)
        go_wp2_with fail
        go_meet
        exact ⟨by rw [HZ.out], rfl⟩
  case rest =>
    obtain ⟨rfl, rfl⟩ := hcut
    go_wp2_with fail
    refine (HEN.out _ HB0.out).mono ?_
    rintro e w' ⟨rfl, rfl⟩
    clear HEN
    have HF := Lib.hid (P.hText_facts bs (P.skip bs))
    have hge : -1 ≤ P.hIdx bs (P.skip bs) := Lib.index_ge _ _
    have HNE : Hid ((P.hN bs (P.skip bs) = if P.hIdx bs (P.skip bs) < 0 ∨ 8192 < P.skip bs + P.hIdx bs (P.skip bs) + 4 then 0 else P.skip bs + P.hIdx bs (P.skip bs) + 4) ∧ P.hText bs (P.skip bs) = (bs.drop (P.skip bs)).take (P.hIdx bs (P.skip bs) + 2).toNat ∧ P.hLine bs (P.skip bs) = (P.hText bs (P.skip bs)).take (Lib.index (P.hText bs (P.skip bs)) P.crlf).toNat ∧ P.hBlock bs (P.skip bs) = (P.hText bs (P.skip bs)).drop ((Lib.index (P.hText bs (P.skip bs)) P.crlf).toNat + 2)) := Lib.hid ⟨rfl, rfl, rfl, rfl⟩
    generalize P.hE bs (P.skip bs) = E0 at *
    generalize P.hN bs (P.skip bs) = N0 at *
    generalize P.hLine bs (P.skip bs) = LN at *
    generalize P.hBlock bs (P.skip bs) = BK at *
    generalize P.hText bs (P.skip bs) = TX at *
    generalize P.hIdx bs (P.skip bs) = ix at *
    generalize P.skip bs = sk at *
    by_cases hbad : E0 ≠ 0 ∨ N0 = 0
    · have HBAD : Hid (Q = .bad E0) := Lib.hid (HQ.out.trans (if_pos hbad))
      by_cases hE : E0 = 0
      · have hN : N0 = 0 := hbad.resolve_left (fun h => h hE)
        subst hE
        subst hN
        clear hbad HQ HNE HF
        obtain ⟨x0, x1, x2, x3⟩ := HK0.out.cells4
        obtain ⟨f0, f1, f2, f3⟩ := HK0.out.free4
        go_wp2
        obtain ⟨z0, z1, z2, z3⟩ := (HK0.out.set4 (.string ⟨#[]⟩) (.string ⟨#[]⟩) (.int .i64 0) (.slice none 0 0)).cells4
        refine bodyPost_ret (v := .tuple #[.agg #[.string ⟨#[]⟩, .string ⟨#[]⟩, .int .i64 0, .slice none 0 0], .int .i64 0, .int .i64 0]) (by simp [results, Tryz.results72, go_sem, z0, z1, z2, z3]) rfl ?_
        exact RetReq.bad (below_four HB0.out (Nat.le_refl _) _ _ _ _) HBAD.out
      · have hEb : (E0 != 0) = true := by simpa using hE
        clear hbad HQ HNE HF
        obtain ⟨x0, x1, x2, x3⟩ := HK0.out.cells4
        obtain ⟨f0, f1, f2, f3⟩ := HK0.out.free4
        go_wp2
        obtain ⟨z0, z1, z2, z3⟩ := (HK0.out.set4 (.string ⟨#[]⟩) (.string ⟨#[]⟩) (.int .i64 0) (.slice none 0 0)).cells4
        refine bodyPost_ret (v := .tuple #[.agg #[.string ⟨#[]⟩, .string ⟨#[]⟩, .int .i64 0, .slice none 0 0], .int .i64 0, .int .i64 E0]) (by simp [results, Tryz.results72, go_sem, z0, z1, z2, z3]) rfl ?_
        exact RetReq.bad (below_four HB0.out (Nat.le_refl _) _ _ _ _) HBAD.out
    · have HQ2 := Lib.hid (HQ.out.trans (if_neg hbad))
      have hE : E0 = 0 := by
        rcases (by omega : E0 = 0 ∨ E0 ≠ 0) with h | h
        · exact h
        · exact absurd (.inl h) hbad
      have hN : ¬ N0 = 0 := fun h => hbad (.inr h)
      subst hE
      have hNb : (N0 == 0) = false := by simpa using hN
      have hcond : ¬ (ix < 0 ∨ 8192 < sk + ix + 4) := fun h => hN (HNE.out.1.trans (if_pos h))
      have hpos : 0 ≤ ix := by omega
      obtain ⟨i, j, hi, hroom, hj, hji, hlen⟩ := HF.out hpos
      subst hi
      rw [HLL.out] at hroom
      have hN0 : N0 = (sk : Int) + (i : Int) + 4 := HNE.out.1.trans (if_neg hcond)
      have hTX : TX = (bs.drop sk).take (i + 2) := by rw [HNE.out.2.1]; congr 1
      have hLN : LN = TX.take j := by rw [HNE.out.2.2.1, hj, Int.toNat_natCast]
      have hBK : BK = TX.drop (j + 2) := by rw [HNE.out.2.2.2, hj, Int.toNat_natCast]
      obtain ⟨b, o, rfl, hq0⟩ := HCL.out sk (by rw [HLL.out]; omega) wc HB0.out
      clear hq0
      have HRT : Hid (∀ u, Below w.heap.size w u → Rd u (some ⟨b, o + sk, none⟩) (i + 2) 1 (bcells TX)) := Lib.hid (fun u hu => by
        rw [hTX]
        exact ((HX.out.from_ (show sk ≤ n by omega)).upto (show i + 2 ≤ n - sk by omega)).below hu)
      obtain ⟨M, hM⟩ : ∃ M : Nat, M = sk + i + 2 := ⟨_, rfl⟩
      have e6 : N0 - 2 = (M : Int) := by omega
      have hx6b : N0 ≤ 9000000000 := by omega
      have hx6a : 2 ≤ N0 := by omega
      have hkM : (sk : Int) ≤ (M : Int) := by omega
      have hMc : (M : Int) ≤ (c : Int) := by omega
      have hMk : i + 2 = M - sk := by omega
      have hMn : M ≤ n := by omega
      have hskc : (sk : Int) < (c : Int) := by omega
      have hskc2 : ¬ (sk : Int) = (c : Int) := by omega
      have HSPL := Lib.hid (fun (u : World) (hu : Below w.heap.size w u) => refSplit_any b (o + sk) (i + 2) (c - sk) TX j u (by omega) (by omega) (by omega) (HRT.out u hu) hj)
      have HBKR : Hid (∀ u, Below w.heap.size w u → Rd u (some ⟨b, o + sk + (j + 2), none⟩) (M - sk - (j + 2)) 1 (bcells BK)) := Lib.hid (fun u hu => by
        rw [hBK, ← hMk]
        exact (HRT.out u hu).from_ (by omega))
      rw [hMk] at HSPL
      have HLN := Lib.hid hLN
      have hn2 : M - sk - (j + 2) ≤ 1073741824 := by omega
      have hn2c : M - sk - (j + 2) ≤ c - sk - (j + 2) := by omega
      have hlle : LN.length ≤ 1073741824 := by have h1 := HLLE.out; rw [HLL.out] at h1; omega
      clear hN0 hTX hLN hBK hM hMk hj hlen hcond hroom hbad HQ HNE HF HRT HCL hpos hge hji
      have hbulk := P.parse_facts BK.length [] BK (Nat.le_refl _) (by simp)
      have hbl : BK.length ≤ 1073741824 := by have := rd_len (HBKR.out wc HB0.out); omega
      have HPF : Hid ((P.parse [] BK).1.length ≤ 100 ∧ FSmall (P.parse [] BK).1) := Lib.hid ⟨hbulk.2.1, fun f hf => by
        have h1 := F.mem_bulk hf
        have h2 := hbulk.1
        simp only [F.bulk] at h2
        omega⟩
      obtain ⟨c1, c2, c3, c4⟩ := blank_facts LN
      obtain ⟨d1, d2, d3, d4⟩ := blank_facts (P.behind LN)
      have hsz : (B LN).size = LN.length := B_size LN
      have HBL0 := Lib.hid (fun u => refBlank_any (B LN) 0 u (by omega) (Nat.zero_le _))
      have m1 := P.methodOf_le LN
      have m2 := P.behind_le LN
      have m3 := P.methodOf_le (P.behind LN)
      have HTK : Hid (∀ u, Calls Tryz.prog 88 #[.string (B (P.methodOf LN))] u (RetP u (.bool (T.token (P.methodOf LN))))) := Lib.hid (fun u => refToken_any (B (P.methodOf LN)) u (by rw [B_size]; omega))
      have HVS := Lib.hid (fun u => refVisible_any (B (P.methodOf (P.behind LN))) u (by rw [B_size]; omega))
      have HVR : Hid (∀ u, Calls Tryz.prog 102 #[.string (B (P.behind (P.behind LN)))] u fun e w' => e = .returned (.tuple #[.int .i64 (P.verN (P.behind (P.behind LN))), .int .i64 (P.verE (P.behind (P.behind LN)))]) ∧ u = w') := Lib.hid (fun u => refVersion_any (B (P.behind (P.behind LN))) u)
      have HPA := Lib.hid (fun u (hu : Below w.heap.size w u) => refParse_any (some ⟨b, o + sk + (j + 2), none⟩) (M - sk - (j + 2)) (c - sk - (j + 2)) BK u (by omega) hn2c (HBKR.out u hu))
      have HVL := Lib.hid (fun (u : World) A3 c3 (hr : Rd u A3 (P.parse [] BK).1.length 2 (fcells (P.parse [] BK).1)) => refValues_any A3 (P.parse [] BK).1.length c3 (P.parse [] BK).1 ⟨#[104, 111, 115, 116]⟩ u (by have := HPF.out.1; omega) rfl HPF.out.2 (by decide) hr)
      have hvn : P.verN (P.behind (P.behind LN)) = 0 ∨ P.verN (P.behind (P.behind LN)) = 1 := by
        unfold P.verN
        split
        · exact .inr rfl
        · exact .inl rfl
      have HQ3 : Hid (Q = if T.token (P.methodOf LN) = false ∨ F.visible (B (P.methodOf (P.behind LN))) = false then .bad 50
        else if P.verE (P.behind (P.behind LN)) ≠ 0 then .bad (P.verE (P.behind (P.behind LN)))
        else if (P.parse [] BK).2 ≠ 0 then .bad (P.parse [] BK).2
        else if P.hostsOf (P.parse [] BK).1 > 1 ∨ P.hostsOf (P.parse [] BK).1 < P.verN (P.behind (P.behind LN)) then .bad 40
        else ⟨B (P.methodOf LN), B (P.methodOf (P.behind LN)), P.verN (P.behind (P.behind LN)), (P.parse [] BK).1, N0, 0⟩) := HQ2
      clear HQ2 hbulk hbl HLLE HLL
      go_wp2_with fail
      refine (HSPL.out _ HB0.out).mono ?_
      rintro e w1 ⟨rfl, hb1⟩
      rw [← HLN.out]
      have HK1 := Lib.hid (HK0.out.below hb1)
      have HB1 := Lib.hid (below_then HB0.out.size HB0.out hb1)
      clear hb1 HSPL HK0 HB0 HLN
      go_wp2_with fail
      refine (HBL0.out _).mono ?_
      rintro e w' ⟨rfl, rfl⟩
      clear HBL0
      obtain ⟨i0, hi0⟩ : ∃ i0, blankAt (B LN) 0 = i0 := ⟨_, rfl⟩
      rw [hi0] at c1 c2 c3 c4 ⊢
      by_cases hi0l : i0 < LN.length
      · obtain ⟨c5, c6⟩ := c2 hi0l
        have hi0i : ¬ ((B LN).size : Int) ≤ (i0 : Int) := by omega
        have hi0a : (i0 : Int) < ((B LN).size : Int) := by omega
        have HBL1 := Lib.hid (fun u => refBlank_any (B LN) (i0 + 1) u (by omega) (by omega))
        obtain ⟨i1, hi1⟩ : ∃ i1, blankAt (B LN) (i0 + 1) = i1 := ⟨_, rfl⟩
        rw [hi1] at c6 HBL1
        have hml : (P.behind LN).length = LN.length - (i0 + 1) := by rw [c5, List.length_drop]
        have hd0 : blankAt (B (P.behind LN)) 0 = i1 - (i0 + 1) := by omega
        have x1 : (B LN).extract 0 i0 = B (P.methodOf LN) := by rw [extract_B, L_B, c4]; rfl
        have HX1 := Lib.hid x1
        have hi1l : i1 ≤ LN.length := by omega
        clear hi0 c1 c3
        go_wp2_with fail
        refine (HBL1.out _).mono ?_
        rintro e w' ⟨rfl, rfl⟩
        clear HBL1
        by_cases hi1n : i1 < LN.length
        · have x2 : (B LN).extract (i0 + 1) i1 = B (P.methodOf (P.behind LN)) := by
            rw [extract_B, L_B, d4, hd0, c5]
          have x3 : (B LN).extract (i1 + 1) (B LN).size = B (P.behind (P.behind LN)) := by
            rw [extract_B, L_B, (d2 (by omega)).1, hd0, c5, List.drop_drop, hsz, List.take_of_length_le (by rw [List.length_drop]; exact Nat.le_refl _), show i0 + 1 + (i1 - (i0 + 1) + 1) = i1 + 1 by omega]
          have HX2 := Lib.hid x2
          have HX3 := Lib.hid x3
          have hi1i : ¬ ((B LN).size : Int) ≤ (i1 : Int) := by omega
          have hi1a : (i1 : Int) < ((B LN).size : Int) := by omega
          have hi01 : (i0 : Int) + 1 ≤ (i1 : Int) := by omega
          have hi1b : (i1 : Int) + 1 ≤ ((B LN).size : Int) := by omega
          have hi0b : (i0 : Int) ≤ ((B LN).size : Int) := by omega
          have hi1c : (i1 : Int) ≤ ((B LN).size : Int) := by omega
          rw [← x1] at HTK
          rw [← x2] at HVS
          rw [← x3] at HVR
          clear x1 x2 x3 c2 c4 c5 c6 d1 d2 d3 d4 hd0 hml hi1
          have hvse : F.visible (B (P.methodOf (P.behind LN))) = F.visible ((B LN).extract (i0 + 1) i1) := by rw [HX2.out]
          rw [hvse] at HQ3
          clear hvse
          generalize T.token (P.methodOf LN) = tk at *
          generalize F.visible ((B LN).extract (i0 + 1) i1) = vs at *
          go_wp2_with fail
          refine (HTK.out _).mono ?_
          rintro e w' ⟨rfl, rfl⟩
          clear HTK
          cases tk
          · have HBAD : Hid (Q = .bad 50) := Lib.hid (HQ3.out.trans (if_pos (.inl rfl)))
            obtain ⟨x0, x1, x2, x3⟩ := HK1.out.cells4
            obtain ⟨f0, f1, f2, f3⟩ := HK1.out.free4
            go_wp2
            obtain ⟨z0, z1, z2, z3⟩ := (HK1.out.set4 (.string ⟨#[]⟩) (.string ⟨#[]⟩) (.int .i64 0) (.slice none 0 0)).cells4
            refine bodyPost_ret (v := .tuple #[.agg #[.string ⟨#[]⟩, .string ⟨#[]⟩, .int .i64 0, .slice none 0 0], .int .i64 0, .int .i64 50]) (by simp [results, Tryz.results72, go_sem, z0, z1, z2, z3]) rfl ?_
            exact RetReq.bad (below_four HB1.out (Nat.le_refl _) _ _ _ _) HBAD.out
          · go_wp2_with fail
            refine (HVS.out _).mono ?_
            rintro e w' ⟨rfl, rfl⟩
            clear HVS
            cases vs
            · have HBAD : Hid (Q = .bad 50) := Lib.hid (HQ3.out.trans (if_pos (.inr rfl)))
              obtain ⟨x0, x1, x2, x3⟩ := HK1.out.cells4
              obtain ⟨f0, f1, f2, f3⟩ := HK1.out.free4
              go_wp2
              obtain ⟨z0, z1, z2, z3⟩ := (HK1.out.set4 (.string ⟨#[]⟩) (.string ⟨#[]⟩) (.int .i64 0) (.slice none 0 0)).cells4
              refine bodyPost_ret (v := .tuple #[.agg #[.string ⟨#[]⟩, .string ⟨#[]⟩, .int .i64 0, .slice none 0 0], .int .i64 0, .int .i64 50]) (by simp [results, Tryz.results72, go_sem, z0, z1, z2, z3]) rfl ?_
              exact RetReq.bad (below_four HB1.out (Nat.le_refl _) _ _ _ _) HBAD.out
            · have HQ4 := Lib.hid (HQ3.out.trans (if_neg (by simp)))
              generalize P.verE (P.behind (P.behind LN)) = VE at *
              generalize P.verN (P.behind (P.behind LN)) = VN at *
              clear HQ3
              go_wp2_with fail
              refine (HVR.out _).mono ?_
              rintro e w' ⟨rfl, rfl⟩
              clear HVR
              by_cases hve : VE = 0
              · subst hve
                have HQ5 := Lib.hid (HQ4.out.trans (if_neg (by decide)))
                clear HQ4
                go_wp2_with fail
                refine (HPA.out _ HB1.out).mono ?_
                rintro e w2 ⟨A3, c3, rfl, hr2, hb2⟩
                have HK2 := Lib.hid (HK1.out.below hb2)
                have HB2 := Lib.hid (below_then HB1.out.size HB1.out hb2)
                have HR2 := Lib.hid (hr2.mono HB1.out.size)
                clear hb2 hr2 HPA HK1 HB1
                obtain ⟨FS, PE, hPP⟩ : ∃ FS PE, P.parse [] BK = (FS, PE) := ⟨_, _, rfl⟩
                have hP1 : (P.parse [] BK).1 = FS := by rw [hPP]
                have hP2 : (P.parse [] BK).2 = PE := by rw [hPP]
                rw [hPP] at HR2 HPF
                rw [hP1] at HVL
                replace HR2 : Hid (Row w2 w.heap.size 72 2 A3 FS.length c3 (fcells FS)) := HR2
                rw [hP1, hP2]
                have HQ6 : Hid (Q = if PE ≠ 0 then .bad PE else if P.hostsOf FS > 1 ∨ P.hostsOf FS < VN then .bad 40 else ⟨B (P.methodOf LN), B (P.methodOf (P.behind LN)), VN, FS, N0, 0⟩) := Lib.hid (by
                  have h := HQ5.out
                  rw [hP1, hP2] at h
                  exact h)
                clear hPP hP1 hP2 HQ5
                by_cases hpe : PE = 0
                · subst hpe
                  have HQ7 := Lib.hid (HQ6.out.trans (if_neg (by decide)))
                  clear HQ6
                  go_wp2_with fail
                  refine (HVL.out _ A3 c3 HR2.out.rd).mono ?_
                  rintro e w3 ⟨A4, c4, rfl, hr3, hb3⟩
                  have HK3 := Lib.hid (HK2.out.below hb3)
                  have HB3 := Lib.hid (below_then HB2.out.size HB2.out hb3)
                  have HR3 := Lib.hid (HR2.out.below hb3)
                  clear hb3 hr3 HVL HK2 HB2 HR2
                  have hhl : P.hostsOf FS = ((F.values FS ⟨#[104, 111, 115, 116]⟩).length : Int) := by
                    unfold P.hostsOf F.values
                    congr 2
                  rw [hhl] at HQ7
                  have hvl := F.values_le FS ⟨#[104, 111, 115, 116]⟩
                  have hfs100 : FS.length ≤ 100 := HPF.out.1
                  clear hhl
                  generalize (F.values FS ⟨#[104, 111, 115, 116]⟩).length = HN at *
                  by_cases hh : (HN : Int) > 1 ∨ (HN : Int) < VN
                  · have HBAD : Hid (Q = .bad 40) := Lib.hid (HQ7.out.trans (if_pos hh))
                    by_cases hh1 : (HN : Int) > 1
                    · have hh1b : decide ((HN : Int) > 1) = true := by simpa using hh1
                      clear hh
                      obtain ⟨x0, x1, x2, x3⟩ := HK3.out.cells4
                      obtain ⟨f0, f1, f2, f3⟩ := HK3.out.free4
                      go_wp2
                      obtain ⟨z0, z1, z2, z3⟩ := (HK3.out.set4 (.string ⟨#[]⟩) (.string ⟨#[]⟩) (.int .i64 0) (.slice none 0 0)).cells4
                      refine bodyPost_ret (v := .tuple #[.agg #[.string ⟨#[]⟩, .string ⟨#[]⟩, .int .i64 0, .slice none 0 0], .int .i64 0, .int .i64 40]) (by simp [results, Tryz.results72, go_sem, z0, z1, z2, z3]) rfl ?_
                      exact RetReq.bad (below_four HB3.out (Nat.le_refl _) _ _ _ _) HBAD.out
                    · have hh2 : (HN : Int) < VN := hh.resolve_left hh1
                      have hh1b : decide ((HN : Int) > 1) = false := by simpa using hh1
                      have hv1 : VN = 1 := by omega
                      have hh0 : HN = 0 := by omega
                      subst hv1
                      subst hh0
                      clear hh
                      obtain ⟨x0, x1, x2, x3⟩ := HK3.out.cells4
                      obtain ⟨f0, f1, f2, f3⟩ := HK3.out.free4
                      go_wp2
                      obtain ⟨z0, z1, z2, z3⟩ := (HK3.out.set4 (.string ⟨#[]⟩) (.string ⟨#[]⟩) (.int .i64 0) (.slice none 0 0)).cells4
                      refine bodyPost_ret (v := .tuple #[.agg #[.string ⟨#[]⟩, .string ⟨#[]⟩, .int .i64 0, .slice none 0 0], .int .i64 0, .int .i64 40]) (by simp [results, Tryz.results72, go_sem, z0, z1, z2, z3]) rfl ?_
                      exact RetReq.bad (below_four HB3.out (Nat.le_refl _) _ _ _ _) HBAD.out
                  · have hh1 : ¬ (HN : Int) > 1 := fun h => hh (.inl h)
                    have hh1b : decide ((HN : Int) > 1) = false := by simpa using hh1
                    have HRES := Lib.hid (HQ7.out.trans (if_neg hh))
                    have hvv : (VN == 1) = false ∨ ((VN == 1) = true ∧ ((HN : Int) == 0) = false) := by
                      rcases hvn with h | h
                      · left; rw [h]; rfl
                      · right
                        refine ⟨by rw [h]; rfl, beq_eq_false_iff_ne.2 (fun h0 => hh (.inr (by omega)))⟩
                    have hvni : 0 ≤ VN := by omega
                    clear hh hvn
                    rcases hvv with hvv | ⟨hvv, hhn⟩
                    all_goals
                      go_upto_region 23 with fail
                      have HKD : Hid (Blk w3.drew w.heap.size #[.string ⟨#[]⟩, .string ⟨#[]⟩, .int .i64 0, .slice none 0 0] 55) := Lib.hid HK3.out.drew
                      have HBD : Hid (Below w.heap.size w w3.drew) := Lib.hid HB3.out.drew
                      have HRD : Hid (Row w3.drew w.heap.size 72 2 A3 FS.length c3 (fcells FS)) := Lib.hid HR3.out.drew
                      obtain ⟨x0, x1, x2, x3⟩ := HK3.out.cells4
                      obtain ⟨f0, f1, f2, f3⟩ := HK3.out.free4
                      go_region
                      all_goals
                        go_wp2
                        have z0 := (HK3.out.set 0 (.string ((B LN).extract 0 i0))).cells4.1
                        have z1 := ((HK3.out.set 0 (.string ((B LN).extract 0 i0))).set 1 (.string ((B LN).extract (i0 + 1) i1))).cells4.2.1
                        have z2 := (((HK3.out.set 0 (.string ((B LN).extract 0 i0))).set 1 (.string ((B LN).extract (i0 + 1) i1))).set 2 (.int .i64 VN)).cells4.2.2.1
                        have z3 := ((((HK3.out.set 0 (.string ((B LN).extract 0 i0))).set 1 (.string ((B LN).extract (i0 + 1) i1))).set 2 (.int .i64 VN)).set 3 (.slice A3 FS.length c3)).cells4.2.2.2
                        refine bodyPost_ret (v := .tuple #[.agg #[.string ((B LN).extract 0 i0), .string ((B LN).extract (i0 + 1) i1), .int .i64 VN, .slice A3 FS.length c3], .int .i64 N0, .int .i64 0]) (by simp [results, Tryz.results72, go_sem, z0, z1, z2, z3]) rfl ?_
                        rw [HRES.out, HX1.out, HX2.out]
                        exact ⟨A3, c3, rfl, HRD.out.farT4 HKD.out (by decide) _ _ _ _, below_four HBD.out (Nat.le_refl _) _ _ _ _⟩
                · have hpeb : (PE != 0) = true := by simpa using hpe
                  have HBAD : Hid (Q = .bad PE) := Lib.hid (HQ6.out.trans (if_pos hpe))
                  clear HQ6
                  obtain ⟨x0, x1, x2, x3⟩ := HK2.out.cells4
                  obtain ⟨f0, f1, f2, f3⟩ := HK2.out.free4
                  go_wp2
                  obtain ⟨z0, z1, z2, z3⟩ := (HK2.out.set4 (.string ⟨#[]⟩) (.string ⟨#[]⟩) (.int .i64 0) (.slice none 0 0)).cells4
                  refine bodyPost_ret (v := .tuple #[.agg #[.string ⟨#[]⟩, .string ⟨#[]⟩, .int .i64 0, .slice none 0 0], .int .i64 0, .int .i64 PE]) (by simp [results, Tryz.results72, go_sem, z0, z1, z2, z3]) rfl ?_
                  exact RetReq.bad (below_four HB2.out (Nat.le_refl _) _ _ _ _) HBAD.out
              · have hveb : (VE != 0) = true := by simpa using hve
                have HBAD : Hid (Q = .bad VE) := Lib.hid (HQ4.out.trans (if_pos hve))
                clear HQ4
                obtain ⟨x0, x1, x2, x3⟩ := HK1.out.cells4
                obtain ⟨f0, f1, f2, f3⟩ := HK1.out.free4
                go_wp2
                obtain ⟨z0, z1, z2, z3⟩ := (HK1.out.set4 (.string ⟨#[]⟩) (.string ⟨#[]⟩) (.int .i64 0) (.slice none 0 0)).cells4
                refine bodyPost_ret (v := .tuple #[.agg #[.string ⟨#[]⟩, .string ⟨#[]⟩, .int .i64 0, .slice none 0 0], .int .i64 0, .int .i64 VE]) (by simp [results, Tryz.results72, go_sem, z0, z1, z2, z3]) rfl ?_
                exact RetReq.bad (below_four HB1.out (Nat.le_refl _) _ _ _ _) HBAD.out
        · have hi1i : ((B LN).size : Int) ≤ (i1 : Int) := by omega
          have hbb : P.behind (P.behind LN) = [] := d3 (by omega)
          have HBAD : Hid (Q = .bad 50) := Lib.hid (by
            rw [HQ3.out, hbb, verE_nil]
            split
            · rfl
            · rw [if_pos (by decide)])
          clear HQ3 hbb c2 c4 c5 c6 d1 d2 d3 d4 hd0 hml hi1 x1 HX1
          obtain ⟨x0, x1, x2, x3⟩ := HK1.out.cells4
          obtain ⟨f0, f1, f2, f3⟩ := HK1.out.free4
          go_wp2
          obtain ⟨z0, z1, z2, z3⟩ := (HK1.out.set4 (.string ⟨#[]⟩) (.string ⟨#[]⟩) (.int .i64 0) (.slice none 0 0)).cells4
          refine bodyPost_ret (v := .tuple #[.agg #[.string ⟨#[]⟩, .string ⟨#[]⟩, .int .i64 0, .slice none 0 0], .int .i64 0, .int .i64 50]) (by simp [results, Tryz.results72, go_sem, z0, z1, z2, z3]) rfl ?_
          exact RetReq.bad (below_four HB1.out (Nat.le_refl _) _ _ _ _) HBAD.out
      · have hi0i : ((B LN).size : Int) ≤ (i0 : Int) := by omega
        have hbb : P.behind LN = [] := c3 hi0l
        have HBAD : Hid (Q = .bad 50) := Lib.hid (by
          rw [HQ3.out, hbb, if_pos (.inr visible_nil)])
        clear HQ3 hbb c1 c2 c3 c4 d1 d2 d3 d4 hi0
        obtain ⟨x0, x1, x2, x3⟩ := HK1.out.cells4
        obtain ⟨f0, f1, f2, f3⟩ := HK1.out.free4
        go_wp2
        obtain ⟨z0, z1, z2, z3⟩ := (HK1.out.set4 (.string ⟨#[]⟩) (.string ⟨#[]⟩) (.int .i64 0) (.slice none 0 0)).cells4
        refine bodyPost_ret (v := .tuple #[.agg #[.string ⟨#[]⟩, .string ⟨#[]⟩, .int .i64 0, .slice none 0 0], .int .i64 0, .int .i64 50]) (by simp [results, Tryz.results72, go_sem, z0, z1, z2, z3]) rfl ?_
        exact RetReq.bad (below_four HB1.out (Nat.le_refl _) _ _ _ _) HBAD.out
end Go.Proofs.YtnmldbcgpfglkaaGreatDoor
