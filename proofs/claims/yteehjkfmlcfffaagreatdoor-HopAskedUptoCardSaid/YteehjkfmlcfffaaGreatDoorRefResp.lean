/- The walk of the document's Response. Conditions: a row of at most 2^30 bytes. -/
import Derived.Test.YteehjkfmlcfffaaGreatDoorHeadResp
import Derived.Test.YteehjkfmlcfffaaGreatDoorHeadRA
import Derived.Test.YteehjkfmlcfffaaGreatDoorRespP
namespace Go.Proofs.YteehjkfmlcfffaaGreatDoor
open Go.RowKit

theorem getD_B (l : List UInt8) (k : Nat) (h : k < (B l).size) : (B l)[k]'h = l.getD k 0 := by
  have h' : k < l.length := by rw [B_size] at h; exact h
  rw [L_at, List.getD_eq_getElem?_getD, List.getElem?_eq_getElem h']
  rfl
theorem not_dig {x : UInt8} (h : P.dig x = false) : x.toNat < 48 ∨ (48 ≤ x.toNat ∧ 57 < x.toNat) := by
  unfold P.dig at h
  rw [Bool.and_eq_false_iff, decide_eq_false_iff_not, decide_eq_false_iff_not] at h
  omega
theorem is_dig {x : UInt8} (h : P.dig x = true) : 48 ≤ x.toNat ∧ x.toNat ≤ 57 := by
  unfold P.dig at h
  rwa [Bool.and_eq_true, decide_eq_true_eq, decide_eq_true_eq] at h

set_option maxRecDepth 100000 in
set_option maxHeartbeats 8000000 in
theorem refHResponse_any (A : Option Addr) (n c : Nat) (bs : List UInt8) (w : World) (hnm : n ≤ 1073741824) (hnc : n ≤ c) (hx : Rd w A n 1 (bcells bs)) :
    Calls Tryz.prog 68 #[.slice A n c] w (RetResp w (P.response bs)) := by
  have hll := rd_len hx
  have HX := Lib.hid hx
  have HEN := Lib.hid (fun (u : World) (hu : Below w.heap.size w u) => refEnd_any A n c 0 bs u hnm (Nat.zero_le _) (hx.below hu))
  have HK0 := Lib.hid (Blk.new w #[.int .i64 0, .string ⟨#[]⟩, .int .i64 0, .slice none 0 0] 27)
  have HB0 := Lib.hid ((Below.refl w.heap.size w).alloc (Nat.le_refl _) (.cells #[.int .i64 0, .string ⟨#[]⟩, .int .i64 0, .slice none 0 0] 27))
  obtain ⟨Q, hQ⟩ : ∃ Q, P.response bs = Q := ⟨_, rfl⟩
  rw [hQ]
  have HQ : Hid (Q = if P.hE bs 0 ≠ 0 ∨ P.hN bs 0 = 0 then P.RS.bad (P.hE bs 0) else P.respOf (P.hLine bs 0) (P.hBlock bs 0) (P.hN bs 0)) := Lib.hid (by rw [← hQ]; rfl)
  have HLLE := Lib.hid (P.hLine_le bs 0)
  have HLL := Lib.hid hll
  clear hQ hx hll
  have HF := Lib.hid (P.hText_facts bs 0)
  have hge : -1 ≤ P.hIdx bs 0 := Lib.index_ge _ _
  have HNE : Hid ((P.hN bs 0 = if P.hIdx bs 0 < 0 ∨ 8192 < (0 : Nat) + P.hIdx bs 0 + 4 then 0 else (0 : Nat) + P.hIdx bs 0 + 4) ∧ P.hText bs 0 = (bs.drop 0).take (P.hIdx bs 0 + 2).toNat ∧ P.hLine bs 0 = (P.hText bs 0).take (Lib.index (P.hText bs 0) P.crlf).toNat ∧ P.hBlock bs 0 = (P.hText bs 0).drop ((Lib.index (P.hText bs 0) P.crlf).toNat + 2)) := Lib.hid ⟨rfl, rfl, rfl, rfl⟩
  unfold RetEnd at HEN
  generalize P.hE bs 0 = E0 at *
  generalize P.hN bs 0 = N0 at *
  generalize P.hLine bs 0 = LN at *
  generalize P.hBlock bs 0 = BK at *
  generalize P.hText bs 0 = TX at *
  generalize P.hIdx bs 0 = ix at *
  go_enter Tryz.func68, Tryz.ntmps68
  go_wp2_with fail
  generalize w.alloc (.cells #[.int .i64 0, .string ⟨#[]⟩, .int .i64 0, .slice none 0 0] 27) = w0 at *
  refine (HEN.out _ HB0.out).mono ?_
  rintro e w' ⟨rfl, rfl⟩
  clear HEN
  by_cases hbad : E0 ≠ 0 ∨ N0 = 0
  · have HBAD : Hid (Q = .bad E0) := Lib.hid (HQ.out.trans (if_pos hbad))
    by_cases hE : E0 = 0
    · have hN : N0 = 0 := hbad.resolve_left (fun h => h hE)
      subst hE
      subst hN
      clear hbad HQ HNE HF
      obtain ⟨x0, x1, x2, x3⟩ := HK0.out.cells4
      obtain ⟨f0, f1, f2, f3⟩ := HK0.out.free4
      go_wp2
      obtain ⟨z0, z1, z2, z3⟩ := (HK0.out.set4 (.int .i64 0) (.string ⟨#[]⟩) (.int .i64 0) (.slice none 0 0)).cells4
      refine bodyPost_ret (v := .tuple #[.agg #[.int .i64 0, .string ⟨#[]⟩, .int .i64 0, .slice none 0 0], .int .i64 0, .int .i64 0]) (by simp [results, Tryz.results68, go_sem, z0, z1, z2, z3]) rfl ?_
      exact RetResp.bad (below_four HB0.out (Nat.le_refl _) _ _ _ _) HBAD.out
    · have hEb : (E0 != 0) = true := by simpa using hE
      clear hbad HQ HNE HF
      obtain ⟨x0, x1, x2, x3⟩ := HK0.out.cells4
      obtain ⟨f0, f1, f2, f3⟩ := HK0.out.free4
      go_wp2
      obtain ⟨z0, z1, z2, z3⟩ := (HK0.out.set4 (.int .i64 0) (.string ⟨#[]⟩) (.int .i64 0) (.slice none 0 0)).cells4
      refine bodyPost_ret (v := .tuple #[.agg #[.int .i64 0, .string ⟨#[]⟩, .int .i64 0, .slice none 0 0], .int .i64 0, .int .i64 E0]) (by simp [results, Tryz.results68, go_sem, z0, z1, z2, z3]) rfl ?_
      exact RetResp.bad (below_four HB0.out (Nat.le_refl _) _ _ _ _) HBAD.out
  · have HQ2 := Lib.hid (HQ.out.trans (if_neg hbad))
    have hE : E0 = 0 := by
      rcases (by omega : E0 = 0 ∨ E0 ≠ 0) with h | h
      · exact h
      · exact absurd (.inl h) hbad
    have hN : ¬ N0 = 0 := fun h => hbad (.inr h)
    subst hE
    have hNb : (N0 == 0) = false := by simpa using hN
    have hcond : ¬ (ix < 0 ∨ 8192 < ((0 : Nat) : Int) + ix + 4) := fun h => hN (HNE.out.1.trans (if_pos h))
    have hpos : 0 ≤ ix := by omega
    obtain ⟨i, j, hi, hroom, hj, hji, hlen⟩ := HF.out hpos
    subst hi
    rw [HLL.out] at hroom
    have hN0 : N0 = ((0 : Nat) : Int) + (i : Int) + 4 := HNE.out.1.trans (if_neg hcond)
    have hTX : TX = bs.take (i + 2) := by rw [HNE.out.2.1, List.drop_zero]; congr 1
    have hLN : LN = TX.take j := by rw [HNE.out.2.2.1, hj, Int.toNat_natCast]
    have hBK : BK = TX.drop (j + 2) := by rw [HNE.out.2.2.2, hj, Int.toNat_natCast]
    obtain ⟨b, o, rfl, _⟩ := HX.out.lt (by omega)
    have HRT : Hid (∀ u, Below w.heap.size w u → Rd u (some ⟨b, o, none⟩) (i + 2) 1 (bcells TX)) := Lib.hid (fun u hu => by
      rw [hTX]
      exact (HX.out.upto (show i + 2 ≤ n by omega)).below hu)
    have e6 : N0 - 2 = ((i + 2 : Nat) : Int) := by omega
    have hx6b : N0 ≤ 9000000000 := by omega
    have hx6a : 2 ≤ N0 := by omega
    have hMc : ((i + 2 : Nat) : Int) ≤ (c : Int) := by omega
    have HSPL := Lib.hid (fun (u : World) (hu : Below w.heap.size w u) => refSplit_any b o (i + 2) c TX j u (by omega) (by omega) (by omega) (HRT.out u hu) hj)
    have HBKR : Hid (∀ u, Below w.heap.size w u → Rd u (some ⟨b, o + (j + 2), none⟩) (i + 2 - (j + 2)) 1 (bcells BK)) := Lib.hid (fun u hu => by
      rw [hBK]
      exact (HRT.out u hu).from_ (by omega))
    have HLN := Lib.hid hLN
    have hn2 : i + 2 - (j + 2) ≤ 1073741824 := by omega
    have hn2c : i + 2 - (j + 2) ≤ c - (j + 2) := by omega
    have hlle : LN.length ≤ 1073741824 := by have h1 := HLLE.out; rw [HLL.out] at h1; omega
    obtain ⟨M, hM⟩ : ∃ M : Nat, M = i + 2 := ⟨_, rfl⟩
    rw [← hM] at e6 hMc HSPL HBKR hn2 hn2c
    have hMn : M ≤ n := by omega
    clear hN0 hTX hLN hBK hM hj hlen hcond hroom hbad HQ HNE HF HRT hpos hge hji
    have HVR : Hid (∀ u, Calls Tryz.prog 142 #[.string (B (LN.take 8))] u fun e w' => e = .returned (.tuple #[.int .i64 (P.verN (LN.take 8)), .int .i64 (P.verE (LN.take 8))]) ∧ u = w') := Lib.hid (fun u => refVersion_any (B (LN.take 8)) u)
    have HTX : Hid (∀ u, Calls Tryz.prog 141 #[.string (B (LN.drop 13))] u (RetP u (.bool (F.text (B (LN.drop 13)))))) := Lib.hid (fun u => refTexts_any (B (LN.drop 13)) u (by rw [B_size, List.length_drop]; omega))
    have HPA := Lib.hid (fun u (hu : Below w.heap.size w u) => refParse_any (some ⟨b, o + (j + 2), none⟩) (M - (j + 2)) (c - (j + 2)) BK u (by omega) hn2c (HBKR.out u hu))
    have HQ3 := Lib.hid (HQ2.out.trans (P.resp_eq LN BK N0))
    have hsz : (B LN).size = LN.length := B_size LN
    have x8 : (B LN).extract 0 8 = B (LN.take 8) := by rw [extract_B, L_B]; rfl
    have x13 : (B LN).extract 13 (B LN).size = B (LN.drop 13) := by rw [extract_B, L_B, hsz, List.take_of_length_le (by rw [List.length_drop]; exact Nat.le_refl _)]
    have HX8 := Lib.hid x8
    have HX13 := Lib.hid x13
    rw [← x8] at HVR
    rw [← x13] at HTX
    clear HQ2 HLLE HLL x8 x13 HX
    go_wp2_with fail
    refine (HSPL.out _ HB0.out).mono ?_
    rintro e w1 ⟨rfl, hb1⟩
    rw [← HLN.out]
    have HK1 := Lib.hid (HK0.out.below hb1)
    have HB1 := Lib.hid (below_then HB0.out.size HB0.out hb1)
    clear hb1 HSPL HK0 HB0 HLN
    have HBADQ : Hid (∀ v : Bool, v = true → (LN.length < 12 ∨ LN.getD 8 0 ≠ 32) → Q = .bad 50) := Lib.hid (fun _ _ h => HQ3.out.trans (if_pos h))
    by_cases h12 : LN.length < 12
    · have HBAD : Hid (Q = .bad 50) := Lib.hid (HQ3.out.trans (if_pos (.inl h12)))
      have h12i : ((B LN).size : Int) < 12 := by omega
      clear HQ3 HTX HVR HPA HBADQ
      obtain ⟨x0, x1, x2, x3⟩ := HK1.out.cells4
      obtain ⟨f0, f1, f2, f3⟩ := HK1.out.free4
      go_wp2
      obtain ⟨z0, z1, z2, z3⟩ := (HK1.out.set4 (.int .i64 0) (.string ⟨#[]⟩) (.int .i64 0) (.slice none 0 0)).cells4
      refine bodyPost_ret (v := .tuple #[.agg #[.int .i64 0, .string ⟨#[]⟩, .int .i64 0, .slice none 0 0], .int .i64 0, .int .i64 50]) (by simp [results, Tryz.results68, go_sem, z0, z1, z2, z3]) rfl ?_
      exact RetResp.bad (below_four HB1.out (Nat.le_refl _) _ _ _ _) HBAD.out
    · have h12i : ¬ ((B LN).size : Int) < 12 := by omega
      have h8i : (8 : Int) < ((B LN).size : Int) := by omega
      have h8n : 8 < (B LN).size := by omega
      have g8 := getD_B LN 8 h8n
      by_cases h8 : LN.getD 8 0 = 32
      · have t8 : ((((B LN)[8]'h8n).toNat : Int) != 32) = false := by rw [g8, h8]; rfl
        have HQ4 := Lib.hid (HQ3.out.trans (if_neg (by rintro (h | h); exact h12 h; exact h h8)))
        clear HQ3 HBADQ g8
        go_wp2_with fail
        have hd3 : ((LN.drop 9).take 3).length = 3 := by rw [List.length_take, List.length_drop]; omega
        have hat : ∀ k, k < 3 → ∃ h : 9 + k < (B LN).size, ∃ h2 : k < ((LN.drop 9).take 3).length, (B LN)[9 + k]'h = ((LN.drop 9).take 3)[k]'h2 := fun k hk => by
          refine ⟨by omega, by omega, ?_⟩
          rw [L_at]
          simp only [List.getElem_take, List.getElem_drop]
          rfl
        have HAT := Lib.hid hat
        have HD3 := Lib.hid hd3
        clear hat hd3
        generalize (LN.drop 9).take 3 = D3 at *
        go_loop [9, 10] (fun s9 i10 => ∃ k : Nat, k ≤ 3 ∧ i10 = .int .i64 (9 + (k : Int)) ∧ s9 = .int .i64 (P.stat (D3.take k)) ∧ ∀ x ∈ D3.take k, P.dig x = true) (fun _ i10 => 12 - (intOf i10).toNat)
        case atStart => exact ⟨0, Nat.zero_le _, rfl, rfl, by simp⟩
        case round =>
          obtain ⟨k, hk, rfl, rfl, hdg⟩ := hrel
          have hst := P.stat_three (l := D3.take k) (by rw [List.length_take]; omega) hdg
          by_cases hk3 : k < 3
          · obtain ⟨h9, hkd, heq⟩ := HAT.out k hk3
            have h9i : (9 : Int) + (k : Int) < ((B LN).size : Int) := by omega
            have h9j : (9 : Int) + (k : Int) < 12 := by omega
            have hsn : D3.take (k + 1) = D3.take k ++ [D3[k]'hkd] := List.take_succ_eq_append_getElem hkd
            have hlt := (D3[k]'hkd).toNat_lt
            rcases tf (P.dig (D3[k]'hkd)) with hd | hd
            · have hdd := is_dig hd
              have HST : Hid (P.stat (D3.take (k + 1)) = P.stat (D3.take k) * 10 + (((D3[k]'hkd).toNat : Int) - 48)) := Lib.hid (by rw [hsn, P.stat_snoc])
              have HDG : Hid (∀ x ∈ D3.take (k + 1), P.dig x = true) := Lib.hid (fun x hx => by
                rw [hsn, List.mem_append, List.mem_singleton] at hx
                rcases hx with hx | rfl
                · exact hdg x hx
                · exact hd)
              rw [← heq] at hdd HST hlt
              have t1 : ¬ (((B LN)[9 + k]'h9).toNat : Int) < 48 := by omega
              have t2 : ¬ (57 : Int) < (((B LN)[9 + k]'h9).toNat : Int) := by omega
              clear hsn hd hdg heq hkd
              generalize P.stat (D3.take k) = S at *
              go_wp2
              go_round
              case rel => exact ⟨k + 1, by omega, by go_num, by rw [HST.out]; congr 1; omega, HDG.out⟩
              case measure => simp [intOf]; omega
            · have HBAD : Hid (Q = .bad 50) := Lib.hid (by
                refine HQ4.out.trans (if_pos ?_)
                rw [List.all_eq_false]
                exact ⟨_, List.getElem_mem hkd, by rw [hd]; decide⟩)
              have hnd := not_dig hd
              rw [← heq] at hnd
              obtain ⟨x0, x1, x2, x3⟩ := HK1.out.cells4
              obtain ⟨f0, f1, f2, f3⟩ := HK1.out.free4
              clear hsn hd hdg heq hlt HQ4 HTX HVR HPA
              generalize P.stat (D3.take k) = S at *
              rcases hnd with h | ⟨h, h'⟩
              · have t1 : (((B LN)[9 + k]'h9).toNat : Int) < 48 := by omega
                go_wp2
                obtain ⟨z0, z1, z2, z3⟩ := (HK1.out.set4 (.int .i64 0) (.string ⟨#[]⟩) (.int .i64 0) (.slice none 0 0)).cells4
                refine bodyPost_ret (v := .tuple #[.agg #[.int .i64 0, .string ⟨#[]⟩, .int .i64 0, .slice none 0 0], .int .i64 0, .int .i64 50]) (by simp [results, Tryz.results68, go_sem, z0, z1, z2, z3]) rfl ?_
                exact RetResp.bad (below_four HB1.out (Nat.le_refl _) _ _ _ _) HBAD.out
              · have t1 : ¬ (((B LN)[9 + k]'h9).toNat : Int) < 48 := by omega
                have t2 : (57 : Int) < (((B LN)[9 + k]'h9).toNat : Int) := by omega
                go_wp2
                obtain ⟨z0, z1, z2, z3⟩ := (HK1.out.set4 (.int .i64 0) (.string ⟨#[]⟩) (.int .i64 0) (.slice none 0 0)).cells4
                refine bodyPost_ret (v := .tuple #[.agg #[.int .i64 0, .string ⟨#[]⟩, .int .i64 0, .slice none 0 0], .int .i64 0, .int .i64 50]) (by simp [results, Tryz.results68, go_sem, z0, z1, z2, z3]) rfl ?_
                exact RetResp.bad (below_four HB1.out (Nat.le_refl _) _ _ _ _) HBAD.out
          · obtain rfl : k = 3 := by omega
            have ht3 : D3.take 3 = D3 := List.take_of_length_le (by rw [HD3.out]; exact Nat.le_refl _)
            rw [ht3] at hdg hst ⊢
            rw [show (9 : Int) + ((3 : Nat) : Int) = 12 from rfl]
            have hall : D3.all P.dig = true := by rw [List.all_eq_true]; exact hdg
            have HQ5 := Lib.hid (HQ4.out.trans (if_neg (by rw [hall]; exact Bool.noConfusion)))
            clear HQ4 hall hdg ht3 HAT HD3 t8
            generalize P.stat D3 = S at *
            have HVE : Hid (P.verE (LN.take 8) = P.verE (LN.take 8)) := Lib.hid rfl
            clear HVE
            by_cases hlen : 12 < LN.length
            · have hleni : (12 : Int) < ((B LN).size : Int) := by omega
              have h12n : 12 < (B LN).size := by omega
              have h13i : (13 : Int) ≤ ((B LN).size : Int) := by omega
              have g12 := getD_B LN 12 h12n
              by_cases h32 : LN.getD 12 0 = 32
              · have t12 : ((((B LN)[12]'h12n).toNat : Int) != 32) = false := by rw [g12, h32]; rfl
                have htxe : F.text (B (LN.drop 13)) = F.text ((B LN).extract 13 (B LN).size) := by rw [HX13.out]
                have hrse : B (LN.drop 13) = (B LN).extract 13 (B LN).size := HX13.out.symm
                have HQ5b : Hid (Q = if 12 < LN.length ∧ (LN.getD 12 0 ≠ 32 ∨ F.text ((B LN).extract 13 (B LN).size) = false) then .bad 50
                    else if P.verE (LN.take 8) ≠ 0 then .bad (P.verE (LN.take 8))
                    else if S < 100 ∨ 599 < S then .bad 53
                    else if (P.parse [] BK).2 ≠ 0 then .bad (P.parse [] BK).2
                    else ⟨S, (B LN).extract 13 (B LN).size, P.verN (LN.take 8), (P.parse [] BK).1, N0, 0⟩) := Lib.hid (by rw [← htxe, ← hrse]; exact HQ5.out)
                clear HQ5 htxe hrse HX13 g12
                generalize F.text ((B LN).extract 13 (B LN).size) = tx at *
                generalize P.verE (LN.take 8) = VE at *
                generalize P.verN (LN.take 8) = VN at *
                go_wp2_with fail
                refine (HTX.out _).mono ?_
                rintro e w' ⟨rfl, rfl⟩
                clear HTX
                cases tx
                · have HBAD : Hid (Q = .bad 50) := Lib.hid (HQ5b.out.trans (if_pos ⟨hlen, .inr rfl⟩))
                  clear HQ5b HVR HPA
                  obtain ⟨x0, x1, x2, x3⟩ := HK1.out.cells4
                  obtain ⟨f0, f1, f2, f3⟩ := HK1.out.free4
                  go_wp2
                  obtain ⟨z0, z1, z2, z3⟩ := (HK1.out.set4 (.int .i64 0) (.string ⟨#[]⟩) (.int .i64 0) (.slice none 0 0)).cells4
                  refine bodyPost_ret (v := .tuple #[.agg #[.int .i64 0, .string ⟨#[]⟩, .int .i64 0, .slice none 0 0], .int .i64 0, .int .i64 50]) (by simp [results, Tryz.results68, go_sem, z0, z1, z2, z3]) rfl ?_
                  exact RetResp.bad (below_four HB1.out (Nat.le_refl _) _ _ _ _) HBAD.out
                · have HQ6 := Lib.hid (HQ5b.out.trans (if_neg (by rintro ⟨_, h | h⟩; exact h h32; exact Bool.noConfusion h)))
                  clear HQ5b t12
                  go_wp2_with fail
                  refine (HVR.out _).mono ?_
                  rintro e w' ⟨rfl, rfl⟩
                  clear HVR
                  by_cases hve : VE = 0
                  · subst hve
                    have HQ7 := Lib.hid (HQ6.out.trans (if_neg (fun h => h rfl)))
                    clear HQ6
                    by_cases hs1 : S < 100
                    · have HBAD : Hid (Q = .bad 53) := Lib.hid (HQ7.out.trans (if_pos (.inl hs1)))
                      have hs1b : decide (S < 100) = true := by simpa using hs1
                      clear HQ7 HPA
                      obtain ⟨x0, x1, x2, x3⟩ := HK1.out.cells4
                      obtain ⟨f0, f1, f2, f3⟩ := HK1.out.free4
                      go_wp2
                      obtain ⟨z0, z1, z2, z3⟩ := (HK1.out.set4 (.int .i64 0) (.string ⟨#[]⟩) (.int .i64 0) (.slice none 0 0)).cells4
                      refine bodyPost_ret (v := .tuple #[.agg #[.int .i64 0, .string ⟨#[]⟩, .int .i64 0, .slice none 0 0], .int .i64 0, .int .i64 53]) (by simp [results, Tryz.results68, go_sem, z0, z1, z2, z3]) rfl ?_
                      exact RetResp.bad (below_four HB1.out (Nat.le_refl _) _ _ _ _) HBAD.out
                    · have hs1b : decide (S < 100) = false := by simpa using hs1
                      by_cases hs2 : 599 < S
                      · have HBAD : Hid (Q = .bad 53) := Lib.hid (HQ7.out.trans (if_pos (.inr hs2)))
                        have hs2b : decide (S > 599) = true := by simpa using hs2
                        clear HQ7 HPA
                        obtain ⟨x0, x1, x2, x3⟩ := HK1.out.cells4
                        obtain ⟨f0, f1, f2, f3⟩ := HK1.out.free4
                        go_wp2
                        obtain ⟨z0, z1, z2, z3⟩ := (HK1.out.set4 (.int .i64 0) (.string ⟨#[]⟩) (.int .i64 0) (.slice none 0 0)).cells4
                        refine bodyPost_ret (v := .tuple #[.agg #[.int .i64 0, .string ⟨#[]⟩, .int .i64 0, .slice none 0 0], .int .i64 0, .int .i64 53]) (by simp [results, Tryz.results68, go_sem, z0, z1, z2, z3]) rfl ?_
                        exact RetResp.bad (below_four HB1.out (Nat.le_refl _) _ _ _ _) HBAD.out
                      · have hs2b : decide (S > 599) = false := by simpa using hs2
                        have HQ8 := Lib.hid (HQ7.out.trans (if_neg (by rintro (h | h); exact hs1 h; exact hs2 h)))
                        clear HQ7
                        go_wp2_with fail
                        refine (HPA.out _ HB1.out).mono ?_
                        rintro e w3 ⟨A3, c3, rfl, hr3, hb3⟩
                        have HK3 := Lib.hid (HK1.out.below hb3)
                        have HB3 := Lib.hid (below_then HB1.out.size HB1.out hb3)
                        have HR3 := Lib.hid (hr3.mono HB1.out.size)
                        clear hb3 hr3 HPA HK1 HB1
                        obtain ⟨FS, PE, hPP⟩ : ∃ FS PE, P.parse [] BK = (FS, PE) := ⟨_, _, rfl⟩
                        rw [hPP] at HR3
                        replace HR3 : Hid (Row w3 w.heap.size 148 2 A3 FS.length c3 (fcells FS)) := HR3
                        rw [show (P.parse [] BK).1 = FS by rw [hPP], show (P.parse [] BK).2 = PE by rw [hPP]]
                        have HQ9 : Hid (Q = if PE ≠ 0 then .bad PE else ⟨S, ((B LN).extract 13 (B LN).size), VN, FS, N0, 0⟩) := Lib.hid (by
                          have h := HQ8.out
                          rw [show (P.parse [] BK).1 = FS by rw [hPP], show (P.parse [] BK).2 = PE by rw [hPP]] at h
                          exact h)
                        clear hPP HQ8
                        obtain ⟨x0, x1, x2, x3⟩ := HK3.out.cells4
                        obtain ⟨f0, f1, f2, f3⟩ := HK3.out.free4
                        by_cases hpe : PE = 0
                        · subst hpe
                          have HRES := Lib.hid (HQ9.out.trans (if_neg (fun h => h rfl)))
                          clear HQ9
                          go_wp2
                          obtain ⟨z0, z1, z2, z3⟩ := (HK3.out.set4 (.int .i64 S) (.string ((B LN).extract 13 (B LN).size)) (.int .i64 VN) (.slice A3 FS.length c3)).cells4
                          rw [hsz] at z0 z1 z2 z3
                          refine bodyPost_ret (v := .tuple #[.agg #[.int .i64 S, .string ((B LN).extract 13 (B LN).size), .int .i64 VN, .slice A3 FS.length c3], .int .i64 N0, .int .i64 0]) (by simp [results, Tryz.results68, go_sem, z0, z1, z2, z3, hsz]) rfl ?_
                          rw [HRES.out]
                          exact ⟨A3, c3, rfl, HR3.out.farT4 HK3.out (by decide) _ _ _ _, below_four HB3.out (Nat.le_refl _) _ _ _ _⟩
                        · have hpeb : (PE != 0) = true := by simpa using hpe
                          have HBAD : Hid (Q = .bad PE) := Lib.hid (HQ9.out.trans (if_pos hpe))
                          clear HQ9
                          go_wp2
                          obtain ⟨z0, z1, z2, z3⟩ := (HK3.out.set4 (.int .i64 0) (.string ⟨#[]⟩) (.int .i64 0) (.slice none 0 0)).cells4
                          refine bodyPost_ret (v := .tuple #[.agg #[.int .i64 0, .string ⟨#[]⟩, .int .i64 0, .slice none 0 0], .int .i64 0, .int .i64 PE]) (by simp [results, Tryz.results68, go_sem, z0, z1, z2, z3]) rfl ?_
                          exact RetResp.bad (below_four HB3.out (Nat.le_refl _) _ _ _ _) HBAD.out
                  · have hveb : (VE != 0) = true := by simpa using hve
                    have HBAD : Hid (Q = .bad VE) := Lib.hid (HQ6.out.trans (if_pos hve))
                    clear HQ6 HPA
                    obtain ⟨x0, x1, x2, x3⟩ := HK1.out.cells4
                    obtain ⟨f0, f1, f2, f3⟩ := HK1.out.free4
                    go_wp2
                    obtain ⟨z0, z1, z2, z3⟩ := (HK1.out.set4 (.int .i64 0) (.string ⟨#[]⟩) (.int .i64 0) (.slice none 0 0)).cells4
                    refine bodyPost_ret (v := .tuple #[.agg #[.int .i64 0, .string ⟨#[]⟩, .int .i64 0, .slice none 0 0], .int .i64 0, .int .i64 VE]) (by simp [results, Tryz.results68, go_sem, z0, z1, z2, z3]) rfl ?_
                    exact RetResp.bad (below_four HB1.out (Nat.le_refl _) _ _ _ _) HBAD.out
              · have t12 : ((((B LN)[12]'h12n).toNat : Int) != 32) = true := by rw [g12]; exact congrArg (fun b => !b) (beqI_false (y := 32) h32)
                have HBAD : Hid (Q = .bad 50) := Lib.hid (HQ5.out.trans (if_pos ⟨hlen, .inl h32⟩))
                clear HQ5 HTX HVR HPA g12
                obtain ⟨x0, x1, x2, x3⟩ := HK1.out.cells4
                obtain ⟨f0, f1, f2, f3⟩ := HK1.out.free4
                go_wp2
                obtain ⟨z0, z1, z2, z3⟩ := (HK1.out.set4 (.int .i64 0) (.string ⟨#[]⟩) (.int .i64 0) (.slice none 0 0)).cells4
                refine bodyPost_ret (v := .tuple #[.agg #[.int .i64 0, .string ⟨#[]⟩, .int .i64 0, .slice none 0 0], .int .i64 0, .int .i64 50]) (by simp [results, Tryz.results68, go_sem, z0, z1, z2, z3]) rfl ?_
                exact RetResp.bad (below_four HB1.out (Nat.le_refl _) _ _ _ _) HBAD.out
            · have hleni : ¬ (12 : Int) < ((B LN).size : Int) := by omega
              have hdrop : B (LN.drop 13) = ⟨#[]⟩ := by rw [List.drop_of_length_le (by omega)]; rfl
              have HQ6 : Hid (Q = if P.verE (LN.take 8) ≠ 0 then .bad (P.verE (LN.take 8))
                  else if S < 100 ∨ 599 < S then .bad 53
                  else if (P.parse [] BK).2 ≠ 0 then .bad (P.parse [] BK).2
                  else ⟨S, ⟨#[]⟩, P.verN (LN.take 8), (P.parse [] BK).1, N0, 0⟩) := Lib.hid (by rw [← hdrop]; exact HQ5.out.trans (if_neg (fun h => hlen h.1)))
              clear HQ5 HTX HX13 hdrop
              generalize P.verE (LN.take 8) = VE at *
              generalize P.verN (LN.take 8) = VN at *
              go_wp2_with fail
              refine (HVR.out _).mono ?_
              rintro e w' ⟨rfl, rfl⟩
              clear HVR
              by_cases hve : VE = 0
              · subst hve
                have HQ7 := Lib.hid (HQ6.out.trans (if_neg (fun h => h rfl)))
                clear HQ6
                by_cases hs1 : S < 100
                · have HBAD : Hid (Q = .bad 53) := Lib.hid (HQ7.out.trans (if_pos (.inl hs1)))
                  have hs1b : decide (S < 100) = true := by simpa using hs1
                  clear HQ7 HPA
                  obtain ⟨x0, x1, x2, x3⟩ := HK1.out.cells4
                  obtain ⟨f0, f1, f2, f3⟩ := HK1.out.free4
                  go_wp2
                  obtain ⟨z0, z1, z2, z3⟩ := (HK1.out.set4 (.int .i64 0) (.string ⟨#[]⟩) (.int .i64 0) (.slice none 0 0)).cells4
                  refine bodyPost_ret (v := .tuple #[.agg #[.int .i64 0, .string ⟨#[]⟩, .int .i64 0, .slice none 0 0], .int .i64 0, .int .i64 53]) (by simp [results, Tryz.results68, go_sem, z0, z1, z2, z3]) rfl ?_
                  exact RetResp.bad (below_four HB1.out (Nat.le_refl _) _ _ _ _) HBAD.out
                · have hs1b : decide (S < 100) = false := by simpa using hs1
                  by_cases hs2 : 599 < S
                  · have HBAD : Hid (Q = .bad 53) := Lib.hid (HQ7.out.trans (if_pos (.inr hs2)))
                    have hs2b : decide (S > 599) = true := by simpa using hs2
                    clear HQ7 HPA
                    obtain ⟨x0, x1, x2, x3⟩ := HK1.out.cells4
                    obtain ⟨f0, f1, f2, f3⟩ := HK1.out.free4
                    go_wp2
                    obtain ⟨z0, z1, z2, z3⟩ := (HK1.out.set4 (.int .i64 0) (.string ⟨#[]⟩) (.int .i64 0) (.slice none 0 0)).cells4
                    refine bodyPost_ret (v := .tuple #[.agg #[.int .i64 0, .string ⟨#[]⟩, .int .i64 0, .slice none 0 0], .int .i64 0, .int .i64 53]) (by simp [results, Tryz.results68, go_sem, z0, z1, z2, z3]) rfl ?_
                    exact RetResp.bad (below_four HB1.out (Nat.le_refl _) _ _ _ _) HBAD.out
                  · have hs2b : decide (S > 599) = false := by simpa using hs2
                    have HQ8 := Lib.hid (HQ7.out.trans (if_neg (by rintro (h | h); exact hs1 h; exact hs2 h)))
                    clear HQ7
                    go_wp2_with fail
                    refine (HPA.out _ HB1.out).mono ?_
                    rintro e w3 ⟨A3, c3, rfl, hr3, hb3⟩
                    have HK3 := Lib.hid (HK1.out.below hb3)
                    have HB3 := Lib.hid (below_then HB1.out.size HB1.out hb3)
                    have HR3 := Lib.hid (hr3.mono HB1.out.size)
                    clear hb3 hr3 HPA HK1 HB1
                    obtain ⟨FS, PE, hPP⟩ : ∃ FS PE, P.parse [] BK = (FS, PE) := ⟨_, _, rfl⟩
                    rw [hPP] at HR3
                    replace HR3 : Hid (Row w3 w.heap.size 148 2 A3 FS.length c3 (fcells FS)) := HR3
                    rw [show (P.parse [] BK).1 = FS by rw [hPP], show (P.parse [] BK).2 = PE by rw [hPP]]
                    have HQ9 : Hid (Q = if PE ≠ 0 then .bad PE else ⟨S, ⟨#[]⟩, VN, FS, N0, 0⟩) := Lib.hid (by
                      have h := HQ8.out
                      rw [show (P.parse [] BK).1 = FS by rw [hPP], show (P.parse [] BK).2 = PE by rw [hPP]] at h
                      exact h)
                    clear hPP HQ8
                    obtain ⟨x0, x1, x2, x3⟩ := HK3.out.cells4
                    obtain ⟨f0, f1, f2, f3⟩ := HK3.out.free4
                    by_cases hpe : PE = 0
                    · subst hpe
                      have HRES := Lib.hid (HQ9.out.trans (if_neg (fun h => h rfl)))
                      clear HQ9
                      go_wp2
                      obtain ⟨z0, z1, z2, z3⟩ := (HK3.out.set4 (.int .i64 S) (.string ⟨#[]⟩) (.int .i64 VN) (.slice A3 FS.length c3)).cells4
                      refine bodyPost_ret (v := .tuple #[.agg #[.int .i64 S, .string ⟨#[]⟩, .int .i64 VN, .slice A3 FS.length c3], .int .i64 N0, .int .i64 0]) (by simp [results, Tryz.results68, go_sem, z0, z1, z2, z3]) rfl ?_
                      rw [HRES.out]
                      exact ⟨A3, c3, rfl, HR3.out.farT4 HK3.out (by decide) _ _ _ _, below_four HB3.out (Nat.le_refl _) _ _ _ _⟩
                    · have hpeb : (PE != 0) = true := by simpa using hpe
                      have HBAD : Hid (Q = .bad PE) := Lib.hid (HQ9.out.trans (if_pos hpe))
                      clear HQ9
                      go_wp2
                      obtain ⟨z0, z1, z2, z3⟩ := (HK3.out.set4 (.int .i64 0) (.string ⟨#[]⟩) (.int .i64 0) (.slice none 0 0)).cells4
                      refine bodyPost_ret (v := .tuple #[.agg #[.int .i64 0, .string ⟨#[]⟩, .int .i64 0, .slice none 0 0], .int .i64 0, .int .i64 PE]) (by simp [results, Tryz.results68, go_sem, z0, z1, z2, z3]) rfl ?_
                      exact RetResp.bad (below_four HB3.out (Nat.le_refl _) _ _ _ _) HBAD.out
              · have hveb : (VE != 0) = true := by simpa using hve
                have HBAD : Hid (Q = .bad VE) := Lib.hid (HQ6.out.trans (if_pos hve))
                clear HQ6 HPA
                obtain ⟨x0, x1, x2, x3⟩ := HK1.out.cells4
                obtain ⟨f0, f1, f2, f3⟩ := HK1.out.free4
                go_wp2
                obtain ⟨z0, z1, z2, z3⟩ := (HK1.out.set4 (.int .i64 0) (.string ⟨#[]⟩) (.int .i64 0) (.slice none 0 0)).cells4
                refine bodyPost_ret (v := .tuple #[.agg #[.int .i64 0, .string ⟨#[]⟩, .int .i64 0, .slice none 0 0], .int .i64 0, .int .i64 VE]) (by simp [results, Tryz.results68, go_sem, z0, z1, z2, z3]) rfl ?_
                exact RetResp.bad (below_four HB1.out (Nat.le_refl _) _ _ _ _) HBAD.out
      · have t8 : ((((B LN)[8]'h8n).toNat : Int) != 32) = true := by rw [g8]; exact congrArg (fun b => !b) (beqI_false (y := 32) h8)
        have HBAD : Hid (Q = .bad 50) := Lib.hid (HQ3.out.trans (if_pos (.inr h8)))
        clear HQ3 HTX HVR HPA HBADQ g8
        obtain ⟨x0, x1, x2, x3⟩ := HK1.out.cells4
        obtain ⟨f0, f1, f2, f3⟩ := HK1.out.free4
        go_wp2
        obtain ⟨z0, z1, z2, z3⟩ := (HK1.out.set4 (.int .i64 0) (.string ⟨#[]⟩) (.int .i64 0) (.slice none 0 0)).cells4
        refine bodyPost_ret (v := .tuple #[.agg #[.int .i64 0, .string ⟨#[]⟩, .int .i64 0, .slice none 0 0], .int .i64 0, .int .i64 50]) (by simp [results, Tryz.results68, go_sem, z0, z1, z2, z3]) rfl ?_
        exact RetResp.bad (below_four HB1.out (Nat.le_refl _) _ _ _ _) HBAD.out
end Go.Proofs.YteehjkfmlcfffaaGreatDoor
