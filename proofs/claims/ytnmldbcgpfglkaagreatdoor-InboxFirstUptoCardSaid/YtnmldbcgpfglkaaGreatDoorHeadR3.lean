/- The walk of the document's Parse. Conditions: rows of at most 2^30 bytes. -/
import Derived.Test.YtnmldbcgpfglkaaGreatDoorHeadB
import Derived.Test.YtnmldbcgpfglkaaGreatDoorHeadR1
namespace Go.Proofs.YtnmldbcgpfglkaaGreatDoor
open Go.RowKit

theorem eol_iff (x : UInt8) : P.eol x = false ↔ x ≠ 13 ∧ x ≠ 10 := by
  unfold P.eol
  rw [Bool.or_eq_false_iff, beq_eq_false_iff_ne, beq_eq_false_iff_ne]

set_option maxRecDepth 100000 in
set_option maxHeartbeats 4000000 in
theorem refParse_any (A : Option Addr) (n c : Nat) (bs : List UInt8) (w : World) (hnm : n ≤ 1073741824) (hnc : n ≤ c) (hx : Rd w A n 1 (bcells bs)) :
    Calls Tryz.prog 82 #[.slice A n c] w (RetL w (P.parse [] bs)) := by
  have hll := rd_len hx
  have HLL := Lib.hid hll
  have HX := Lib.hid hx
  have HCL := Lib.hid (fun (j : Nat) (hj : j < bs.length) (u : World) (hb : Below w.heap.size w u) => show ∃ b o, A = some ⟨b, o, none⟩ ∧ u.cell? ⟨b, o + j, none⟩ = some (.int .u8 (bs[j]'hj).toNat) from by
    obtain ⟨b, o, e, hlt, hc⟩ := hx.2 (by omega)
    exact ⟨b, o, e, (hb.cell (p := ⟨b, o + j, none⟩) hlt).trans (hc j _ (by simp [bcells, hj]))⟩)
  obtain ⟨R, hR⟩ : ∃ R, R = P.parse [] bs := ⟨_, rfl⟩
  have HR := Lib.hid hR
  rw [← hR]
  clear hx hR hll
  go_enter Tryz.func82, Tryz.ntmps82
  go_wp2
  go_loopw [4, 5] (fun o a wr => ∃ (k : Nat) (A1 : Option Addr) (N c1 : Nat) (out : List FD), k ≤ n ∧ a = .int .i64 k ∧ o = .slice A1 N c1 ∧ Row wr w.heap.size 72 2 A1 N c1 (fcells out) ∧ out.length = N ∧ N ≤ 100 ∧ R = P.parse out (bs.drop k) ∧ Below w.heap.size w wr) (fun _ a _ => n - (intOf a).toNat)
  case atStart => exact ⟨0, _, 0, 0, [], Nat.zero_le _, rfl, rfl, Row.empty _ _ _ _ _, rfl, by omega, HR.out, (Below.refl _ _).alloc (Nat.le_refl _) _⟩
  case round =>
    obtain ⟨wo, rfl⟩ : ∃ wo : World, wo = wr := ⟨_, rfl⟩
    obtain ⟨k, A1, N, c1, out, hk, rfl, rfl, hrow, hlen, hN, hpar, hbel⟩ := hrel
    have HROW := Lib.hid hrow
    have HLEN := Lib.hid hlen
    have HPAR := Lib.hid hpar
    have HB := Lib.hid hbel
    clear hrow hlen hpar hbel HR
    by_cases hkn : k < n
    · have hkni : (k : Int) < (n : Int) := by omega
      have hdl : (bs.drop k).length = n - k := by rw [List.length_drop, HLL.out]
      have hul := P.upto_len P.eol (bs.drop k)
      have hne : bs.drop k ≠ [] := fun h => by rw [h] at hdl; simp at hdl; omega
      obtain ⟨E, hE⟩ : ∃ E, E = k + (P.upto P.eol (bs.drop k)).length := ⟨_, rfl⟩
      have huf : P.upto P.eol (bs.drop k) = (bs.drop k).take (E - k) ∧ P.from_ P.eol (bs.drop k) = bs.drop E := by
        have h := P.upto_from P.eol (bs.drop k)
        have key : ∀ u f : List UInt8, u ++ f = bs.drop k → E = k + u.length → u = (bs.drop k).take (E - k) ∧ f = bs.drop E := by
          rintro u f h rfl
          constructor
          · rw [← h]; simp
          · rw [← List.drop_drop, ← h]; simp
        exact key _ _ h hE
      have hEn : E ≤ n := by omega
      have hkE : k ≤ E := by omega
      have HUF := Lib.hid huf
      have HE := Lib.hid hE
      obtain ⟨b, o, rfl, _⟩ := HCL.out k (by rw [HLL.out]; exact hkn) wo HB.out
      have HCB := Lib.hid (fun (j : Nat) (hj : j < bs.length) (u : World) (hb : Below w.heap.size w u) => show u.cell? ⟨b, o + j, none⟩ = some (.int .u8 (bs[j]'hj).toNat) from by
        obtain ⟨b', o', e, q⟩ := HCL.out j hj u hb
        cases e; exact q)
      clear huf hE hul
      go_upto_block 2 with fail
      go_cut [6] (fun s6 wx => s6 = .int .i64 E ∧ wx = wo)
      case first =>
        go_wp2_with fail
        go_loop [6] (fun s6 => ∃ i : Nat, k ≤ i ∧ i ≤ n ∧ s6 = .int .i64 i ∧ ∀ j (h : j < bs.length), k ≤ j → j < i → P.eol bs[j] = false) (fun s6 => n - (intOf s6).toNat)
        case atStart => exact ⟨k, Nat.le_refl _, hk, rfl, fun j _ h1 h2 => absurd h1 (by omega)⟩
        case round =>
          obtain ⟨i, hki, hin, rfl, hno⟩ := hrel
          have HNO := Lib.hid hno
          clear hno
          by_cases hlt : i < n
          · have hii : (i : Int) < (n : Int) := by omega
            have q0 := HCB.out i (by rw [HLL.out]; exact hlt) wo HB.out
            obtain ⟨x, hxx⟩ : ∃ x, bs[i]'(by rw [HLL.out]; exact hlt) = x := ⟨_, rfl⟩
            rw [hxx] at q0
            have HXX := Lib.hid hxx
            clear hxx
            by_cases he : P.eol x = false
            · obtain ⟨e1, e2⟩ := (eol_iff x).1 he
              have g1a : ((x.toNat : Int) == 13) = false := beqI_false (y := 13) e1
              have g1 : ((x.toNat : Int) != 13) = true := by rw [bne, g1a]; rfl
              have g2a : ((x.toNat : Int) == 10) = false := beqI_false (y := 10) e2
              have g2 : ((x.toNat : Int) != 10) = true := by rw [bne, g2a]; rfl
              have HEE := Lib.hid he
              clear he e1 e2 g1a g2a
              go_wp2
              go_round
              case rel =>
                refine ⟨i + 1, by omega, by omega, by go_num, fun j h h1 h2 => ?_⟩
                by_cases hji : j = i
                · subst hji; rw [HXX.out]; exact HEE.out
                · exact HNO.out j h h1 (by omega)
              case measure => simp [intOf]; omega
            · have HEQ : Hid (E = i) := Lib.hid (by
                rw [HE.out, upto_from_at (p := P.eol) hki (by rw [HLL.out]; exact hin) HNO.out (fun h => by rw [HXX.out]; simpa using he)]
                omega)
              have hx2 : x = 13 ∨ (x ≠ 13 ∧ x = 10) := by
                by_cases h13 : x = 13
                · exact .inl h13
                · refine .inr ⟨h13, ?_⟩
                  by_cases h10 : x = 10
                  · exact h10
                  · exact absurd ((eol_iff x).2 ⟨h13, h10⟩) he
              clear he
              rcases hx2 with h13 | ⟨h13, h10⟩
              · have g1a : ((x.toNat : Int) == 13) = true := beqI_true (y := 13) h13
                have g1 : ((x.toNat : Int) != 13) = false := by rw [bne, g1a]; rfl
                clear g1a h13
                go_wp2_with fail
                go_meet
                exact ⟨by rw [HEQ.out], rfl⟩
              · have g1a : ((x.toNat : Int) == 13) = false := beqI_false (y := 13) h13
                have g1 : ((x.toNat : Int) != 13) = true := by rw [bne, g1a]; rfl
                have g2a : ((x.toNat : Int) == 10) = true := beqI_true (y := 10) h10
                have g2 : ((x.toNat : Int) != 10) = false := by rw [bne, g2a]; rfl
                clear g1a g2a h13 h10
                go_wp2_with fail
                go_meet
                exact ⟨by rw [HEQ.out], rfl⟩
          · have hii : ¬ (i : Int) < (n : Int) := by omega
            have HEQ : Hid (E = i) := Lib.hid (by
              rw [HE.out, upto_from_at (p := P.eol) hki (by rw [HLL.out]; exact hin) HNO.out (fun h => absurd h (by rw [HLL.out]; omega))]
              omega)
            go_wp2_with fail
            go_meet
            exact ⟨by rw [HEQ.out], rfl⟩
      case rest =>
        obtain ⟨rfl, hwc⟩ := hcut
        subst hwc
        by_cases hE1 : E + 1 < n
        · have hE1i : (E : Int) + 1 < (n : Int) := by omega
          have hE0i : (E : Int) < (n : Int) := by omega
          have hE1j : ¬ (n : Int) ≤ (E : Int) + 1 := by omega
          have q0 := HCB.out E (by rw [HLL.out]; omega) _ HB.out
          have q1 := HCB.out (E + 1) (by rw [HLL.out]; omega) _ HB.out
          have hcons : bs.drop E = (bs[E]'(by rw [HLL.out]; omega)) :: (bs[E + 1]'(by rw [HLL.out]; omega)) :: bs.drop (E + 2) := by
            rw [List.drop_eq_getElem_cons (by rw [HLL.out]; omega : E < bs.length), List.drop_eq_getElem_cons (by rw [HLL.out]; omega : E + 1 < bs.length)]
          have HCONS := Lib.hid hcons
          clear hcons
          generalize bs[E]'(by rw [HLL.out]; omega) = x at *
          generalize bs[E + 1]'(by rw [HLL.out]; omega) = y at *
          by_cases hx13 : x = 13
          · have g1a : ((x.toNat : Int) == 13) = true := beqI_true (y := 13) hx13
            have g1 : ((x.toNat : Int) != 13) = false := by rw [bne, g1a]; rfl
            by_cases hy10 : y = 10
            · have g2a : ((y.toNat : Int) == 10) = true := beqI_true (y := 10) hy10
              have g2 : ((y.toNat : Int) != 10) = false := by rw [bne, g2a]; rfl
              have hfr : P.from_ P.eol (bs.drop k) = 13 :: 10 :: bs.drop (E + 2) := by rw [HUF.out.2, HCONS.out, hx13, hy10]
              have hstep := P.parse_step out hne hfr
              rw [HUF.out.1, ← HPAR.out] at hstep
              have HSTEP := Lib.hid hstep
              have hls : (B ((bs.drop k).take (E - k))).size ≤ 2147483648 := by rw [B_size, List.length_take]; omega
              have HLN := Lib.hid (fun (w1 : World) => refOne_any (B ((bs.drop k).take (E - k))) w1 hls)
              have HLL2 := Lib.hid (L_B ((bs.drop k).take (E - k)))
              have hkc : (k : Int) < (c : Int) := by omega
              have hkEi : (k : Int) ≤ (E : Int) := by omega
              have hEci : (E : Int) ≤ (c : Int) := by omega
              have hcv := conv_bs ((((HX.out.from_ hk).below HB.out)).upto (show E - k ≤ n - k by omega)) (c - k)
              clear hx13 hy10 g1a g2a hfr hstep hls hne hdl HCONS HUF HE
              go_wp2_with fail
              clear hcv q0 q1
              refine (HLN.out _).mono ?_
              rw [HLL2.out]
              obtain ⟨E0, hE0⟩ : ∃ E0, P.oneE ((bs.drop k).take (E - k)) = E0 := ⟨_, rfl⟩
              obtain ⟨f, hf⟩ : ∃ f, P.oneF ((bs.drop k).take (E - k)) = f := ⟨_, rfl⟩
              rw [hE0, hf]
              replace HSTEP : Hid (R = if E0 ≠ 0 then ([], E0) else if out.length = 100 then ([], 42) else P.parse (out ++ [f]) (bs.drop (E + 2))) := Lib.hid (by have := HSTEP.out; rwa [hE0, hf] at this)
              clear hE0 hf HLN HLL2 HPAR
              rintro e w3 ⟨rfl, hb3⟩
              have HB3' := Lib.hid (below_then HB.out.size HB.out hb3)
              have HROW3' := Lib.hid (HROW.out.below hb3)
              clear hb3 HB HROW
              by_cases hE0 : E0 = 0
              · subst hE0
                rw [if_pos rfl]
                have HS2 : Hid (R = if out.length = 100 then ([], 42) else P.parse (out ++ [f]) (bs.drop (E + 2))) := Lib.hid (HSTEP.out.trans (if_neg (by decide)))
                have HB3 := Lib.hid (HB3'.out.alloc HB3'.out.size (.cells #[.string f.1, .string f.2] 72))
                have HROW3 := Lib.hid (HROW3'.out.alloc (.cells #[.string f.1, .string f.2] 72))
                clear HSTEP HB3' HROW3'
                by_cases h100 : N = 100
                · have HRR : Hid (R = ([], 42)) := Lib.hid (HS2.out.trans (if_pos (HLEN.out.trans h100)))
                  subst h100
                  go_wp2
                  go_ret2
                  exact RetL.bad HB3.out HRR.out
                · have HRR : Hid (R = P.parse (out ++ [f]) (bs.drop (E + 2))) := Lib.hid (HS2.out.trans (if_neg (fun h => h100 (HLEN.out.symm.trans h))))
                  have h100b : ¬ (100 : Int) ≤ (N : Int) := by omega
                  have HNEW := Lib.hid (newF (w3.alloc (.cells #[.string f.1, .string f.2] 72)) f)
                  have HROW4 := Lib.hid (HROW3.out.alloc (.cells #[.string f.1, .string f.2] 72))
                  have HB4 := Lib.hid (HB3.out.alloc HB3.out.size (.cells #[.string f.1, .string f.2] 72))
                  have hz4 := HB4.out.size
                  rw [World.size_alloc] at HNEW
                  clear HS2 HB3 HROW3
                  go_wp2_with (at_builtin; refine appF _ rfl (.tmp 70) (.tmp 72) rfl w.heap.size A1 N c1 out rfl HROW4.out _ 1 1 [f] rfl HNEW.out (by omega) hz4 ?_; intro A5 c5 w5 hr5 ha5; have HR5 := Lib.hid hr5; have HB5 := Lib.hid (HB4.out.trans (ha5.below HROW4.out hz4)); clear hr5 ha5 HROW4 HB4 HNEW hz4)
                  go_roundw
                  case rel => exact ⟨E + 2, A5, N + 1, c5, out ++ [f], by omega, by go_num, rfl, HR5.out, by rw [List.length_append, HLEN.out]; rfl, by omega, HRR.out, HB5.out⟩
                  case measure => simp [intOf]; omega
              · rw [if_neg hE0]
                have HRR : Hid (R = ([], E0)) := Lib.hid (HSTEP.out.trans (if_pos hE0))
                have hEb : (E0 != 0) = true := by simpa using hE0
                have HB3 := Lib.hid (HB3'.out.alloc HB3'.out.size (.cells #[.string ⟨#[]⟩, .string ⟨#[]⟩] 72))
                clear HSTEP HB3' HROW3'
                go_wp2
                go_ret2
                exact RetL.bad HB3.out HRR.out
            · have g2a : ((y.toNat : Int) == 10) = false := beqI_false (y := 10) hy10
              have g2 : ((y.toNat : Int) != 10) = true := by rw [bne, g2a]; rfl
              have HRR : Hid (R = ([], 40)) := Lib.hid (by
                rw [HPAR.out, P.parse_bad out hne]
                intro r h
                rw [HUF.out.2, HCONS.out] at h
                injection h with _ h
                injection h with h _
                exact hy10 h)
              clear g1a g2a hx13 hy10 hne hdl HCONS HUF HE
              go_wp2
              go_ret2
              exact RetL.bad HB.out HRR.out
          · have g1a : ((x.toNat : Int) == 13) = false := beqI_false (y := 13) hx13
            have g1 : ((x.toNat : Int) != 13) = true := by rw [bne, g1a]; rfl
            have HRR : Hid (R = ([], 40)) := Lib.hid (by
              rw [HPAR.out, P.parse_bad out hne]
              intro r h
              rw [HUF.out.2, HCONS.out] at h
              injection h with h _
              exact hx13 h)
            clear g1a hx13 hne hdl HCONS HUF HE
            go_wp2
            go_ret2
            exact RetL.bad HB.out HRR.out
        · have hE1i : (n : Int) ≤ (E : Int) + 1 := by omega
          have HRR : Hid (R = ([], 40)) := Lib.hid (by
            rw [HPAR.out, P.parse_bad out hne]
            intro r h
            rw [HUF.out.2] at h
            have := congrArg List.length h
            rw [List.length_drop, HLL.out] at this
            simp only [List.length_cons] at this
            omega)
          clear hne hdl HUF HE
          go_wp2
          go_ret2
          exact RetL.bad HB.out HRR.out
    · have hkni : ¬ (k : Int) < (n : Int) := by omega
      have HRR : Hid (R = (out, 0)) := Lib.hid (by rw [HPAR.out, List.drop_of_length_le (by rw [HLL.out]; omega), P.parse_nil])
      go_wp2
      go_ret2
      rw [HRR.out]
      exact ⟨A1, c1, by rw [HLEN.out]; rfl, by rw [HLEN.out]; exact HROW.out, HB.out⟩
end Go.Proofs.YtnmldbcgpfglkaaGreatDoor
