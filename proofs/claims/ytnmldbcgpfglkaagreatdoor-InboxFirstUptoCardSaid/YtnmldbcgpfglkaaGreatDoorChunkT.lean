/- The walks of the document's tail and Decode of chunked bodies. -/
import Derived.Test.YtnmldbcgpfglkaaGreatDoorChunkS
import Derived.Test.YtnmldbcgpfglkaaGreatDoorChunkE
import Derived.Test.YtnmldbcgpfglkaaGreatDoorHeadR2
import Derived.Test.YtnmldbcgpfglkaaGreatDoorHeadR3
import Derived.Deep.DeepCutAuto
namespace Go.Proofs.YtnmldbcgpfglkaaGreatDoor
open Go.RowKit

/-- The trailers, answered. -/
def RetTail (w : World) (l : List UInt8) (e : Ending) (w' : World) : Prop :=
  ∃ A c, e = .returned (.tuple #[.slice A (C.tailF l).length c, .int .i64 (C.tailN l), .int .i64 (C.tailE l)]) ∧ Row w' w.heap.size 72 2 A (C.tailF l).length c (fcells (C.tailF l)) ∧ Below w.heap.size w w'
theorem RetTail.bad {w w' : World} {l : List UInt8} {N : Nat} {code : Int} (hb : Below w.heap.size w w') (hf : C.tailF l = []) (hn : C.tailN l = N) (he : C.tailE l = code) : RetTail w l (.returned (.tuple #[.slice none 0 0, .int .i64 N, .int .i64 code])) w' := by
  refine ⟨none, 0, ?_, ?_, hb⟩
  · rw [hf, hn, he]; rfl
  · rw [hf]; exact Row.none_ _ _ _ _
namespace C
theorem pre_iff (l : List UInt8) (h : 1 < l.length) : P.crlf.isPrefixOf l = (decide (l[0]'(by omega) = 13) && decide (l[1]'h = 10)) := by
  have := occ2 l 0 (by omega)
  unfold Lib.occAt at this
  rw [List.drop_zero] at this
  rw [this]
theorem pre_short (l : List UInt8) (h : ¬ 1 < l.length) : ¬ P.crlf.isPrefixOf l = true := by
  intro hp
  rw [List.isPrefixOf_iff_prefix] at hp
  have := hp.length_le
  simp only [P.crlf, List.length_cons, List.length_nil] at this
  omega
theorem tail_crlf {l : List UInt8} (h : P.crlf.isPrefixOf l = true) : tailF l = [] ∧ tailN l = 2 ∧ tailE l = 0 := ⟨if_pos h, if_pos h, if_pos h⟩
/-- No end of the trailers yet. -/
theorem tail_none {l : List UInt8} (h : ¬ P.crlf.isPrefixOf l = true) (hi : P.hIdx l 0 < 0) : tailF l = [] ∧ tailN l = 0 ∧ tailE l = if l.length < 8192 then 0 else 51 := by
  have h1 := P.hN_no hi
  refine ⟨?_, ?_, ?_⟩
  · unfold tailF; rw [if_neg h, if_pos (.inr h1)]
  · unfold tailN; rw [if_neg h, if_pos (.inr h1)]
  · unfold tailE; rw [if_neg h, if_pos (.inr h1), P.hE_no hi]
theorem tail_late {l : List UInt8} {i : Nat} (h : ¬ P.crlf.isPrefixOf l = true) (hi : P.hIdx l 0 = (i : Int)) (h8 : 8192 < i + 4) : tailF l = [] ∧ tailN l = 0 ∧ tailE l = 51 := by
  have hE : P.hE l 0 = 51 := by
    unfold P.hE
    rw [hi, if_neg (by omega), if_pos (by omega)]
  have hc : P.hE l 0 ≠ 0 ∨ P.hN l 0 = 0 := .inl (by rw [hE]; decide)
  refine ⟨?_, ?_, ?_⟩
  · unfold tailF; rw [if_neg h, if_pos hc]
  · unfold tailN; rw [if_neg h, if_pos hc]
  · unfold tailE; rw [if_neg h, if_pos hc, hE]
theorem tail_parse {l : List UInt8} {i : Nat} (h : ¬ P.crlf.isPrefixOf l = true) (hi : P.hIdx l 0 = (i : Int)) (h8 : ¬ 8192 < i + 4) :
    tailF l = (P.parse [] (l.take (i + 2))).1 ∧ tailN l = (if (P.parse [] (l.take (i + 2))).2 ≠ 0 then 0 else i + 4) ∧ tailE l = (P.parse [] (l.take (i + 2))).2 := by
  have hE : P.hE l 0 = 0 := by
    unfold P.hE
    rw [hi, if_neg (by omega), if_neg (by omega)]
  have hN : P.hN l 0 = ((i + 4 : Nat) : Int) := by
    unfold P.hN
    rw [hi, if_neg (by omega)]
    omega
  have hc : ¬ (P.hE l 0 ≠ 0 ∨ P.hN l 0 = 0) := by rw [hE, hN]; omega
  have hk : (P.hN l 0 - 2).toNat = i + 2 := by rw [hN]; omega
  refine ⟨?_, ?_, ?_⟩
  · unfold tailF; rw [if_neg h, if_neg hc, hk]
  · unfold tailN; rw [if_neg h, if_neg hc, hk, hN, Int.toNat_natCast]
  · unfold tailE; rw [if_neg h, if_neg hc, hk]
end C
set_option maxHeartbeats 4000000 in
set_option maxRecDepth 100000 in
theorem refTail_any (A : Option Addr) (c : Nat) (l : List UInt8) (w : World) (hn : l.length ≤ 1073741824) (hnc : l.length ≤ c) (hx : Rd w A l.length 1 (bcells l)) :
    Calls Tryz.prog 42 #[.slice A l.length c] w (RetTail w l) := by
  have HX := Lib.hid (fun k hk => rd_byte hx k hk)
  have HPA := Lib.hid (fun (j : Nat) (hj : j ≤ l.length) => show Calls Tryz.prog 82 #[.slice A j c] w (RetL w (P.parse [] (l.take j))) from refParse_any A j c (l.take j) w (by omega) (by omega) (hx.upto hj))
  clear hx
  by_cases hp : P.crlf.isPrefixOf l = true
  · have hl1 : 1 < l.length := by
      rcases Nat.lt_or_ge 1 l.length with h | h
      · exact h
      · exact absurd hp (C.pre_short l (by omega))
    have HT := Lib.hid (C.tail_crlf hp)
    rw [C.pre_iff l hl1, Bool.and_eq_true] at hp
    have h0 := of_decide_eq_true hp.1
    have h1 := of_decide_eq_true hp.2
    obtain ⟨b, o, rfl, q0⟩ := HX.out 0 (by omega)
    obtain ⟨b', o', e, q1⟩ := HX.out 1 hl1
    cases e
    rw [h0] at q0
    rw [h1] at q1
    rw [Nat.add_zero] at q0
    have hl2 : (2 : Int) ≤ (l.length : Int) := by omega
    clear HPA HX hp h0 h1
    go_enter Tryz.func42, Tryz.ntmps42
    go_wp2
    refine bodyPost_ret (v := .tuple #[.slice none 0 0, .int .i64 2, .int .i64 0]) (by simp [results, Tryz.results42, go_sem]) rfl ?_
    exact RetTail.bad (Below.refl _ _) HT.out.1 HT.out.2.1 HT.out.2.2
  · have HP0 := Lib.hid hp
    have HWAY : Hid (¬ 1 < l.length ∨ (∃ h : 1 < l.length, ¬ l[0]'(by omega) = 13) ∨ (∃ h : 1 < l.length, l[0]'(by omega) = 13 ∧ ¬ l[1]'h = 10)) := Lib.hid (by
      by_cases h : 1 < l.length
      · rw [C.pre_iff l h] at hp
        by_cases h0 : l[0]'(by omega) = 13
        · by_cases h1 : l[1]'h = 10
          · rw [decide_eq_true h0, decide_eq_true h1] at hp
            exact absurd rfl hp
          · exact .inr (.inr ⟨h, h0, h1⟩)
        · exact .inr (.inl ⟨h, h0⟩)
      · exact .inl h)
    clear hp
    go_enter Tryz.func42, Tryz.ntmps42
    go_upto_region 1 with fail
    go_cut [22] (fun s22 wx => s22 = .bool false ∧ wx = w)
    case first =>
      clear HPA HP0
      rcases HWAY.out with h | ⟨h, h0⟩ | ⟨h, h0, h1⟩
      · have hl2 : ¬ (2 : Int) ≤ (l.length : Int) := by omega
        clear HWAY HX
        go_wp2_with fail
        go_meet
        exact ⟨rfl, rfl⟩
      · have hl2 : (2 : Int) ≤ (l.length : Int) := by omega
        obtain ⟨b, o, rfl, q0⟩ := HX.out 0 (by omega)
        rw [Nat.add_zero] at q0
        generalize l[0]'(by omega) = x at *
        have g0 : ((x.toNat : Int) == 13) = false := beqI_false (y := 13) h0
        clear HWAY HX h0
        go_wp2_with fail
        go_meet
        exact ⟨rfl, rfl⟩
      · have hl2 : (2 : Int) ≤ (l.length : Int) := by omega
        obtain ⟨b, o, rfl, q0⟩ := HX.out 0 (by omega)
        obtain ⟨b', o', e, q1⟩ := HX.out 1 h
        cases e
        rw [Nat.add_zero] at q0
        rw [h0] at q0
        generalize l[1]'h = y at *
        have g1 : ((y.toNat : Int) == 10) = false := beqI_false (y := 10) h1
        clear HWAY HX h0 h1
        go_wp2_with fail
        go_meet
        exact ⟨rfl, rfl⟩
    case rest =>
      obtain ⟨rfl, hwc⟩ := hcut
      subst hwc
      clear HWAY
      go_wp2_with fail
      go_loop [5] (fun s4 => ∃ i : Nat, i ≤ l.length ∧ s4 = .int .i64 i ∧ Hid (∀ j, j < i → Lib.occAt l P.crlf2 j = false)) (fun s4 => l.length - (intOf s4).toNat)
      case atStart => exact ⟨0, Nat.zero_le _, rfl, Lib.hid (fun j h2 => absurd h2 (by omega))⟩
      case round =>
        obtain ⟨i, hin, rfl, HNO⟩ := hrel
        by_cases hlt : i + 3 < l.length
        · have hii : (i : Int) + 3 < (l.length : Int) := by omega
          have hi0 : (i : Int) < (l.length : Int) := by omega
          have hi1 : (i : Int) + 1 < (l.length : Int) := by omega
          have hi2 : (i : Int) + 2 < (l.length : Int) := by omega
          have HOC := Lib.hid (occ4 l i (by omega))
          obtain ⟨b, o, rfl, q0⟩ := HX.out i (by omega)
          have q1 : wc.cell? ⟨b, o + (i + 1), none⟩ = some (.int .u8 (l[i + 1]'(by omega)).toNat) := by
            obtain ⟨b', o', e, q⟩ := HX.out (i + 1) (by omega)
            cases e; exact q
          have q2 : wc.cell? ⟨b, o + (i + 2), none⟩ = some (.int .u8 (l[i + 2]'(by omega)).toNat) := by
            obtain ⟨b', o', e, q⟩ := HX.out (i + 2) (by omega)
            cases e; exact q
          have q3 : wc.cell? ⟨b, o + (i + 3), none⟩ = some (.int .u8 (l[i + 3]'(by omega)).toNat) := by
            obtain ⟨b', o', e, q⟩ := HX.out (i + 3) (by omega)
            cases e; exact q
          have NEXT : Lib.occAt l P.crlf2 i = false → ∀ j, j < i + 1 → Lib.occAt l P.crlf2 j = false := fun h j h2 => by
            by_cases hji : j = i
            · subst hji; exact h
            · exact HNO.out j (by omega)
          have HNX := Lib.hid NEXT
          clear NEXT
          generalize l[i]'(by omega) = a0 at *
          generalize l[i + 1]'(by omega) = a1 at *
          generalize l[i + 2]'(by omega) = a2 at *
          generalize l[i + 3]'(by omega) = a3 at *
          by_cases h0 : a0 = 13
          · have g0 : ((a0.toNat : Int) == 13) = true := beqI_true (y := 13) h0
            by_cases h1 : a1 = 10
            · have g1 : ((a1.toNat : Int) == 10) = true := beqI_true (y := 10) h1
              by_cases h2 : a2 = 13
              · have g2 : ((a2.toNat : Int) == 13) = true := beqI_true (y := 13) h2
                by_cases h3 : a3 = 10
                · have g3 : ((a3.toNat : Int) == 10) = true := beqI_true (y := 10) h3
                  have hix : P.hIdx l 0 = (i : Int) := by
                    have hoc : Lib.occAt l P.crlf2 i = true := by rw [HOC.out, decide_eq_true h0, decide_eq_true h1, decide_eq_true h2, decide_eq_true h3]; rfl
                    show Lib.index (l.drop 0) P.crlf2 = _
                    rw [List.drop_zero]
                    exact Lib.index_hit (fun j hj => HNO.out _ hj) (by omega) hoc
                  have HIX := Lib.hid hix
                  clear h0 h1 h2 h3 HOC HNX HNO hix HX
                  by_cases h8 : 8192 < i + 4
                  · have HR := Lib.hid (C.tail_late HP0.out HIX.out h8)
                    have h8i : (8192 : Int) < (i : Int) + 4 := by omega
                    clear HPA HP0 HIX
                    go_wp2
                    refine bodyPost_ret (v := .tuple #[.slice none 0 0, .int .i64 0, .int .i64 51]) (by simp [results, Tryz.results42, go_sem]) rfl ?_
                    exact RetTail.bad (Below.refl _ _) HR.out.1 HR.out.2.1 HR.out.2.2
                  · have HR := Lib.hid (C.tail_parse HP0.out HIX.out h8)
                    have h8i : ¬ (8192 : Int) < (i : Int) + 4 := by omega
                    have hic : (i : Int) + 2 ≤ (c : Int) := by omega
                    have HK := Lib.hid (HPA.out (i + 2) (by omega))
                    clear HPA HP0 HIX
                    have HPF := Lib.hid (P.parse_facts _ [] (l.take (i + 2)) (Nat.le_refl _) (by simp)).2.2
                    obtain ⟨R, hR⟩ : ∃ R, P.parse [] (l.take (i + 2)) = R := ⟨_, rfl⟩
                    rw [hR] at HK HR HPF
                    clear hR
                    obtain ⟨fs, e0⟩ := R
                    go_wp2_with fail
                    refine HK.out.mono ?_
                    rintro e w1 ⟨TA, tc, rfl, hr1, hb1⟩
                    have HR1 := Lib.hid (show Row w1 wc.heap.size 72 2 TA fs.length tc (fcells fs) from hr1)
                    have HB1 := Lib.hid hb1
                    clear hr1 hb1 HK
                    by_cases he0 : e0 = 0
                    · subst he0
                      have HRN : Hid (C.tailF l = fs ∧ C.tailN l = i + 4 ∧ C.tailE l = 0) := Lib.hid ⟨HR.out.1, HR.out.2.1.trans (if_neg (fun h => h rfl)), HR.out.2.2⟩
                      clear HR HPF
                      go_wp2
                      refine bodyPost_ret (v := .tuple #[.slice TA fs.length tc, .int .i64 ((i : Int) + 4), .int .i64 0]) (by simp [results, Tryz.results42, go_sem]) rfl ?_
                      refine ⟨TA, tc, ?_, ?_, HB1.out⟩
                      · rw [HRN.out.1, HRN.out.2.1, HRN.out.2.2]; rfl
                      · rw [HRN.out.1]; exact HR1.out
                    · have HRN : Hid (C.tailF l = fs ∧ C.tailN l = 0 ∧ C.tailE l = e0) := Lib.hid ⟨HR.out.1, HR.out.2.1.trans (if_pos he0), HR.out.2.2⟩
                      have HFN : Hid (C.tailF l = []) := Lib.hid (HRN.out.1.trans (HPF.out he0))
                      have heb : (e0 != 0) = true := by simpa using he0
                      clear HR HPF he0
                      go_wp2
                      refine bodyPost_ret (v := .tuple #[.slice none 0 0, .int .i64 0, .int .i64 e0]) (by simp [results, Tryz.results42, go_sem]) rfl ?_
                      exact RetTail.bad HB1.out HFN.out HRN.out.2.1 HRN.out.2.2
                · have g3 : ((a3.toNat : Int) == 10) = false := beqI_false (y := 10) h3
                  have NEXT := Lib.hid (HNX.out (by rw [HOC.out, decide_eq_false h3, Bool.and_false]))
                  clear h0 h1 h2 h3 HOC HNX HNO
                  go_wp2
                  go_round
                  case rel => exact ⟨i + 1, by omega, by go_num, NEXT⟩
                  case measure => simp [intOf]; omega
              · have g2 : ((a2.toNat : Int) == 13) = false := beqI_false (y := 13) h2
                have NEXT := Lib.hid (HNX.out (by rw [HOC.out, decide_eq_false h2, Bool.and_false, Bool.false_and]))
                clear h0 h1 h2 HOC HNX HNO
                go_wp2
                go_round
                case rel => exact ⟨i + 1, by omega, by go_num, NEXT⟩
                case measure => simp [intOf]; omega
            · have g1 : ((a1.toNat : Int) == 10) = false := beqI_false (y := 10) h1
              have NEXT := Lib.hid (HNX.out (by rw [HOC.out, decide_eq_false h1, Bool.and_false, Bool.false_and, Bool.false_and]))
              clear h0 h1 HOC HNX HNO
              go_wp2
              go_round
              case rel => exact ⟨i + 1, by omega, by go_num, NEXT⟩
              case measure => simp [intOf]; omega
          · have g0 : ((a0.toNat : Int) == 13) = false := beqI_false (y := 13) h0
            have NEXT := Lib.hid (HNX.out (by rw [HOC.out, decide_eq_false h0, Bool.false_and, Bool.false_and, Bool.false_and]))
            clear h0 HOC HNX HNO
            go_wp2
            go_round
            case rel => exact ⟨i + 1, by omega, by go_num, NEXT⟩
            case measure => simp [intOf]; omega
        · have hii : ¬ (i : Int) + 3 < (l.length : Int) := by omega
          have hix : P.hIdx l 0 = -1 := by
            show Lib.index (l.drop 0) P.crlf2 = _
            rw [List.drop_zero]
            exact Lib.index_past (i := i) (by decide) (fun j hj => HNO.out _ hj) (by show l.length < i + 4; omega)
          have HR := Lib.hid (C.tail_none HP0.out (by rw [hix]; decide))
          clear HNO HX hix HPA HP0
          by_cases h8 : l.length < 8192
          · have HE := Lib.hid (HR.out.2.2.trans (if_pos h8))
            have h8i : ¬ (8192 : Int) ≤ (l.length : Int) := by omega
            go_wp2
            refine bodyPost_ret (v := .tuple #[.slice none 0 0, .int .i64 0, .int .i64 0]) (by simp [results, Tryz.results42, go_sem]) rfl ?_
            exact RetTail.bad (Below.refl _ _) HR.out.1 HR.out.2.1 HE.out
          · have HE := Lib.hid (HR.out.2.2.trans (if_neg h8))
            have h8i : (8192 : Int) ≤ (l.length : Int) := by omega
            go_wp2
            refine bodyPost_ret (v := .tuple #[.slice none 0 0, .int .i64 0, .int .i64 51]) (by simp [results, Tryz.results42, go_sem]) rfl ?_
            exact RetTail.bad (Below.refl _ _) HR.out.1 HR.out.2.1 HE.out

namespace C
theorem tail_nil : tailF [] = [] ∧ tailN [] = 0 ∧ tailE [] = 0 := by
  have := tail_none (l := []) (by decide) (by decide +kernel)
  exact ⟨this.1, this.2.1, this.2.2⟩
theorem lineS_le (l : List UInt8) : lineS l < 4294967296 := by
  unfold lineS
  split
  · unfold sizeOf
    split
    · decide
    · rename_i h
      have h8 : ¬ 8 < (numOf (l.take (eolAt l - 1))).length := fun k => h (.inr (.inl k))
      have hx : (numOf (l.take (eolAt l - 1))).all isHex = true := by
        cases hh : (numOf (l.take (eolAt l - 1))).all isHex
        · exact absurd hh (fun k => h (.inr (.inr (.inl k))))
        · rfl
      obtain ⟨_, h2⟩ := val_bound _ hx
      have hpow : (16 : Int) ^ (numOf (l.take (eolAt l - 1))).length ≤ 4294967296 := by
        generalize (numOf (l.take (eolAt l - 1))).length = q at h8
        rcases (by omega : q = 0 ∨ q = 1 ∨ q = 2 ∨ q = 3 ∨ q = 4 ∨ q = 5 ∨ q = 6 ∨ q = 7 ∨ q = 8) with h | h | h | h | h | h | h | h | h <;> subst h <;> decide
      omega
  · decide
theorem line_nil : lineE [] = 0 ∧ lineN [] = 0 ∧ lineS [] = 0 := by decide +kernel
theorem pre_at (l : List UInt8) (k : Nat) (h : k + 1 < l.length) : P.crlf.isPrefixOf (l.drop k) = (decide (l[k]'(by omega) = 13) && decide (l[k + 1]'h = 10)) := occ2 l k h
end C
set_option maxHeartbeats 8000000 in
set_option maxRecDepth 100000 in
theorem refDecode_any (A : Option Addr) (c : Nat) (l : List UInt8) (w : World) (hn : l.length ≤ 1073741824) (hnc : l.length ≤ c) (hx : Rd w A l.length 1 (bcells l)) :
    Calls Tryz.prog 18 #[.slice A l.length c] w (RetCD w (C.decode l)) := by
  by_cases hl0 : l = []
  · subst hl0
    have HLN := Lib.hid (fun (A' : Option Addr) (c' : Nat) (u : World) => refLine_any A' c' [] u (Nat.zero_le _) (Nat.zero_le _) (Rd.nil u A' 1))
    obtain ⟨e1, e2, e3⟩ := C.line_nil
    have HR : Hid (C.decode [] = .bad 0) := Lib.hid (by
      unfold C.decode
      rw [C.dec_eq, e1, e2, if_pos (.inr rfl)])
    rw [e1, e2, e3] at HLN
    rw [HR.out]
    clear hx HR e1 e2 e3
    have HB0 := Lib.hid ((Below.refl w.heap.size w).alloc (Nat.le_refl _) (.cells #[] 5))
    go_enter Tryz.func18, Tryz.ntmps18
    go_wp2
    go_loopw [6, 7] (fun o a wr => (∃ v, o = v) ∧ a = .int .i64 0 ∧ Below w.heap.size w wr) (fun _ _ _ => 0)
    case atStart => exact ⟨⟨_, rfl⟩, rfl, HB0.out⟩
    case round =>
      clear HB0
      obtain ⟨⟨v, rfl⟩, rfl, hb⟩ := hrel
      have HB := Lib.hid hb
      clear hb
      go_wp2_with (refine (HLN.out _ _ _).mono ?_; rintro e w1 ⟨rfl, rfl⟩)
      all_goals
        refine bodyPost_ret (v := .tuple #[.slice none 0 0, .slice none 0 0, .int .i64 0, .int .i64 0]) (by simp [results, Tryz.results18, go_sem]) rfl ?_
        exact RetCD.bad HB.out rfl
  · have hl1 : 0 < l.length := List.length_pos_iff.2 hl0
    obtain ⟨b, o, rfl, _, _⟩ := hx.2 hl1
    have HCB := Lib.hid (fun (j : Nat) (hj : j < l.length) (u : World) (hu : Below w.heap.size w u) => show u.cell? ⟨b, o + j, none⟩ = some (.int .u8 (l[j]'hj).toNat) from by
      obtain ⟨b', o', e, q⟩ := rd_byte (hx.below hu) j hj
      cases e; exact q)
    have HLN := Lib.hid (fun (k : Nat) (hk : k ≤ l.length) (u : World) (hu : Below w.heap.size w u) => show Calls Tryz.prog 41 #[.slice (some ⟨b, o + k, none⟩) (l.length - k) (c - k)] u (RetP u (.tuple #[.int .i64 (C.lineS (l.drop k)), .int .i64 (C.lineN (l.drop k)), .int .i64 (C.lineE (l.drop k))])) from by
      have hlen : (l.drop k).length = l.length - k := List.length_drop
      have := refLine_any (some ⟨b, o + k, none⟩) (c - k) (l.drop k) u (by omega) (by omega) (by rw [hlen]; exact (hx.below hu).from_ hk)
      rwa [hlen] at this)
    have HLZ := Lib.hid (fun (u : World) => show Calls Tryz.prog 41 #[.slice (some ⟨b, o, none⟩) 0 0] u (RetP u (.tuple #[.int .i64 0, .int .i64 0, .int .i64 0])) from by
      have := refLine_any (some ⟨b, o, none⟩) 0 [] u (Nat.zero_le _) (Nat.zero_le _) (Rd.nil u _ 1)
      obtain ⟨e1, e2, e3⟩ := C.line_nil
      rw [e1, e2, e3] at this
      exact this)
    have HTL := Lib.hid (fun (k : Nat) (hk : k ≤ l.length) (u : World) (hu : Below w.heap.size w u) => show Calls Tryz.prog 42 #[.slice (some ⟨b, o + k, none⟩) (l.length - k) (c - k)] u (RetTail u (l.drop k)) from by
      have hlen : (l.drop k).length = l.length - k := List.length_drop
      have := refTail_any (some ⟨b, o + k, none⟩) (c - k) (l.drop k) u (by omega) (by omega) (by rw [hlen]; exact (hx.below hu).from_ hk)
      rwa [hlen] at this)
    have HTZ := Lib.hid (fun (u : World) => show Calls Tryz.prog 42 #[.slice (some ⟨b, o, none⟩) 0 0] u (RetTail u []) from refTail_any (some ⟨b, o, none⟩) 0 [] u (Nat.zero_le _) (Nat.zero_le _) (Rd.nil u _ 1))
    have HRD := Lib.hid (fun (k m : Nat) (hk : k + m ≤ l.length) (u : World) (hu : Below w.heap.size w u) => show Rd u (some ⟨b, o + k, none⟩) m 1 (bcells ((l.drop k).take m)) from ((hx.below hu).from_ (show k ≤ l.length by omega)).upto (by omega))
    obtain ⟨R, hR⟩ : ∃ R, R = C.decode l := ⟨_, rfl⟩
    have HR := Lib.hid hR
    rw [← hR]
    have HB0 := Lib.hid ((Below.refl w.heap.size w).alloc (Nat.le_refl _) (.cells #[] 5))
    clear hx hR hl0
    go_enter Tryz.func18, Tryz.ntmps18
    go_wp2
    go_loopw [6, 7] (fun ov av wr => ∃ (k : Nat) (Da : Option Addr) (dc : Nat) (data : List UInt8), k ≤ l.length ∧ av = .int .i64 k ∧ ov = .slice Da data.length dc ∧ Row wr w.heap.size 5 1 Da data.length dc (bcells data) ∧ data.length ≤ 65536 ∧ R = C.dec data k (l.drop k) ∧ Below w.heap.size w wr) (fun _ av _ => l.length - (intOf av).toNat)
    case atStart => exact ⟨0, _, 0, [], Nat.zero_le _, rfl, rfl, Row.empty _ _ _ _ _, Nat.zero_le _, HR.out, HB0.out⟩
    case round =>
      clear HB0 HR
      obtain ⟨wo, rfl⟩ : ∃ wo : World, wo = wr := ⟨_, rfl⟩
      obtain ⟨k, Da, dc, data, hk, rfl, rfl, hrow, hdl, hdec, hbel⟩ := hrel
      have HROW := Lib.hid hrow
      have HDEC := Lib.hid hdec
      have HB := Lib.hid hbel
      clear hrow hdec hbel
      by_cases hkc : k = c
      · have hkl : k = l.length := by omega
        have HF : Hid (R = .bad 0) := Lib.hid (by
          rw [HDEC.out, C.dec_eq, List.drop_of_length_le (by omega), C.line_nil.1, C.line_nil.2.1, if_pos (.inr rfl)])
        have e1 : l.length - k = 0 := by omega
        have e2 : c - k = 0 := by omega
        have hck : c = k := hkc.symm
        have hkci : (k : Int) ≤ (c : Int) := by omega
        have hkli : (k : Int) ≤ (l.length : Int) := by omega
        clear hkl hkc HLN HTL HTZ HCB HRD HDEC HROW
        go_wp2_with fail
        refine (HLZ.out _).mono ?_
        rintro e w1 ⟨rfl, rfl⟩
        go_wp2
        refine bodyPost_ret (v := .tuple #[.slice none 0 0, .slice none 0 0, .int .i64 0, .int .i64 0]) (by simp [results, Tryz.results18, go_sem]) rfl ?_
        exact RetCD.bad HB.out HF.out
      · have hck : ¬ c = k := fun h => hkc h.symm
        have hkci : (k : Int) ≤ (c : Int) := by omega
        have hkli : (k : Int) ≤ (l.length : Int) := by omega
        have HK := Lib.hid (HLN.out k hk _ HB.out)
        have hS2 := C.lineN_le (l.drop k)
        have hS9 := C.lineS_le (l.drop k)
        rw [List.length_drop] at hS2
        have hd := HDEC.out
        rw [C.dec_eq] at hd
        simp only [List.drop_drop] at hd
        have HD := Lib.hid hd
        clear hd HDEC
        obtain ⟨S, hS⟩ : ∃ S, C.lineS (l.drop k) = S := ⟨_, rfl⟩
        obtain ⟨N, hN⟩ : ∃ N, C.lineN (l.drop k) = N := ⟨_, rfl⟩
        obtain ⟨E, hE⟩ : ∃ E, C.lineE (l.drop k) = E := ⟨_, rfl⟩
        rw [hS, hN, hE] at HK
        rw [hS, hN, hE] at HD
        rw [hN] at hS2
        rw [hS] at hS9
        clear hS hN hE hkc HLN HLZ
        go_wp2_with fail
        refine HK.out.mono ?_
        rintro e w1 ⟨rfl, hw1⟩
        subst hw1
        clear HK
        by_cases hE0 : E = 0
        · subst hE0
          by_cases hN0 : N = 0
          · subst hN0
            have HF : Hid (R = .bad 0) := Lib.hid (HD.out.trans (if_pos (.inr rfl)))
            clear HD HTL HTZ HCB HRD HROW
            go_wp2
            refine bodyPost_ret (v := .tuple #[.slice none 0 0, .slice none 0 0, .int .i64 0, .int .i64 0]) (by simp [results, Tryz.results18, go_sem]) rfl ?_
            exact RetCD.bad HB.out HF.out
          · have hN0i : ¬ (N : Int) = 0 := by omega
            have hN0b : ((N : Int) == 0) = false := beq_eq_false_iff_ne.2 hN0i
            have HD2 := Lib.hid (HD.out.trans (if_neg (by rintro (h | h); exact h rfl; exact hN0 h)))
            clear HD
            have hkN : k + N ≤ l.length := by omega
            by_cases hS0 : S = 0
            · subst hS0
              have HD3 := Lib.hid (HD2.out.trans (if_pos rfl))
              clear HD2 HCB HRD
              by_cases hNc : k + N = c
              · have HF : Hid (R = .bad 0) := Lib.hid (by
                  rw [HD3.out, List.drop_of_length_le (by omega), C.tail_nil.2.1, C.tail_nil.2.2]
                  exact if_pos (.inr rfl))
                have e1 : l.length - (k + N) = 0 := by omega
                have e2 : c - (k + N) = 0 := by omega
                have hc2 : c = k + N := hNc.symm
                have hki : (k : Int) + (N : Int) ≤ (c : Int) := by omega
                have hkj : (k : Int) + (N : Int) ≤ (l.length : Int) := by omega
                have hkz : ((k : Int) + (N : Int)).toNat = k + N := by omega
                clear HTL HD3 hNc hck HROW
                go_wp2_with fail
                refine (HTZ.out _).mono ?_
                rintro e w1 ⟨TA, tc, rfl, hr, hb⟩
                have HB1 := Lib.hid (below_then HB.out.size HB.out hb)
                obtain ⟨q1, q2, q3⟩ := C.tail_nil
                rw [q1, q2, q3]
                clear hr hb HTZ q1 q2 q3
                go_wp2
                refine bodyPost_ret (v := .tuple #[.slice none 0 0, .slice none 0 0, .int .i64 0, .int .i64 0]) (by simp [results, Tryz.results18, go_sem]) rfl ?_
                exact RetCD.bad HB1.out HF.out
              · have hc2 : ¬ c = k + N := fun h => hNc h.symm
                have hki : (k : Int) + (N : Int) ≤ (c : Int) := by omega
                have hkj : (k : Int) + (N : Int) ≤ (l.length : Int) := by omega
                have hkz : ((k : Int) + (N : Int)).toNat = k + N := by omega
                have HK2 := Lib.hid (HTL.out (k + N) hkN _ HB.out)
                clear HTL HTZ hNc
                go_wp2_with fail
                refine HK2.out.mono ?_
                rintro e w1 ⟨TA, tc, rfl, hr, hb⟩
                have HB1 := Lib.hid (below_then HB.out.size HB.out hb)
                have HROW1 := Lib.hid (HROW.out.below hb)
                have HRT := Lib.hid (hr.mono HB.out.size)
                clear hr hb HK2 HB HROW
                obtain ⟨FS, hFS⟩ : ∃ FS, C.tailF (l.drop (k + N)) = FS := ⟨_, rfl⟩
                obtain ⟨M, hM⟩ : ∃ M, C.tailN (l.drop (k + N)) = M := ⟨_, rfl⟩
                obtain ⟨E2, hE2⟩ : ∃ E2, C.tailE (l.drop (k + N)) = E2 := ⟨_, rfl⟩
                have hMle : E2 = 0 → M ≠ 0 → M ≤ l.length := fun h1 h2 => by
                  have := (C.tail_pos (l := l.drop (k + N)) (by rw [hE2, hM]; rintro (h | h); exact h h1; exact h2 h)).1
                  rw [List.length_drop, hM] at this
                  omega
                rw [hFS, hM, hE2] at HD3
                rw [hFS] at HRT
                rw [hFS, hM, hE2]
                clear hFS hM hE2
                by_cases hE3 : E2 = 0
                · subst hE3
                  by_cases hM0 : M = 0
                  · subst hM0
                    have HF : Hid (R = .bad 0) := Lib.hid (HD3.out.trans (if_pos (.inr rfl)))
                    clear HD3 HRT HROW1
                    go_wp2
                    refine bodyPost_ret (v := .tuple #[.slice none 0 0, .slice none 0 0, .int .i64 0, .int .i64 0]) (by simp [results, Tryz.results18, go_sem]) rfl ?_
                    exact RetCD.bad HB1.out HF.out
                  · have hM9 := hMle rfl hM0
                    clear hMle
                    have hM0b : ((M : Int) == 0) = false := beq_eq_false_iff_ne.2 (by omega)
                    have HF : Hid (R = ⟨data, FS, k + N + M, 0⟩) := Lib.hid (HD3.out.trans (if_neg (by rintro (h | h); exact h rfl; exact hM0 h)))
                    clear HD3
                    go_wp2
                    refine bodyPost_ret (v := .tuple #[.slice Da data.length dc, .slice TA FS.length tc, .int .i64 ((k : Int) + (N : Int) + (M : Int)), .int .i64 0]) (by simp [results, Tryz.results18, go_sem]) rfl ?_
                    rw [HF.out]
                    exact ⟨Da, dc, TA, tc, rfl, HROW1.out, HRT.out, HB1.out⟩
                · have HF : Hid (R = .bad E2) := Lib.hid (HD3.out.trans (if_pos (.inl hE3)))
                  have hEb : (E2 != 0) = true := by simpa using hE3
                  clear HD3 HRT HROW1
                  go_wp2
                  refine bodyPost_ret (v := .tuple #[.slice none 0 0, .slice none 0 0, .int .i64 0, .int .i64 E2]) (by simp [results, Tryz.results18, go_sem]) rfl ?_
                  exact RetCD.bad HB1.out HF.out
            · have hS0i : ¬ (S : Int) = 0 := by omega
              have HD3 := Lib.hid (HD2.out.trans (if_neg hS0))
              clear HD2 HTL HTZ
              by_cases hbig : 65536 < data.length + S
              · have HF : Hid (R = .bad 71) := Lib.hid (HD3.out.trans (if_pos hbig))
                have hbi : (65536 : Int) < (data.length : Int) + (S : Int) := by omega
                clear HD3 HCB HRD HROW
                go_wp2
                refine bodyPost_ret (v := .tuple #[.slice none 0 0, .slice none 0 0, .int .i64 0, .int .i64 71]) (by simp [results, Tryz.results18, go_sem]) rfl ?_
                exact RetCD.bad HB.out HF.out
              · have hbi : ¬ (65536 : Int) < (data.length : Int) + (S : Int) := by omega
                have HD4 := Lib.hid (HD3.out.trans (if_neg hbig))
                clear HD3
                by_cases hsh : l.length < k + N + S + 2
                · have HF : Hid (R = .bad 0) := Lib.hid (HD4.out.trans (if_pos (by rw [List.length_drop]; omega)))
                  have hsi : (l.length : Int) - ((k : Int) + (N : Int)) < (S : Int) + 2 := by omega
                  clear HD4 HCB HRD HROW
                  go_wp2
                  refine bodyPost_ret (v := .tuple #[.slice none 0 0, .slice none 0 0, .int .i64 0, .int .i64 0]) (by simp [results, Tryz.results18, go_sem]) rfl ?_
                  exact RetCD.bad HB.out HF.out
                · have hsi : ¬ (l.length : Int) - ((k : Int) + (N : Int)) < (S : Int) + 2 := by omega
                  have HD5 := Lib.hid (HD4.out.trans (if_neg (by rw [List.length_drop]; omega)))
                  clear HD4
                  obtain ⟨j, hj⟩ : ∃ j, j = k + N + S := ⟨_, rfl⟩
                  have hj1 : j + 1 < l.length := by omega
                  have hpre := C.pre_at l j hj1
                  have q0 := HCB.out j (by omega) _ HB.out
                  have q1 := HCB.out (j + 1) hj1 _ HB.out
                  have hjz : (k : Int) + (N : Int) + (S : Int) = (j : Int) := by omega
                  rw [show k + (N + S) = j by omega, hpre] at HD5
                  have HJ := Lib.hid hj
                  have HJZ := Lib.hid hjz
                  have hjl : (j : Int) < (l.length : Int) := by omega
                  have hjl1 : (j : Int) + 1 < (l.length : Int) := by omega
                  clear hpre HCB
                  generalize l[j]'(by omega) = x at *
                  generalize l[j + 1]'hj1 = y at *
                  clear hj
                  by_cases hx13 : x = 13
                  · have g1a : ((x.toNat : Int) == 13) = true := beqI_true (y := 13) hx13
                    have g1 : ((x.toNat : Int) != 13) = false := by rw [bne, g1a]; rfl
                    by_cases hy10 : y = 10
                    · have g2a : ((y.toNat : Int) == 10) = true := beqI_true (y := 10) hy10
                      have g2 : ((y.toNat : Int) != 10) = false := by rw [bne, g2a]; rfl
                      have HF := Lib.hid (HD5.out.trans (if_neg (by rw [decide_eq_true hx13, decide_eq_true hy10]; decide)))
                      clear HD5 hx13 hy10 g1a g2a
                      have HRS := Lib.hid (HRD.out (k + N) S (by omega) _ HB.out)
                      have hc2 : ¬ c = k + N := by omega
                      have hkz : ((k : Int) + (N : Int)).toNat = k + N := by omega
                      have h63 : data.length + S ≤ 4398046511104 := by omega
                      have hz := HB.out.size
                      have hjc : (j : Int) ≤ (c : Int) := by omega
                      have hlow : (k : Int) + (N : Int) ≤ (j : Int) := by omega
                      have hSj : S = j - (k + N) := by have := HJ.out; omega
                      rw [hSj] at HRS
                      have h63' : data.length + (j - (k + N)) ≤ 4398046511104 := by omega
                      have HSJ := Lib.hid hSj
                      clear HRD hSj
                      go_upto_region 19 with (at_builtin; refine appB _ rfl (.tmp 84) (.tmp 90) rfl w.heap.size Da data.length dc data rfl HROW.out (some ⟨b, o + (k + N), none⟩) (j - (k + N)) (c - (k + N)) ((l.drop (k + N)).take (j - (k + N))) rfl HRS.out h63' hz ?_; intro A3 c3 w3 hr3 ha3; have HR3 := Lib.hid hr3; have HB3 := Lib.hid (HB.out.trans (ha3.below HROW.out hz)); clear hr3 ha3)
                      clear HROW HRS HB q0 q1
                      have hlen : (data ++ (l.drop (k + N)).take S).length = data.length + (j - (k + N)) := by
                        rw [List.length_append, List.length_take, List.length_drop, ← HSJ.out]
                        omega
                      have hr := HR3.out
                      rw [← HSJ.out] at hr
                      have HR4 := Lib.hid hr
                      clear hr HR3
                      go_wp2
                      go_roundw
                      case rel =>
                        refine ⟨k + N + S + 2, A3, c3, data ++ (l.drop (k + N)).take S, by omega, by go_num, ?_, ?_, by rw [hlen]; omega, ?_, HB3.out⟩
                        · rw [hlen]
                        · have := HR4.out
                          rw [List.length_append, List.length_take, List.length_drop, show min S (l.length - (k + N)) = S by omega]
                          exact this
                        · rw [HF.out, show k + (N + S + 2) = k + N + S + 2 by omega]
                      case measure => simp [intOf]; omega
                    · have g2a : ((y.toNat : Int) == 10) = false := beqI_false (y := 10) hy10
                      have g2 : ((y.toNat : Int) != 10) = true := by rw [bne, g2a]; rfl
                      have HF : Hid (R = .bad 70) := Lib.hid (HD5.out.trans (if_pos (by rw [decide_eq_false hy10, Bool.and_false])))
                      clear HD5 hx13 hy10 g1a g2a HRD HROW
                      go_wp2
                      refine bodyPost_ret (v := .tuple #[.slice none 0 0, .slice none 0 0, .int .i64 0, .int .i64 70]) (by simp [results, Tryz.results18, go_sem]) rfl ?_
                      exact RetCD.bad HB.out HF.out
                  · have g1a : ((x.toNat : Int) == 13) = false := beqI_false (y := 13) hx13
                    have g1 : ((x.toNat : Int) != 13) = true := by rw [bne, g1a]; rfl
                    have HF : Hid (R = .bad 70) := Lib.hid (HD5.out.trans (if_pos (by rw [decide_eq_false hx13, Bool.false_and])))
                    clear HD5 hx13 g1a HRD HROW
                    go_wp2
                    refine bodyPost_ret (v := .tuple #[.slice none 0 0, .slice none 0 0, .int .i64 0, .int .i64 70]) (by simp [results, Tryz.results18, go_sem]) rfl ?_
                    exact RetCD.bad HB.out HF.out
        · have HF : Hid (R = .bad E) := Lib.hid (HD.out.trans (if_pos (.inl hE0)))
          have hEb : (E != 0) = true := by simpa using hE0
          clear HD HTL HTZ HCB HRD HROW
          go_wp2
          refine bodyPost_ret (v := .tuple #[.slice none 0 0, .slice none 0 0, .int .i64 0, .int .i64 E]) (by simp [results, Tryz.results18, go_sem]) rfl ?_
          exact RetCD.bad HB.out HF.out
end Go.Proofs.YtnmldbcgpfglkaaGreatDoor
