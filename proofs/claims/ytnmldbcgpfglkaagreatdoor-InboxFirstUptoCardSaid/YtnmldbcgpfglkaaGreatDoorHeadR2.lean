/- The walks of the document's end and split. Conditions: rows of at most 2^30 bytes. -/
import Derived.Test.YtnmldbcgpfglkaaGreatDoorHeadB
import Derived.Test.YtnmldbcgpfglkaaGreatDoorTokC
import Derived.Test.YtnmldbcgpfglkaaGreatDoorRegionA
import Derived.IntWalk
namespace Go.Proofs.YtnmldbcgpfglkaaGreatDoor
open Go.RowKit

theorem occ4 (l : List UInt8) (i : Nat) (h : i + 3 < l.length) : Lib.occAt l P.crlf2 i = (decide (l[i]'(by omega) = 13) && decide (l[i + 1]'(by omega) = 10) && decide (l[i + 2]'(by omega) = 13) && decide (l[i + 3]'(by omega) = 10)) := by
  unfold Lib.occAt P.crlf2
  rw [List.drop_eq_getElem_cons (by omega : i < l.length), List.drop_eq_getElem_cons (by omega : i + 1 < l.length), List.drop_eq_getElem_cons (by omega : i + 1 + 1 < l.length), List.drop_eq_getElem_cons (by omega : i + 1 + 1 + 1 < l.length)]
  simp only [List.isPrefixOf, Bool.and_true]
  have hb : ∀ x y : UInt8, (x == y) = decide (y = x) := fun x y => by
    rw [Bool.eq_iff_iff, beq_iff_eq, decide_eq_true_iff]; exact eq_comm
  rw [hb, hb, hb, hb]
  simp only [Bool.and_assoc]
theorem occ2 (l : List UInt8) (i : Nat) (h : i + 1 < l.length) : Lib.occAt l P.crlf i = (decide (l[i]'(by omega) = 13) && decide (l[i + 1]'(by omega) = 10)) := by
  unfold Lib.occAt P.crlf
  rw [List.drop_eq_getElem_cons (by omega : i < l.length), List.drop_eq_getElem_cons (by omega : i + 1 < l.length)]
  simp only [List.isPrefixOf, Bool.and_true]
  have hb : ∀ x y : UInt8, (x == y) = decide (y = x) := fun x y => by
    rw [Bool.eq_iff_iff, beq_iff_eq, decide_eq_true_iff]; exact eq_comm
  rw [hb, hb]
theorem occ_drop (l p : List UInt8) (k j : Nat) : Lib.occAt (l.drop k) p j = Lib.occAt l p (k + j) := by
  unfold Lib.occAt
  rw [List.drop_drop]

def RetEnd (w : World) (bs : List UInt8) (k : Nat) (e : Ending) (w' : World) : Prop := e = .returned (.tuple #[.int .i64 (P.hN bs k), .int .i64 (P.hE bs k)]) ∧ w = w'

set_option maxRecDepth 100000 in
set_option maxHeartbeats 2000000 in
theorem refEnd_any (A : Option Addr) (n c k : Nat) (bs : List UInt8) (w : World) (hnm : n ≤ 1073741824) (hkn : k ≤ n) (hx : Rd w A n 1 (bcells bs)) :
    Calls Tryz.prog 99 #[.slice A n c, .int .i64 k] w (RetEnd w bs k) := by
  have hll := rd_len hx
  have HCL := Lib.hid (fun (j : Nat) (hj : j < bs.length) => show ∃ b o, A = some ⟨b, o, none⟩ ∧ w.cell? ⟨b, o + j, none⟩ = some (.int .u8 (bs[j]'hj).toNat) from by
    obtain ⟨b, o, e, _, hc⟩ := hx.2 (by omega)
    exact ⟨b, o, e, hc j _ (by simp [bcells, hj])⟩)
  clear hx
  obtain ⟨N0, hN0⟩ : ∃ N0, P.hN bs k = N0 := ⟨_, rfl⟩
  obtain ⟨E0, hE0⟩ : ∃ E0, P.hE bs k = E0 := ⟨_, rfl⟩
  unfold RetEnd
  rw [hN0, hE0]
  have HNE : Hid ((N0 = if P.hIdx bs k < 0 ∨ 8192 < k + P.hIdx bs k + 4 then 0 else k + P.hIdx bs k + 4) ∧ E0 = if P.hIdx bs k < 0 then (if bs.length < 8192 then 0 else 51) else if 8192 < k + P.hIdx bs k + 4 then 51 else 0) := Lib.hid ⟨hN0.symm, hE0.symm⟩
  clear hN0 hE0
  go_enter Tryz.func99, Tryz.ntmps99
  go_wp2
  go_loop [6] (fun s6 => ∃ i : Nat, k ≤ i ∧ i ≤ n ∧ s6 = .int .i64 i ∧ ∀ j, k ≤ j → j < i → Lib.occAt bs P.crlf2 j = false) (fun s6 => n - (intOf s6).toNat)
  case atStart => exact ⟨k, Nat.le_refl _, hkn, rfl, fun j h1 h2 => absurd h1 (by omega)⟩
  case round =>
    obtain ⟨i, hki, hin, rfl, hno⟩ := hrel
    have HNO := Lib.hid hno
    clear hno
    by_cases hlt : i + 3 < n
    · have hii : (i : Int) + 3 < (n : Int) := by omega
      have hi0 : (i : Int) < (n : Int) := by omega
      have hi1 : (i : Int) + 1 < (n : Int) := by omega
      have hi2 : (i : Int) + 2 < (n : Int) := by omega
      have HOC := Lib.hid (occ4 bs i (by omega))
      obtain ⟨b, o, rfl, q0⟩ := HCL.out i (by omega)
      have q1 : w.cell? ⟨b, o + (i + 1), none⟩ = some (.int .u8 (bs[i + 1]'(by omega)).toNat) := by
        obtain ⟨b', o', e, q⟩ := HCL.out (i + 1) (by omega)
        cases e; exact q
      have q2 : w.cell? ⟨b, o + (i + 2), none⟩ = some (.int .u8 (bs[i + 2]'(by omega)).toNat) := by
        obtain ⟨b', o', e, q⟩ := HCL.out (i + 2) (by omega)
        cases e; exact q
      have q3 : w.cell? ⟨b, o + (i + 3), none⟩ = some (.int .u8 (bs[i + 3]'(by omega)).toNat) := by
        obtain ⟨b', o', e, q⟩ := HCL.out (i + 3) (by omega)
        cases e; exact q
      have NEXT : Lib.occAt bs P.crlf2 i = false → ∀ j, k ≤ j → j < i + 1 → Lib.occAt bs P.crlf2 j = false := fun h j h1 h2 => by
        by_cases hji : j = i
        · subst hji; exact h
        · exact HNO.out j h1 (by omega)
      have HNX := Lib.hid NEXT
      clear NEXT
      generalize bs[i]'(by omega) = a0 at *
      generalize bs[i + 1]'(by omega) = a1 at *
      generalize bs[i + 2]'(by omega) = a2 at *
      generalize bs[i + 3]'(by omega) = a3 at *
      by_cases h0 : a0 = 13
      · have g0 : ((a0.toNat : Int) == 13) = true := beqI_true (y := 13) h0
        by_cases h1 : a1 = 10
        · have g1 : ((a1.toNat : Int) == 10) = true := beqI_true (y := 10) h1
          by_cases h2 : a2 = 13
          · have g2 : ((a2.toNat : Int) == 13) = true := beqI_true (y := 13) h2
            by_cases h3 : a3 = 10
            · have g3 : ((a3.toNat : Int) == 10) = true := beqI_true (y := 10) h3
              have hix : P.hIdx bs k = ((i - k : Nat) : Int) := by
                have hoc : Lib.occAt bs P.crlf2 i = true := by rw [HOC.out, decide_eq_true h0, decide_eq_true h1, decide_eq_true h2, decide_eq_true h3]; rfl
                refine Lib.index_hit ?_ (by rw [List.length_drop]; omega) (by rw [occ_drop, show k + (i - k) = i by omega]; exact hoc)
                intro j hj
                rw [occ_drop]
                exact HNO.out _ (by omega) (by omega)
              rw [hix] at HNE
              clear h0 h1 h2 h3 HOC HNX HNO hix HCL
              by_cases h8 : 8192 < i + 4
              · have HR : Hid (N0 = 0 ∧ E0 = 51) := Lib.hid ⟨HNE.out.1.trans (if_pos (.inr (by omega))), HNE.out.2.trans ((if_neg (by omega)).trans (if_pos (by omega)))⟩
                have h8i : (8192 : Int) < (i : Int) + 4 := by omega
                go_wp2
                go_ret2
                exact ⟨by rw [HR.out.1, HR.out.2]; rfl, rfl⟩
              · have HR : Hid (N0 = (i : Int) + 4 ∧ E0 = 0) := Lib.hid ⟨HNE.out.1.trans ((if_neg (by omega)).trans (by omega)), HNE.out.2.trans ((if_neg (by omega)).trans (if_neg (by omega)))⟩
                have h8i : ¬ (8192 : Int) < (i : Int) + 4 := by omega
                go_wp2
                go_ret2
                exact ⟨by rw [HR.out.1, HR.out.2]; rfl, rfl⟩
            · have g3 : ((a3.toNat : Int) == 10) = false := beqI_false (y := 10) h3
              have NEXT := Lib.hid (HNX.out (by rw [HOC.out, decide_eq_false h3, Bool.and_false]))
              clear h0 h1 h2 h3 HOC HNX HNO
              go_wp2
              go_round
              case rel => exact ⟨i + 1, by omega, by omega, by go_num, NEXT.out⟩
              case measure => simp [intOf]; omega
          · have g2 : ((a2.toNat : Int) == 13) = false := beqI_false (y := 13) h2
            have NEXT := Lib.hid (HNX.out (by rw [HOC.out, decide_eq_false h2, Bool.and_false, Bool.false_and]))
            clear h0 h1 h2 HOC HNX HNO
            go_wp2
            go_round
            case rel => exact ⟨i + 1, by omega, by omega, by go_num, NEXT.out⟩
            case measure => simp [intOf]; omega
        · have g1 : ((a1.toNat : Int) == 10) = false := beqI_false (y := 10) h1
          have NEXT := Lib.hid (HNX.out (by rw [HOC.out, decide_eq_false h1, Bool.and_false, Bool.false_and, Bool.false_and]))
          clear h0 h1 HOC HNX HNO
          go_wp2
          go_round
          case rel => exact ⟨i + 1, by omega, by omega, by go_num, NEXT.out⟩
          case measure => simp [intOf]; omega
      · have g0 : ((a0.toNat : Int) == 13) = false := beqI_false (y := 13) h0
        have NEXT := Lib.hid (HNX.out (by rw [HOC.out, decide_eq_false h0, Bool.false_and, Bool.false_and, Bool.false_and]))
        clear h0 HOC HNX HNO
        go_wp2
        go_round
        case rel => exact ⟨i + 1, by omega, by omega, by go_num, NEXT.out⟩
        case measure => simp [intOf]; omega
    · have hii : ¬ (i : Int) + 3 < (n : Int) := by omega
      have hix : P.hIdx bs k = -1 := Lib.index_past (i := i - k) (by decide) (fun j hj => by
          rw [occ_drop]
          exact HNO.out _ (by omega) (by omega)) (by rw [List.length_drop]; show bs.length - k < i - k + 4; omega)
      rw [hix] at HNE
      clear HNO HCL hix
      by_cases h8 : bs.length < 8192
      · have HR : Hid (N0 = 0 ∧ E0 = 0) := Lib.hid ⟨HNE.out.1.trans (if_pos (.inl (by decide))), HNE.out.2.trans ((if_pos (by decide)).trans (if_pos h8))⟩
        have h8i : ¬ (8192 : Int) ≤ (n : Int) := by omega
        go_wp2
        go_ret2
        exact ⟨by rw [HR.out.1, HR.out.2]; rfl, rfl⟩
      · have HR : Hid (N0 = 0 ∧ E0 = 51) := Lib.hid ⟨HNE.out.1.trans (if_pos (.inl (by decide))), HNE.out.2.trans ((if_pos (by decide)).trans (if_neg h8))⟩
        have h8i : (8192 : Int) ≤ (n : Int) := by omega
        go_wp2
        go_ret2
        exact ⟨by rw [HR.out.1, HR.out.2]; rfl, rfl⟩

/-- A text's first line and what stands behind it, answered. -/
def RetSplit (w : World) (b o m cc : Nat) (h : List UInt8) (j : Nat) (e : Ending) (w' : World) : Prop :=
  e = .returned (.tuple #[.string (B (h.take j)), .slice (some ⟨b, o + (j + 2), none⟩) (m - (j + 2)) (cc - (j + 2))]) ∧ Below w.heap.size w w'

set_option maxRecDepth 100000 in
set_option maxHeartbeats 2000000 in
theorem refSplit_any (b o m cc : Nat) (h : List UInt8) (j : Nat) (w : World) (hm : m ≤ 1073741824) (hjm : j + 2 ≤ m) (hmc : m < cc) (hx : Rd w (some ⟨b, o, none⟩) m 1 (bcells h)) (hj : Lib.index h P.crlf = j) :
    Calls Tryz.prog 100 #[.slice (some ⟨b, o, none⟩) m cc] w (RetSplit w b o m cc h j) := by
  have hll := rd_len hx
  have hspec : (∀ i, i < j → Lib.occAt h P.crlf i = false) ∧ Lib.occAt h P.crlf j = true := by
    rcases Lib.index_spec h P.crlf with ⟨h1, _⟩ | ⟨i, h1, h2, h3, h4⟩
    · rw [hj] at h1
      omega
    · rw [hj] at h1
      obtain rfl : j = i := by omega
      exact ⟨fun i hi => h4 i hi, h3⟩
  have HS := Lib.hid hspec
  have HX := Lib.hid hx
  have HCL := Lib.hid (fun (j : Nat) (hj : j < h.length) => show w.cell? ⟨b, o + j, none⟩ = some (.int .u8 (h[j]'hj).toNat) from by
    obtain ⟨b', o', e, _, hc⟩ := hx.2 (by omega)
    cases e
    exact hc j _ (by simp [bcells, hj]))
  clear hx hspec hj
  go_enter Tryz.func100, Tryz.ntmps100
  go_wp2
  go_loop [4] (fun s4 => ∃ i : Nat, i ≤ j ∧ s4 = .int .i64 i) (fun s4 => j - (intOf s4).toNat)
  case atStart => exact ⟨0, Nat.zero_le _, rfl⟩
  case round =>
    obtain ⟨i, hij, rfl⟩ := hrel
    have hi0 : (i : Int) < (m : Int) := by omega
    have hi1 : (i : Int) + 1 < (m : Int) := by omega
    have q0 := HCL.out i (by omega)
    have q1 := HCL.out (i + 1) (by omega)
    have HOC := Lib.hid (occ2 h i (by omega))
    generalize h[i]'(by omega) = a0 at *
    generalize h[i + 1]'(by omega) = a1 at *
    by_cases hlt : i < j
    · have hoc := HS.out.1 i hlt
      rw [HOC.out] at hoc
      by_cases h0 : a0 = 13
      · have h1 : ¬ a1 = 10 := fun h1 => by
          rw [decide_eq_true h0, decide_eq_true h1] at hoc
          cases hoc
        have g0a : ((a0.toNat : Int) == 13) = true := beqI_true (y := 13) h0
        have g0 : ((a0.toNat : Int) != 13) = false := by rw [bne, g0a]; rfl
        have g1a : ((a1.toNat : Int) == 10) = false := beqI_false (y := 10) h1
        have g1 : ((a1.toNat : Int) != 10) = true := by rw [bne, g1a]; rfl
        clear h0 h1 hoc g0a g1a HOC
        go_wp2
        go_round
        case rel => exact ⟨i + 1, by omega, by go_num⟩
        case measure => simp [intOf]; omega
      · have g0a : ((a0.toNat : Int) == 13) = false := beqI_false (y := 13) h0
        have g0 : ((a0.toNat : Int) != 13) = true := by rw [bne, g0a]; rfl
        clear h0 hoc g0a HOC
        go_wp2
        go_round
        case rel => exact ⟨i + 1, by omega, by go_num⟩
        case measure => simp [intOf]; omega
    · obtain rfl : i = j := by omega
      have hoc := HS.out.2
      rw [HOC.out, Bool.and_eq_true] at hoc
      have h0 : a0 = 13 := of_decide_eq_true hoc.1
      have h1 : a1 = 10 := of_decide_eq_true hoc.2
      have g0a : ((a0.toNat : Int) == 13) = true := beqI_true (y := 13) h0
      have g0 : ((a0.toNat : Int) != 13) = false := by rw [bne, g0a]; rfl
      have g1a : ((a1.toNat : Int) == 10) = true := beqI_true (y := 10) h1
      have g1 : ((a1.toNat : Int) != 10) = false := by rw [bne, g1a]; rfl
      clear h0 h1 hoc g0a g1a HOC HS HCL
      go_wp2
      have hS0 : Below w.heap.size w w.drew := (Below.refl _ _).drew
      have him : (i : Int) ≤ (m : Int) := by omega
      have him2 : (i : Int) + 2 ≤ (m : Int) := by omega
      have hic : (i : Int) + 2 < (cc : Int) := by omega
      have hicn : ¬ (i : Int) + 2 = (cc : Int) := by omega
      have hicn2 : ¬ cc = i + 2 := by omega
      have hicc : (i : Int) ≤ (cc : Int) := by omega
      have hw2 : IntKind.i64.wrap ((i : Int) + 2) = (i : Int) + 2 := IntWalk.i64_in _ (by omega)
      have hw3 : 0 ≤ (i : Int) + 2 := by omega
      have hw4 : ((i : Int) + 2).toNat = i + 2 := by omega
      refine wp_region_noPanic ?_
      refine HT.begin (n := 9) (S := Below w.heap.size w) (by kernel_rfl) hS0 ?_
      refine HT.take 0 (.slice (some ⟨b, o, none⟩) m cc) rfl (by kernel_rfl) (fun _ _ _ h => h) (Or.inl ⟨by rfl, ?_⟩) (?_ : HT _ _ _ _ _ _ _ ⟨#[_, _, _, _, _, _, _, _, _, _, _, _, _, _, _, _, _, _, _, _, .slice (some ⟨b, o, none⟩) m cc, _, _, _, _, _, _, _], []⟩ _)
      · intro u hu
        go_simp
      refine HT.take 1 (.int .i64 i) rfl (by kernel_rfl) (fun _ _ _ h => h) (Or.inl ⟨by rfl, ?_⟩) (?_ : HT _ _ _ _ _ _ _ ⟨#[_, _, _, _, _, _, _, _, _, _, _, _, _, _, _, _, _, _, _, _, .slice (some ⟨b, o, none⟩) m cc, .int .i64 i, _, _, _, _, _, _], []⟩ _)
      · intro u hu
        go_simp
      refine HT.take 2 (.slice (some ⟨b, o, none⟩) i cc) rfl (by kernel_rfl) (fun _ _ _ h => h) (Or.inl ⟨by rfl, ?_⟩) (?_ : HT _ _ _ _ _ _ _ ⟨#[_, _, _, _, _, _, _, _, _, _, _, _, _, _, _, _, _, _, _, _, .slice (some ⟨b, o, none⟩) m cc, .int .i64 i, .slice (some ⟨b, o, none⟩) i cc, _, _, _, _, _], []⟩ _)
      · intro u hu
        go_simp
      refine HT.take 3 (.string (B (h.take i))) rfl (by kernel_rfl) (fun _ _ _ h => h) (Or.inl ⟨by rfl, ?_⟩) (?_ : HT _ _ _ _ _ _ _ ⟨#[_, _, _, _, _, _, _, _, _, _, _, _, _, _, _, _, _, _, _, _, .slice (some ⟨b, o, none⟩) m cc, .int .i64 i, .slice (some ⟨b, o, none⟩) i cc, .string (B (h.take i)), _, _, _, _], []⟩ _)
      · intro u hu
        have hcv := conv_bs ((HX.out.below hu).upto (show i ≤ m by omega)) cc
        go_simp
      refine HT.take 4 (.slice (some ⟨b, o, none⟩) m cc) rfl (by kernel_rfl) (fun _ _ _ h => h) (Or.inl ⟨by rfl, ?_⟩) (?_ : HT _ _ _ _ _ _ _ ⟨#[_, _, _, _, _, _, _, _, _, _, _, _, _, _, _, _, _, _, _, _, .slice (some ⟨b, o, none⟩) m cc, .int .i64 i, .slice (some ⟨b, o, none⟩) i cc, .string (B (h.take i)), .slice (some ⟨b, o, none⟩) m cc, _, _, _], []⟩ _)
      · intro u hu
        go_simp
      refine HT.take 5 (.int .i64 i) rfl (by kernel_rfl) (fun _ _ _ h => h) (Or.inl ⟨by rfl, ?_⟩) (?_ : HT _ _ _ _ _ _ _ ⟨#[_, _, _, _, _, _, _, _, _, _, _, _, _, _, _, _, _, _, _, _, .slice (some ⟨b, o, none⟩) m cc, .int .i64 i, .slice (some ⟨b, o, none⟩) i cc, .string (B (h.take i)), .slice (some ⟨b, o, none⟩) m cc, .int .i64 i, _, _], []⟩ _)
      · intro u hu
        go_simp
      refine HT.take 6 (.int .i64 ((i : Int) + 2)) rfl (by kernel_rfl) (fun _ _ _ h => h) (Or.inl ⟨by rfl, ?_⟩) (?_ : HT _ _ _ _ _ _ _ ⟨#[_, _, _, _, _, _, _, _, _, _, _, _, _, _, _, _, _, _, _, _, .slice (some ⟨b, o, none⟩) m cc, .int .i64 i, .slice (some ⟨b, o, none⟩) i cc, .string (B (h.take i)), .slice (some ⟨b, o, none⟩) m cc, .int .i64 i, .int .i64 ((i : Int) + 2), _], []⟩ _)
      · intro u hu
        go_simp
      refine HT.take 7 (.slice (some ⟨b, o + (i + 2), none⟩) (m - (i + 2)) (cc - (i + 2))) rfl (by kernel_rfl) (fun _ _ _ h => h) (Or.inl ⟨by rfl, ?_⟩) (?_ : HT _ _ _ _ _ _ _ ⟨#[_, _, _, _, _, _, _, _, _, _, _, _, _, _, _, _, _, _, _, _, .slice (some ⟨b, o, none⟩) m cc, .int .i64 i, .slice (some ⟨b, o, none⟩) i cc, .string (B (h.take i)), .slice (some ⟨b, o, none⟩) m cc, .int .i64 i, .int .i64 ((i : Int) + 2), .slice (some ⟨b, o + (i + 2), none⟩) (m - (i + 2)) (cc - (i + 2))], []⟩ _)
      · intro u hu
        go_simp
      refine HT.take 8 (.string (B (h.take i))) rfl (by kernel_rfl) (fun _ _ _ h => h) (Or.inl ⟨by rfl, ?_⟩) (?_ : HT _ _ _ _ _ _ _ ⟨#[_, _, .string (B (h.take i)), _, _, _, _, _, _, _, _, _, _, _, _, _, _, _, _, _, .slice (some ⟨b, o, none⟩) m cc, .int .i64 i, .slice (some ⟨b, o, none⟩) i cc, .string (B (h.take i)), .slice (some ⟨b, o, none⟩) m cc, .int .i64 i, .int .i64 ((i : Int) + 2), .slice (some ⟨b, o + (i + 2), none⟩) (m - (i + 2)) (cc - (i + 2))], []⟩ _)
      · intro u hu
        go_simp
      refine HT.tail _ rfl rfl (by kernel_rfl) (fun hS => ?_)
      have HB := Lib.hid hS
      clear hS hS0
      go_wp2
      refine NoPanic.normal ?_
      go_wp2
      go_ret2
      exact ⟨rfl, HB.out⟩
end Go.Proofs.YtnmldbcgpfglkaaGreatDoor
