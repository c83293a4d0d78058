/- The walk of the document's size line. -/
import Derived.Test.YtnmldbcgpfglkaaGreatDoorChunkR
import Derived.Test.YtnmldbcgpfglkaaGreatDoorChunkB
namespace Go.Proofs.YtnmldbcgpfglkaaGreatDoor
open Go.RowKit

set_option maxHeartbeats 4000000 in
set_option maxRecDepth 100000 in
theorem refLine_any (A : Option Addr) (c : Nat) (l : List UInt8) (w : World) (hn : l.length ≤ 1073741824) (hnc : l.length ≤ c) (hx : Rd w A l.length 1 (bcells l)) :
    Calls Tryz.prog 41 #[.slice A l.length c] w (RetP w (.tuple #[.int .i64 (C.lineS l), .int .i64 (C.lineN l), .int .i64 (C.lineE l)])) := by
  have HX := Lib.hid (fun k hk => rd_byte hx k hk)
  have HZ := Lib.hid (fun (j : Nat) (hj : j ≤ l.length) => show Calls Tryz.prog 81 #[.slice A j c] w (RetP w (.int .i64 (C.sizeOf (l.take j)))) from by
    have hlen : (l.take j).length = j := by rw [List.length_take]; omega
    have := refSize_any A c (l.take j) w (by omega) (by rw [hlen]; exact hx.upto hj)
    rwa [hlen] at this)
  clear hx
  go_enter Tryz.func41, Tryz.ntmps41
  go_wp2
  go_loop [5] (fun vk => ∃ k : Nat, k ≤ l.length ∧ vk = .int .i64 k ∧ Hid (∀ j (h : j < l.length), j < k → C.lf l[j] = false)) (fun vk => l.length - (intOf vk).toNat)
  case atStart => exact ⟨0, by omega, rfl, Lib.hid (fun j _ h => absurd h (by omega))⟩
  case round =>
    obtain ⟨k, hkl, rfl, HP⟩ := hrel
    by_cases hkn : k < l.length
    · obtain ⟨b, o, rfl, hc⟩ := HX.out k hkn
      by_cases hlf : C.lf (l[k]'hkn) = true
      · have heol : C.eolAt l = k := by
          have := (P.upto_eq (p := C.lf) hkl HP.out (fun _ => hlf)).1
          unfold C.eolAt
          rw [this, List.length_take]
          omega
        have h10 : (l[k]'hkn).toNat = 10 := by
          unfold C.lf at hlf
          rw [beq_iff_eq] at hlf
          rw [hlf]
          rfl
        rw [h10] at hc
        have hlt : C.eolAt l < l.length := by omega
        have HBAD : Hid (C.lineBad l → C.lineE l = 70 ∧ C.lineN l = 0 ∧ C.lineS l = 0) := Lib.hid fun h => by
          unfold C.lineE C.lineN C.lineS
          rw [if_pos hlt, if_pos h, if_neg (fun h2 => h2.2 h), if_neg (fun h2 => h2.2 h)]
          exact ⟨rfl, rfl, rfl⟩
        have HGOOD : Hid (¬ C.lineBad l → C.lineE l = 0 ∧ C.lineN l = k + 1 ∧ C.lineS l = (C.sizeOf (l.take (k - 1))).toNat) := Lib.hid fun h => by
          unfold C.lineE C.lineN C.lineS
          rw [if_pos hlt, if_neg h, if_pos ⟨hlt, h⟩, if_pos ⟨hlt, h⟩, heol]
          exact ⟨rfl, rfl, rfl⟩
        have HEO := Lib.hid heol
        clear heol hlt hlf h10 HP
        by_cases h2 : 200 ≤ k
        · have HE := Lib.hid (HBAD.out (.inl (by rw [HEO.out]; exact h2)))
          have h2i : (200 : Int) < (k : Int) + 1 := by omega
          clear HBAD HGOOD HZ HX
          go_wp2
          refine bodyPost_ret (v := .tuple #[.int .i64 0, .int .i64 0, .int .i64 70]) (by simp [results, Tryz.results41, go_sem]) rfl ?_
          exact ⟨by rw [HE.out.1, HE.out.2.1, HE.out.2.2]; rfl, rfl⟩
        · have h2i : ¬ (200 : Int) < (k : Int) + 1 := by omega
          by_cases h0 : k = 0
          · have HE := Lib.hid (HBAD.out (.inr (.inl (by rw [HEO.out]; exact h0))))
            have h0i : (k : Int) = 0 := by omega
            have hc0 := hc
            rw [h0, Nat.add_zero] at hc0
            clear HBAD HGOOD HZ HX
            go_wp2
            refine bodyPost_ret (v := .tuple #[.int .i64 0, .int .i64 0, .int .i64 70]) (by simp [results, Tryz.results41, go_sem]) rfl ?_
            exact ⟨by rw [HE.out.1, HE.out.2.1, HE.out.2.2]; rfl, rfl⟩
          · obtain ⟨j, rfl⟩ : ∃ j, k = j + 1 := ⟨k - 1, by omega⟩
            have hjl : j < l.length := by omega
            have hjb : ((j : Int) + 1 == 0) = false := beq_eq_false_iff_ne.2 (by omega)
            obtain ⟨b2, o2, hA2, hc2⟩ := HX.out j hjl
            cases hA2
            have hgd : l.getD j 0 = l[j]'hjl := by simp [List.getD, hjl]
            by_cases h13 : l[j]'hjl = 13
            · have h13n : (l[j]'hjl).toNat = 13 := by rw [h13]; rfl
              rw [h13n] at hc2
              have HK := Lib.hid (HZ.out j (by omega))
              have hjc : (j : Int) ≤ c := by omega
              by_cases hz : C.sizeOf (l.take j) < 0
              · have HE := Lib.hid (HBAD.out (.inr (.inr (.inr (by rw [HEO.out]; exact hz)))))
                clear HBAD HGOOD HZ HX h13 h13n hgd
                go_wp2_with (refine HK.out.mono ?_; rintro e w1 ⟨rfl, rfl⟩)
                refine bodyPost_ret (v := .tuple #[.int .i64 0, .int .i64 0, .int .i64 70]) (by simp [results, Tryz.results41, go_sem]) rfl ?_
                exact ⟨by rw [HE.out.1, HE.out.2.1, HE.out.2.2]; rfl, rfl⟩
              · have HE := Lib.hid (HGOOD.out (by
                  rintro (h | h | h | h)
                  · rw [HEO.out] at h; omega
                  · rw [HEO.out] at h; omega
                  · rw [HEO.out] at h; exact h (by rw [Nat.add_sub_cancel, hgd, h13])
                  · rw [HEO.out] at h; exact hz h))
                have HSS : Hid ((C.lineS l : Int) = C.sizeOf (l.take j)) := Lib.hid (by
                  rw [HE.out.2.2, Nat.add_sub_cancel]
                  omega)
                have hz0 : 0 ≤ C.sizeOf (l.take j) := by omega
                clear HBAD HGOOD HZ HX h13 h13n hgd
                generalize C.sizeOf (l.take j) = z at *
                go_wp2_with (refine HK.out.mono ?_; rintro e w1 ⟨rfl, rfl⟩)
                refine bodyPost_ret (v := .tuple #[.int .i64 z, .int .i64 ((j : Int) + 1 + 1), .int .i64 0]) (by simp [results, Tryz.results41, go_sem]) rfl ?_
                exact ⟨by rw [HE.out.1, HE.out.2.1, HSS.out]; rfl, rfl⟩
            · have HE := Lib.hid (HBAD.out (.inr (.inr (.inl (by rw [HEO.out, Nat.add_sub_cancel, hgd]; exact h13)))))
              have h13n : ¬ (l[j]'hjl).toNat = 13 := fun h => h13 (UInt8.toNat_inj.1 h)
              generalize l[j]'hjl = y at *
              have h13b : ((y.toNat : Int) != 13) = true := bne_iff_ne.2 (by omega)
              clear HBAD HGOOD HZ HX h13 hgd
              go_wp2
              refine bodyPost_ret (v := .tuple #[.int .i64 0, .int .i64 0, .int .i64 70]) (by simp [results, Tryz.results41, go_sem]) rfl ?_
              exact ⟨by rw [HE.out.1, HE.out.2.1, HE.out.2.2]; rfl, rfl⟩
      · rw [Bool.not_eq_true] at hlf
        have HN : Hid (∀ j (h : j < l.length), j < k + 1 → C.lf l[j] = false) := Lib.hid (fun j hj h => by
          by_cases hjk : j = k
          · subst hjk; exact hlf
          · exact HP.out j hj (by omega))
        have h10 : ¬ (l[k]'hkn).toNat = 10 := fun h => by
          have : l[k]'hkn = 10 := UInt8.toNat_inj.1 h
          rw [this] at hlf
          exact absurd hlf (by decide)
        generalize l[k]'hkn = x at *
        have h10b : ((x.toNat : Int) != 10) = true := bne_iff_ne.2 (by omega)
        clear hlf h10
        go_wp2
        exact ⟨⟨k + 1, by omega, (by first | rfl | (congr 1; omega)), HN⟩, by simp [intOf]; omega⟩
    · have hkk : k = l.length := by omega
      have heol : C.eolAt l = l.length := by
        have := (P.upto_eq (p := C.lf) hkl HP.out (fun h => absurd h hkn)).1
        unfold C.eolAt
        rw [this, List.length_take]
        omega
      have hL : C.lineE l = (if 200 ≤ l.length then 70 else 0) ∧ C.lineN l = 0 ∧ C.lineS l = 0 := by
        exact ⟨by unfold C.lineE; rw [heol, if_neg (Nat.lt_irrefl _)], by unfold C.lineN; rw [heol, if_neg (fun h => Nat.lt_irrefl _ h.1)], by unfold C.lineS; rw [heol, if_neg (fun h => Nat.lt_irrefl _ h.1)]⟩
      have HL := Lib.hid hL
      have hki : (k : Int) = l.length := by omega
      clear heol hL hkk HX HZ HP hkn
      by_cases h2 : 200 ≤ l.length
      · have HE := Lib.hid (HL.out.1.trans (if_pos h2))
        have h2i : (200 : Int) ≤ l.length := by omega
        go_wp2
        refine bodyPost_ret (v := .tuple #[.int .i64 0, .int .i64 0, .int .i64 70]) (by simp [results, Tryz.results41, go_sem]) rfl ?_
        exact ⟨by rw [HE.out, HL.out.2.1, HL.out.2.2]; rfl, rfl⟩
      · have HE := Lib.hid (HL.out.1.trans (if_neg h2))
        have h2i : ¬ (200 : Int) ≤ l.length := by omega
        go_wp2
        refine bodyPost_ret (v := .tuple #[.int .i64 0, .int .i64 0, .int .i64 0]) (by simp [results, Tryz.results41, go_sem]) rfl ?_
        exact ⟨by rw [HE.out, HL.out.2.1, HL.out.2.2]; rfl, rfl⟩
end Go.Proofs.YtnmldbcgpfglkaaGreatDoor
