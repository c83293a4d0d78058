/- The walk of the decoder's readTail. -/
import Derived.Test.YtnmldbcgpfglkaaGreatDoorChunkC
import Derived.Test.YtnmldbcgpfglkaaGreatDoorHeadB
namespace Go.Proofs.YtnmldbcgpfglkaaGreatDoor
open Go.RowKit

theorem neF : 64 ≠ 72 := by decide
/-- The trailers' value. -/
def TvRow (w u : World) (fs : List FD) (tv : Value) : Prop := ∃ TA tc, tv = .slice TA fs.length tc ∧ Row u (w.heap.size + 1) 72 2 TA fs.length tc (fcells fs)
theorem TvRow.nil (w u : World) : TvRow w u [] (.slice none 0 0) := ⟨none, 0, rfl, Row.none_ _ _ _ _⟩
/-- What readTail answers. -/
def RetRT (w : World) (z : Int) (A : Option Addr) (n c : Nat) (l : List UInt8) (Da : Option Addr) (dc : Nat) (data : List UInt8) (e : Ending) (w' : World) : Prop :=
  ((C.tailE l ≠ 0 ∨ C.tailN l = 0) ∧ e = .returned (.tuple #[.bool false, .int .i64 (C.tailE l)]) ∧ Below w.heap.size w w') ∨
  (¬ (C.tailE l ≠ 0 ∨ C.tailN l = 0) ∧ e = .returned (.tuple #[.bool true, .int .i64 0]) ∧
    ∃ tv, St w w' 3 z (addA A c (C.tailN l)) (n - C.tailN l) (c - C.tailN l) (l.drop (C.tailN l)) Da dc data tv ∧ TvRow w w' (C.tailF l) tv)
set_option maxHeartbeats 4000000 in
set_option maxRecDepth 100000 in
theorem readTail_any (w u : World) (z : Int) (A : Option Addr) (n c : Nat) (l : List UInt8) (Da : Option Addr) (dc : Nat) (data : List UInt8) (hS : St w u 2 z A n c l Da dc data (.slice none 0 0)) (hn : n ≤ 1073741824) (ht : LibOk w) :
    Calls Tryz.prog 80 #[.pointer (some ⟨w.heap.size, 0, none⟩)] u (RetRT w z A n c l Da dc data) := by
  have hll := rd_len hS.rd
  have hcap := hS.cap
  have HLT := Lib.hid (fun (v : World) (hv : Below w.heap.size w v) => ht.below hv)
  have HS1 := Lib.hid (hS.stage 3)
  clear ht
  obtain ⟨x0, x1, x2, x3, x4⟩ := hS.cells
  obtain ⟨f0, f1, f2, f3, f4⟩ := hS.frees
  go_enter Tryz.func80, Tryz.ntmps80
  go_upto_region 2 with fail
  generalize u.setCell ⟨w.heap.size, 1, none⟩ (.int .i64 3) = u1 at *
  clear x0 x1 x2 x3 x4 f0 f1 f2 f3 f4 hS
  obtain ⟨x0, x1, x2, x3, x4⟩ := HS1.out.cells
  have hcc := Lib.run_convert_bytes_const (P := Tryz.prog) u1 22 5 #[.int .u8 13, .int .u8 10] 2 2 Tryz.underlying22 Tryz.underlying5
  have HS2 := Lib.hid (HS1.out.below ((Below.refl u1.heap.size u1).alloc (Nat.le_refl _) (.cells #[.int .u8 13, .int .u8 10] 5 (2, 3))))
  have HPX := Lib.hid (bprefix_any A (some ⟨u1.heap.size, 0, none⟩) n c 2 2 l P.crlf (u1.alloc (.cells #[.int .u8 13, .int .u8 10] 5 (2, 3))) hcap HS2.out.rdu (Rd.newRowM u1 5 #[.int .u8 13, .int .u8 10] (2, 3) 2 1 rfl))
  go_wp2_with fail
  clear hcc
  generalize u1.alloc (.cells #[.int .u8 13, .int .u8 10] 5 (2, 3)) = u2 at *
  refine HPX.out.mono ?_
  rintro e w' ⟨rfl, rfl⟩
  clear HPX x0 x1 x2 x3 x4
  obtain ⟨x0, x1, x2, x3, x4⟩ := HS2.out.cells
  obtain ⟨f0, f1, f2, f3, f4⟩ := HS2.out.frees
  by_cases hp : P.crlf.isPrefixOf l = true
  · have hn2 : 2 ≤ n := by
      rw [List.isPrefixOf_iff_prefix] at hp
      have := hp.length_le
      rw [hll] at this
      exact this
    have HE : Hid (C.tailE l = 0 ∧ C.tailN l = 2 ∧ C.tailF l = []) := Lib.hid ⟨if_pos hp, if_pos hp, if_pos hp⟩
    rw [hp]
    obtain ⟨b, o, rfl, _, _⟩ := HS2.out.rd.2 (by omega)
    have HS3 := Lib.hid (HS2.out.rest 2 hn2)
    have hc2 : (2 : Int) ≤ c := by omega
    have HRET : Hid (∀ w4 : World, St w w4 3 z (addA (some ⟨b, o, none⟩) c 2) (n - 2) (c - 2) (l.drop 2) Da dc data (.slice none 0 0) → RetRT w z (some ⟨b, o, none⟩) n c l Da dc data (.returned (.tuple #[.bool true, .int .i64 0])) w4) := Lib.hid (by
      intro w4 h4
      obtain ⟨g1, g2, g3⟩ := HE.out
      refine .inr ⟨fun h => h.elim (fun h => h g1) (fun h => by omega), rfl, .slice none 0 0, ?_, ?_⟩
      · rw [g2]; exact h4
      · rw [g3]; exact TvRow.nil w w4)
    clear HE
    by_cases h2c : 2 = c
    · have h2i : (2 : Int) = c := by omega
      have e1 : addA (some ⟨b, o, none⟩) c 2 = some ⟨b, o, none⟩ := by rw [h2c]; exact addA_end
      have e2 : n - 2 = 0 := by omega
      have e3 : c - 2 = 0 := by omega
      rw [e1, e2, e3] at HS3 HRET
      clear e1 e2 e3
      go_wp2
      go_ret2
      exact HRET.out _ HS3.out
    · have h2i : (2 : Int) < c := by omega
      rw [addA_in h2c] at HS3 HRET
      go_wp2
      go_ret2
      exact HRET.out _ HS3.out
  · have HIX := Lib.hid (bindex_any A (some ⟨u2.heap.size, 0, none⟩) n c 4 4 l P.crlf2 (u2.alloc (.cells #[.int .u8 13, .int .u8 10, .int .u8 13, .int .u8 10] 5 (4, 5))) hcap (by omega) (by omega) (by omega) HS2.out.nil ((HS2.out.alloc _).rdu) (Rd.newRowM u2 5 #[.int .u8 13, .int .u8 10, .int .u8 13, .int .u8 10] (4, 5) 4 1 rfl) (HLT.out _ (HS2.out.alloc _).low))
    have hcc := Lib.run_convert_bytes_const (P := Tryz.prog) u2 22 5 #[.int .u8 13, .int .u8 10, .int .u8 13, .int .u8 10] 4 4 Tryz.underlying22 Tryz.underlying5
    have HS3 := Lib.hid (HS2.out.alloc (.cells #[.int .u8 13, .int .u8 10, .int .u8 13, .int .u8 10] 5 (4, 5)))
    have hix0 : P.hIdx l 0 = Lib.index l P.crlf2 := rfl
    rw [← hix0] at HIX
    have HH := Lib.hid (P.hText_facts l 0)
    have hge : -1 ≤ P.hIdx l 0 := Lib.index_ge _ _
    have HEN : Hid (P.hE l 0 = (if P.hIdx l 0 < 0 then (if l.length < 8192 then 0 else 51) else if 8192 < (0 : Nat) + P.hIdx l 0 + 4 then 51 else 0) ∧ P.hN l 0 = if P.hIdx l 0 < 0 ∨ 8192 < (0 : Nat) + P.hIdx l 0 + 4 then 0 else (0 : Nat) + P.hIdx l 0 + 4) := Lib.hid ⟨rfl, rfl⟩
    have HBAD : Hid (P.hE l 0 ≠ 0 ∨ P.hN l 0 = 0 → C.tailE l = P.hE l 0 ∧ C.tailN l = 0) := Lib.hid fun h => by
      unfold C.tailE C.tailN
      rw [if_neg hp, if_neg hp, if_pos h, if_pos h]
      exact ⟨rfl, rfl⟩
    have HGOOD : Hid (¬ (P.hE l 0 ≠ 0 ∨ P.hN l 0 = 0) → C.tailE l = (P.parse [] (l.take (P.hN l 0 - 2).toNat)).2 ∧ C.tailN l = (if (P.parse [] (l.take (P.hN l 0 - 2).toNat)).2 ≠ 0 then 0 else (P.hN l 0).toNat) ∧ C.tailF l = (P.parse [] (l.take (P.hN l 0 - 2).toNat)).1) := Lib.hid fun h => by
      unfold C.tailE C.tailN C.tailF
      rw [if_neg hp, if_neg hp, if_neg hp, if_neg h, if_neg h, if_neg h]
      exact ⟨rfl, rfl, rfl⟩
    rw [Bool.not_eq_true] at hp
    rw [hp]
    clear hp hix0
    obtain ⟨ix, hix⟩ : ∃ ix, P.hIdx l 0 = ix := ⟨_, rfl⟩
    rw [hix] at HIX hge HEN
    have HHX := Lib.hid hix
    clear hix
    go_wp2_with fail
    clear hcc
    generalize u2.alloc (.cells #[.int .u8 13, .int .u8 10, .int .u8 13, .int .u8 10] 5 (4, 5)) = u3 at *
    refine HIX.out.mono ?_
    rintro e u4 ⟨rfl, hb4⟩
    have HS4 := Lib.hid (HS3.out.below hb4)
    clear hb4 HIX HS3 HS2 x0 x1 x2 x3 x4 f0 f1 f2 f3 f4
    obtain ⟨x0, x1, x2, x3, x4⟩ := HS4.out.cells
    obtain ⟨f0, f1, f2, f3, f4⟩ := HS4.out.frees
    by_cases hneg : ix < 0
    · obtain rfl : ix = -1 := by omega
      by_cases h8 : n < 8192
      · have HE := Lib.hid (HBAD.out (.inr (HEN.out.2.trans (if_pos (.inl (by decide))))))
        have HE2 : Hid (P.hE l 0 = 0) := Lib.hid (HEN.out.1.trans ((if_pos (by decide)).trans (if_pos (by omega))))
        have h8i : (n : Int) < 8192 := by omega
        clear HBAD HGOOD HEN HH hneg
        go_wp2
        go_ret2
        exact .inl ⟨.inr HE.out.2, by rw [HE.out.1, HE2.out]; rfl, HS4.out.low⟩
      · have HE := Lib.hid (HBAD.out (.inr (HEN.out.2.trans (if_pos (.inl (by decide))))))
        have HE2 : Hid (P.hE l 0 = 51) := Lib.hid (HEN.out.1.trans ((if_pos (by decide)).trans (if_neg (by omega))))
        have h8i : ¬ (n : Int) < 8192 := by omega
        clear HBAD HGOOD HEN HH hneg
        go_wp2
        go_ret2
        exact .inl ⟨.inr HE.out.2, by rw [HE.out.1, HE2.out]; rfl, HS4.out.low⟩
    · obtain ⟨i, j, hi, hroom, _⟩ := HH.out (by rw [HHX.out]; omega)
      rw [HHX.out] at hi
      obtain rfl : ix = i := hi
      rw [hll] at hroom
      have h0i : ¬ (i : Int) < 0 := by omega
      clear HH hneg
      by_cases h8 : 8192 < i + 4
      · have HE2 : Hid (P.hE l 0 = 51) := Lib.hid (HEN.out.1.trans ((if_neg (by omega)).trans (if_pos (by omega))))
        have HE := Lib.hid (HBAD.out (.inl (by rw [HE2.out]; decide)))
        have h8i : (8192 : Int) < (i : Int) + 4 := by omega
        clear HBAD HGOOD HEN
        go_wp2
        go_ret2
        exact .inl ⟨.inr HE.out.2, by rw [HE.out.1, HE2.out]; rfl, HS4.out.low⟩
      · have hN : P.hN l 0 = ((i + 4 : Nat) : Int) := (HEN.out.2.trans (if_neg (by omega))).trans (by omega)
        have hE0 : P.hE l 0 = 0 := HEN.out.1.trans ((if_neg (by omega)).trans (if_neg (by omega)))
        have h8i : ¬ (8192 : Int) < (i : Int) + 4 := by omega
        have hg := HGOOD.out (by rw [hN, hE0]; intro h; rcases h with h | h; exact h rfl; omega)
        rw [hN, show (((i + 4 : Nat) : Int) - 2).toNat = i + 2 by omega, Int.toNat_natCast] at hg
        have HG := Lib.hid hg
        clear hg hN hE0 HGOOD HBAD HEN
        obtain ⟨b, o, rfl, _, _⟩ := HS4.out.rd.2 (by omega)
        have hi2 : (i : Int) + 2 ≤ c := by omega
        have HPA := Lib.hid (parse_any (some ⟨b, o, none⟩) (i + 2) c (l.take (i + 2)) u4 (by omega) (by omega) (HS4.out.rdu.upto (by omega)) (HLT.out u4 HS4.out.low))
        go_wp2_with fail
        refine HPA.out.mono ?_
        rintro e u5 ⟨TA, tc, rfl, hr5, hb5⟩
        clear HPA
        have HS5 := Lib.hid (HS4.out.below hb5)
        have HR5 := Lib.hid (hr5.mono (base' := w.heap.size + 1) HS4.out.blk.lt)
        clear hr5 hb5 HS4 x0 x1 x2 x3 x4 f0 f1 f2 f3 f4
        obtain ⟨x0, x1, x2, x3, x4⟩ := HS5.out.cells
        obtain ⟨f0, f1, f2, f3, f4⟩ := HS5.out.frees
        obtain ⟨FS, PE, hPP⟩ : ∃ FS PE, P.parse [] (l.take (i + 2)) = (FS, PE) := ⟨_, _, rfl⟩
        rw [hPP] at HG HR5
        rw [hPP]
        clear hPP
        replace HG : Hid (C.tailE l = PE ∧ C.tailN l = (if PE ≠ 0 then 0 else i + 4) ∧ C.tailF l = FS) := HG
        replace HR5 : Hid (Row u5 (w.heap.size + 1) 72 2 TA FS.length tc (fcells FS)) := HR5
        have HS6 := Lib.hid (HS5.out.tails (.slice TA FS.length tc))
        have HR6 := Lib.hid (HR5.out.farT HS5.out.blk neF 4 (.slice TA FS.length tc))
        clear HR5
        go_upto_region 12 with fail
        generalize u5.setCell ⟨w.heap.size, 4, none⟩ (.slice TA FS.length tc) = u6 at *
        clear x0 x1 x2 x3 x4 f0 f1 f2 f3 f4
        obtain ⟨x0, x1, x2, x3, x4⟩ := HS6.out.cells
        obtain ⟨f0, f1, f2, f3, f4⟩ := HS6.out.frees
        by_cases hpe : PE = 0
        · subst hpe
          have HS7 := Lib.hid (HS6.out.rest (i + 4) (by omega))
          have HR7 := Lib.hid (HR6.out.farT HS6.out.blk neF 0 (.slice (addA (some ⟨b, o, none⟩) c (i + 4)) (n - (i + 4)) (c - (i + 4))))
          have HRET : Hid (∀ w4 : World, St w w4 3 z (addA (some ⟨b, o, none⟩) c (i + 4)) (n - (i + 4)) (c - (i + 4)) (l.drop (i + 4)) Da dc data (.slice TA FS.length tc) → Row w4 (w.heap.size + 1) 72 2 TA FS.length tc (fcells FS) → RetRT w z (some ⟨b, o, none⟩) n c l Da dc data (.returned (.tuple #[.bool true, .int .i64 0])) w4) := Lib.hid (by
            intro w4 h4 h5
            obtain ⟨g1, g2, g3⟩ := HG.out
            rw [if_neg (by simp)] at g2
            refine .inr ⟨fun h => h.elim (fun h => h g1) (fun h => by omega), rfl, .slice TA FS.length tc, ?_, ?_⟩
            · rw [g2]; exact h4
            · rw [g3]; exact ⟨TA, tc, rfl, h5⟩)
          clear HG HS6 HR6 HS5
          by_cases hjc : i + 4 = c
          · have hji : ((i : Int) + 4) = c := by omega
            have e1 : addA (some ⟨b, o, none⟩) c (i + 4) = some ⟨b, o, none⟩ := by rw [hjc]; exact addA_end
            have e2 : n - (i + 4) = 0 := by omega
            have e3 : c - (i + 4) = 0 := by omega
            rw [e1, e2, e3] at HS7 HRET HR7
            clear e1 e2 e3
            go_wp2
            go_ret2
            exact HRET.out _ HS7.out HR7.out
          · have hji : ((i : Int) + 4) < c := by omega
            have hnr : ((i : Int) + 4) ≤ n := by omega
            rw [addA_in hjc] at HS7 HRET HR7
            go_wp2
            go_ret2
            exact HRET.out _ HS7.out HR7.out
        · have HE : Hid (C.tailN l = 0 ∧ C.tailE l = PE) := Lib.hid ⟨HG.out.2.1.trans (if_pos hpe), HG.out.1⟩
          clear HG
          go_wp2
          go_ret2
          exact .inl ⟨.inr HE.out.1, by rw [HE.out.2]; rfl, HS6.out.low⟩
end Go.Proofs.YtnmldbcgpfglkaaGreatDoor
