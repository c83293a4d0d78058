/- The walk of the decoder's readTail. The walks of the decoder's step and of chunk.Decode. The one body that the laws of chunk decode first; what a body's reading answers is within bounds. -/
import Derived.Test.YteehjkfmlcfffaaGreatDoorChunkAA
import Derived.Test.YteehjkfmlcfffaaGreatDoorHeadB
import Derived.Test.YteehjkfmlcfffaaGreatDoorReplyA
import Derived.Test.YteehjkfmlcfffaaGreatDoorSame
import Derived.Test.YteehjkfmlcfffaaGreatDoorCopyB
namespace Go.Proofs.YteehjkfmlcfffaaGreatDoor
open Go.RowKit

theorem neF : 291 ≠ 148 := by decide
/-- The trailers' value. -/
def TvRow (w u : World) (fs : List FD) (tv : Value) : Prop := ∃ TA tc, tv = .slice TA fs.length tc ∧ Row u (w.heap.size + 1) 148 2 TA fs.length tc (fcells fs)
theorem TvRow.nil (w u : World) : TvRow w u [] (.slice none 0 0) := ⟨none, 0, rfl, Row.none_ _ _ _ _⟩
/-- What readTail answers. -/
def RetRT (w : World) (z : Int) (A : Option Addr) (n c : Nat) (l : List UInt8) (Da : Option Addr) (dc : Nat) (data : List UInt8) (e : Ending) (w' : World) : Prop :=
  ((C.tailE l ≠ 0 ∨ C.tailN l = 0) ∧ e = .returned (.tuple #[.bool false, .int .i64 (C.tailE l)]) ∧ Below w.heap.size w w') ∨
  (¬ (C.tailE l ≠ 0 ∨ C.tailN l = 0) ∧ e = .returned (.tuple #[.bool true, .int .i64 0]) ∧
    ∃ tv, St w w' 3 z (addA A c (C.tailN l)) (n - C.tailN l) (c - C.tailN l) (l.drop (C.tailN l)) Da dc data tv ∧ TvRow w w' (C.tailF l) tv)
set_option maxHeartbeats 4000000 in
set_option maxRecDepth 100000 in
theorem readTail_any (w u : World) (z : Int) (A : Option Addr) (n c : Nat) (l : List UInt8) (Da : Option Addr) (dc : Nat) (data : List UInt8) (hS : St w u 2 z A n c l Da dc data (.slice none 0 0)) (hn : n ≤ 1073741824) (ht : LibOk w) :
    Calls Tryz.prog 291 #[.pointer (some ⟨w.heap.size, 0, none⟩)] u (RetRT w z A n c l Da dc data) := by
  have hll := rd_len hS.rd
  have hcap := hS.cap
  have HLT := Lib.hid (fun (v : World) (hv : Below w.heap.size w v) => ht.below hv)
  have HS1 := Lib.hid (hS.stage 3)
  clear ht
  obtain ⟨x0, x1, x2, x3, x4⟩ := hS.cells
  obtain ⟨f0, f1, f2, f3, f4⟩ := hS.frees
  go_enter Tryz.func291, Tryz.ntmps291
  go_upto_region 2 with fail
  generalize u.setCell ⟨w.heap.size, 1, none⟩ (.int .i64 3) = u1 at *
  clear x0 x1 x2 x3 x4 f0 f1 f2 f3 f4 hS
  obtain ⟨x0, x1, x2, x3, x4⟩ := HS1.out.cells
  have hcc := Lib.run_convert_bytes_const (P := Tryz.prog) u1 22 5 #[.int .u8 13, .int .u8 10] 2 2 Tryz.underlying22 Tryz.underlying5
  have HS2 := Lib.hid (HS1.out.below ((Below.refl u1.heap.size u1).alloc (Nat.le_refl _) (.cells #[.int .u8 13, .int .u8 10] 5 (2, 3))))
  have HPX := Lib.hid (bprefix_any A (some ⟨u1.heap.size, 0, none⟩) n c 2 2 l P.crlf (u1.alloc (.cells #[.int .u8 13, .int .u8 10] 5 (2, 3))) hcap HS2.out.rdu (Rd.newRowM u1 5 #[.int .u8 13, .int .u8 10] (2, 3) 2 1 rfl))
  go_wp2_with fail
  clear hcc
  generalize u1.alloc (.cells #[.int .u8 13, .int .u8 10] 5 (2, 3)) = u2 at *
  refine HPX.out.mono ?_
  rintro e w' ⟨rfl, rfl⟩
  clear HPX x0 x1 x2 x3 x4
  obtain ⟨x0, x1, x2, x3, x4⟩ := HS2.out.cells
  obtain ⟨f0, f1, f2, f3, f4⟩ := HS2.out.frees
  by_cases hp : P.crlf.isPrefixOf l = true
  · have hn2 : 2 ≤ n := by
      rw [List.isPrefixOf_iff_prefix] at hp
      have := hp.length_le
      rw [hll] at this
      exact this
    have HE : Hid (C.tailE l = 0 ∧ C.tailN l = 2 ∧ C.tailF l = []) := Lib.hid ⟨if_pos hp, if_pos hp, if_pos hp⟩
    rw [hp]
    obtain ⟨b, o, rfl, _, _⟩ := HS2.out.rd.2 (by omega)
    have HS3 := Lib.hid (HS2.out.rest 2 hn2)
    have hc2 : (2 : Int) ≤ c := by omega
    have HRET : Hid (∀ w4 : World, St w w4 3 z (addA (some ⟨b, o, none⟩) c 2) (n - 2) (c - 2) (l.drop 2) Da dc data (.slice none 0 0) → RetRT w z (some ⟨b, o, none⟩) n c l Da dc data (.returned (.tuple #[.bool true, .int .i64 0])) w4) := Lib.hid (by
      intro w4 h4
      obtain ⟨g1, g2, g3⟩ := HE.out
      refine .inr ⟨fun h => h.elim (fun h => h g1) (fun h => by omega), rfl, .slice none 0 0, ?_, ?_⟩
      · rw [g2]; exact h4
      · rw [g3]; exact TvRow.nil w w4)
    clear HE
    by_cases h2c : 2 = c
    · have h2i : (2 : Int) = c := by omega
      have e1 : addA (some ⟨b, o, none⟩) c 2 = some ⟨b, o, none⟩ := by rw [h2c]; exact addA_end
      have e2 : n - 2 = 0 := by omega
      have e3 : c - 2 = 0 := by omega
      rw [e1, e2, e3] at HS3 HRET
      clear e1 e2 e3
      go_wp2
      go_ret2
      exact HRET.out _ HS3.out
    · have h2i : (2 : Int) < c := by omega
      rw [addA_in h2c] at HS3 HRET
      go_wp2
      go_ret2
      exact HRET.out _ HS3.out
  · have HIX := Lib.hid (bindex_any A (some ⟨u2.heap.size, 0, none⟩) n c 4 4 l P.crlf2 (u2.alloc (.cells #[.int .u8 13, .int .u8 10, .int .u8 13, .int .u8 10] 5 (4, 5))) hcap (by omega) (by omega) (by omega) HS2.out.nil ((HS2.out.alloc _).rdu) (Rd.newRowM u2 5 #[.int .u8 13, .int .u8 10, .int .u8 13, .int .u8 10] (4, 5) 4 1 rfl) (HLT.out _ (HS2.out.alloc _).low))
    have hcc := Lib.run_convert_bytes_const (P := Tryz.prog) u2 22 5 #[.int .u8 13, .int .u8 10, .int .u8 13, .int .u8 10] 4 4 Tryz.underlying22 Tryz.underlying5
    have HS3 := Lib.hid (HS2.out.alloc (.cells #[.int .u8 13, .int .u8 10, .int .u8 13, .int .u8 10] 5 (4, 5)))
    have hix0 : P.hIdx l 0 = Lib.index l P.crlf2 := rfl
    rw [← hix0] at HIX
    have HH := Lib.hid (P.hText_facts l 0)
    have hge : -1 ≤ P.hIdx l 0 := Lib.index_ge _ _
    have HEN : Hid (P.hE l 0 = (if P.hIdx l 0 < 0 then (if l.length < 8192 then 0 else 51) else if 8192 < (0 : Nat) + P.hIdx l 0 + 4 then 51 else 0) ∧ P.hN l 0 = if P.hIdx l 0 < 0 ∨ 8192 < (0 : Nat) + P.hIdx l 0 + 4 then 0 else (0 : Nat) + P.hIdx l 0 + 4) := Lib.hid ⟨rfl, rfl⟩
    have HBAD : Hid (P.hE l 0 ≠ 0 ∨ P.hN l 0 = 0 → C.tailE l = P.hE l 0 ∧ C.tailN l = 0) := Lib.hid fun h => by
      unfold C.tailE C.tailN
      rw [if_neg hp, if_neg hp, if_pos h, if_pos h]
      exact ⟨rfl, rfl⟩
    have HGOOD : Hid (¬ (P.hE l 0 ≠ 0 ∨ P.hN l 0 = 0) → C.tailE l = (P.parse [] (l.take (P.hN l 0 - 2).toNat)).2 ∧ C.tailN l = (if (P.parse [] (l.take (P.hN l 0 - 2).toNat)).2 ≠ 0 then 0 else (P.hN l 0).toNat) ∧ C.tailF l = (P.parse [] (l.take (P.hN l 0 - 2).toNat)).1) := Lib.hid fun h => by
      unfold C.tailE C.tailN C.tailF
      rw [if_neg hp, if_neg hp, if_neg hp, if_neg h, if_neg h, if_neg h]
      exact ⟨rfl, rfl, rfl⟩
    rw [Bool.not_eq_true] at hp
    rw [hp]
    clear hp hix0
    obtain ⟨ix, hix⟩ : ∃ ix, P.hIdx l 0 = ix := ⟨_, rfl⟩
    rw [hix] at HIX hge HEN
    have HHX := Lib.hid hix
    clear hix
    go_wp2_with fail
    clear hcc
    generalize u2.alloc (.cells #[.int .u8 13, .int .u8 10, .int .u8 13, .int .u8 10] 5 (4, 5)) = u3 at *
    refine HIX.out.mono ?_
    rintro e u4 ⟨rfl, hb4⟩
    have HS4 := Lib.hid (HS3.out.below hb4)
    clear hb4 HIX HS3 HS2 x0 x1 x2 x3 x4 f0 f1 f2 f3 f4
    obtain ⟨x0, x1, x2, x3, x4⟩ := HS4.out.cells
    obtain ⟨f0, f1, f2, f3, f4⟩ := HS4.out.frees
    by_cases hneg : ix < 0
    · obtain rfl : ix = -1 := by omega
      by_cases h8 : n < 8192
      · have HE := Lib.hid (HBAD.out (.inr (HEN.out.2.trans (if_pos (.inl (by decide))))))
        have HE2 : Hid (P.hE l 0 = 0) := Lib.hid (HEN.out.1.trans ((if_pos (by decide)).trans (if_pos (by omega))))
        have h8i : (n : Int) < 8192 := by omega
        clear HBAD HGOOD HEN HH hneg
        go_wp2
        go_ret2
        exact .inl ⟨.inr HE.out.2, by rw [HE.out.1, HE2.out]; rfl, HS4.out.low⟩
      · have HE := Lib.hid (HBAD.out (.inr (HEN.out.2.trans (if_pos (.inl (by decide))))))
        have HE2 : Hid (P.hE l 0 = 51) := Lib.hid (HEN.out.1.trans ((if_pos (by decide)).trans (if_neg (by omega))))
        have h8i : ¬ (n : Int) < 8192 := by omega
        clear HBAD HGOOD HEN HH hneg
        go_wp2
        go_ret2
        exact .inl ⟨.inr HE.out.2, by rw [HE.out.1, HE2.out]; rfl, HS4.out.low⟩
    · obtain ⟨i, j, hi, hroom, _⟩ := HH.out (by rw [HHX.out]; omega)
      rw [HHX.out] at hi
      obtain rfl : ix = i := hi
      rw [hll] at hroom
      have h0i : ¬ (i : Int) < 0 := by omega
      clear HH hneg
      by_cases h8 : 8192 < i + 4
      · have HE2 : Hid (P.hE l 0 = 51) := Lib.hid (HEN.out.1.trans ((if_neg (by omega)).trans (if_pos (by omega))))
        have HE := Lib.hid (HBAD.out (.inl (by rw [HE2.out]; decide)))
        have h8i : (8192 : Int) < (i : Int) + 4 := by omega
        clear HBAD HGOOD HEN
        go_wp2
        go_ret2
        exact .inl ⟨.inr HE.out.2, by rw [HE.out.1, HE2.out]; rfl, HS4.out.low⟩
      · have hN : P.hN l 0 = ((i + 4 : Nat) : Int) := (HEN.out.2.trans (if_neg (by omega))).trans (by omega)
        have hE0 : P.hE l 0 = 0 := HEN.out.1.trans ((if_neg (by omega)).trans (if_neg (by omega)))
        have h8i : ¬ (8192 : Int) < (i : Int) + 4 := by omega
        have hg := HGOOD.out (by rw [hN, hE0]; intro h; rcases h with h | h; exact h rfl; omega)
        rw [hN, show (((i + 4 : Nat) : Int) - 2).toNat = i + 2 by omega, Int.toNat_natCast] at hg
        have HG := Lib.hid hg
        clear hg hN hE0 HGOOD HBAD HEN
        obtain ⟨b, o, rfl, _, _⟩ := HS4.out.rd.2 (by omega)
        have hi2 : (i : Int) + 2 ≤ c := by omega
        have HPA := Lib.hid (parse_any (some ⟨b, o, none⟩) (i + 2) c (l.take (i + 2)) u4 (by omega) (by omega) (HS4.out.rdu.upto (by omega)) (HLT.out u4 HS4.out.low))
        go_wp2_with fail
        refine HPA.out.mono ?_
        rintro e u5 ⟨TA, tc, rfl, hr5, hb5⟩
        clear HPA
        have HS5 := Lib.hid (HS4.out.below hb5)
        have HR5 := Lib.hid (hr5.mono (base' := w.heap.size + 1) HS4.out.blk.lt)
        clear hr5 hb5 HS4 x0 x1 x2 x3 x4 f0 f1 f2 f3 f4
        obtain ⟨x0, x1, x2, x3, x4⟩ := HS5.out.cells
        obtain ⟨f0, f1, f2, f3, f4⟩ := HS5.out.frees
        obtain ⟨FS, PE, hPP⟩ : ∃ FS PE, P.parse [] (l.take (i + 2)) = (FS, PE) := ⟨_, _, rfl⟩
        rw [hPP] at HG HR5
        rw [hPP]
        clear hPP
        replace HG : Hid (C.tailE l = PE ∧ C.tailN l = (if PE ≠ 0 then 0 else i + 4) ∧ C.tailF l = FS) := HG
        replace HR5 : Hid (Row u5 (w.heap.size + 1) 148 2 TA FS.length tc (fcells FS)) := HR5
        have HS6 := Lib.hid (HS5.out.tails (.slice TA FS.length tc))
        have HR6 := Lib.hid (HR5.out.farT HS5.out.blk neF 4 (.slice TA FS.length tc))
        clear HR5
        go_upto_region 12 with fail
        generalize u5.setCell ⟨w.heap.size, 4, none⟩ (.slice TA FS.length tc) = u6 at *
        clear x0 x1 x2 x3 x4 f0 f1 f2 f3 f4
        obtain ⟨x0, x1, x2, x3, x4⟩ := HS6.out.cells
        obtain ⟨f0, f1, f2, f3, f4⟩ := HS6.out.frees
        by_cases hpe : PE = 0
        · subst hpe
          have HS7 := Lib.hid (HS6.out.rest (i + 4) (by omega))
          have HR7 := Lib.hid (HR6.out.farT HS6.out.blk neF 0 (.slice (addA (some ⟨b, o, none⟩) c (i + 4)) (n - (i + 4)) (c - (i + 4))))
          have HRET : Hid (∀ w4 : World, St w w4 3 z (addA (some ⟨b, o, none⟩) c (i + 4)) (n - (i + 4)) (c - (i + 4)) (l.drop (i + 4)) Da dc data (.slice TA FS.length tc) → Row w4 (w.heap.size + 1) 148 2 TA FS.length tc (fcells FS) → RetRT w z (some ⟨b, o, none⟩) n c l Da dc data (.returned (.tuple #[.bool true, .int .i64 0])) w4) := Lib.hid (by
            intro w4 h4 h5
            obtain ⟨g1, g2, g3⟩ := HG.out
            rw [if_neg (by simp)] at g2
            refine .inr ⟨fun h => h.elim (fun h => h g1) (fun h => by omega), rfl, .slice TA FS.length tc, ?_, ?_⟩
            · rw [g2]; exact h4
            · rw [g3]; exact ⟨TA, tc, rfl, h5⟩)
          clear HG HS6 HR6 HS5
          by_cases hjc : i + 4 = c
          · have hji : ((i : Int) + 4) = c := by omega
            have e1 : addA (some ⟨b, o, none⟩) c (i + 4) = some ⟨b, o, none⟩ := by rw [hjc]; exact addA_end
            have e2 : n - (i + 4) = 0 := by omega
            have e3 : c - (i + 4) = 0 := by omega
            rw [e1, e2, e3] at HS7 HRET HR7
            clear e1 e2 e3
            go_wp2
            go_ret2
            exact HRET.out _ HS7.out HR7.out
          · have hji : ((i : Int) + 4) < c := by omega
            have hnr : ((i : Int) + 4) ≤ n := by omega
            rw [addA_in hjc] at HS7 HRET HR7
            go_wp2
            go_ret2
            exact HRET.out _ HS7.out HR7.out
        · have HE : Hid (C.tailN l = 0 ∧ C.tailE l = PE) := Lib.hid ⟨HG.out.2.1.trans (if_pos hpe), HG.out.1⟩
          clear HG
          go_wp2
          go_ret2
          exact .inl ⟨.inr HE.out.1, by rw [HE.out.2]; rfl, HS6.out.low⟩
end Go.Proofs.YteehjkfmlcfffaaGreatDoor

namespace Go.Proofs.YteehjkfmlcfffaaGreatDoor
open Go.RowKit

namespace C
/-- What is read from the trailers on; from a chunk's data on. -/
def fin (data : List UInt8) (a : Nat) (l : List UInt8) : CD := if tailE l ≠ 0 ∨ tailN l = 0 then .bad (tailE l) else ⟨data, tailF l, a + tailN l, 0⟩
def dat (data : List UInt8) (z a : Nat) (l : List UInt8) : CD := if l.length < z + 2 then .bad 0 else if P.crlf.isPrefixOf (l.drop z) = false then .bad 70 else dec (data ++ l.take z) (a + z + 2) (l.drop (z + 2))
theorem dec_line (data : List UInt8) (a : Nat) (l : List UInt8) : dec data a l = if lineE l ≠ 0 ∨ lineN l = 0 then .bad (lineE l) else if lineS l = 0 then fin data (a + lineN l) (l.drop (lineN l)) else if 65536 < data.length + lineS l then .bad 71 else dat data (lineS l) (a + lineN l) (l.drop (lineN l)) := by
  rw [dec_eq]
  unfold fin dat
  simp only [List.drop_drop, Nat.add_assoc]
end C

section
variable {w u : World} {A : Option Addr} {n c : Nat} {l : List UInt8} {Da : Option Addr} {dc : Nat} {data : List UInt8}
set_option maxHeartbeats 1000000 in
set_option maxRecDepth 100000 in
theorem step0_any {sz : Int} {tv : Value} (hS : St w u 0 sz A n c l Da dc data tv) (hd : data.length ≤ 65536) (hn : n ≤ 1073741824) (ht : LibOk w) (he : ErrOk w) :
    Calls Tryz.prog 232 #[.pointer (some ⟨w.heap.size, 0, none⟩)] u (RetRS w A n c l Da dc data tv) := by
  have HK := Lib.hid (readSize_any w u sz A n c l Da dc data tv hS hd hn ht he)
  have x1 := hS.cells.2.1
  clear hS ht he
  go_enter Tryz.func232, Tryz.ntmps232
  go_wp2_with fail
  refine HK.out.mono ?_
  rintro e w1 (⟨h1, rfl, h3⟩ | ⟨h1, h2, rfl, h3⟩ | ⟨h1, h2, rfl, h3⟩)
  · have H := Lib.hid (And.intro h1 h3)
    clear HK h1 h3
    go_wp2
    go_ret2
    exact .inl ⟨H.out.1, rfl, H.out.2⟩
  · have H := Lib.hid (And.intro h1 (And.intro h2 h3))
    clear HK h1 h2 h3
    go_wp2
    go_ret2
    exact .inr (.inl ⟨H.out.1, H.out.2.1, rfl, H.out.2.2⟩)
  · have H := Lib.hid (And.intro h1 (And.intro h2 h3))
    clear HK h1 h2 h3
    go_wp2
    go_ret2
    exact .inr (.inr ⟨H.out.1, H.out.2.1, rfl, H.out.2.2⟩)
set_option maxHeartbeats 1000000 in
set_option maxRecDepth 100000 in
theorem step1_any {z : Nat} {tv : Value} (hS : St w u 1 z A n c l Da dc data tv) (hd : data.length + z ≤ 65536) (hn : n ≤ 1073741824) :
    Calls Tryz.prog 232 #[.pointer (some ⟨w.heap.size, 0, none⟩)] u (RetRD w z A n c l data tv) := by
  have HK := Lib.hid (readData_any w u z A n c l Da dc data tv hS hd hn)
  have x1 := hS.cells.2.1
  clear hS
  go_enter Tryz.func232, Tryz.ntmps232
  go_wp2_with fail
  refine HK.out.mono ?_
  rintro e w1 (⟨h1, rfl, h3⟩ | ⟨h1, h2, rfl, h3⟩ | ⟨h1, h2, rfl, h3⟩)
  · have H := Lib.hid (And.intro h1 h3)
    clear HK h1 h3
    go_wp2
    go_ret2
    exact .inl ⟨H.out.1, rfl, H.out.2⟩
  · have H := Lib.hid (And.intro h1 (And.intro h2 h3))
    clear HK h1 h2 h3
    go_wp2
    go_ret2
    exact .inr (.inl ⟨H.out.1, H.out.2.1, rfl, H.out.2.2⟩)
  · have H := Lib.hid (And.intro h1 (And.intro h2 h3))
    clear HK h1 h2 h3
    go_wp2
    go_ret2
    exact .inr (.inr ⟨H.out.1, H.out.2.1, rfl, H.out.2.2⟩)
set_option maxHeartbeats 1000000 in
set_option maxRecDepth 100000 in
theorem step2_any {z : Int} (hS : St w u 2 z A n c l Da dc data (.slice none 0 0)) (hn : n ≤ 1073741824) (ht : LibOk w) :
    Calls Tryz.prog 232 #[.pointer (some ⟨w.heap.size, 0, none⟩)] u (RetRT w z A n c l Da dc data) := by
  have HK := Lib.hid (readTail_any w u z A n c l Da dc data hS hn ht)
  have x1 := hS.cells.2.1
  clear hS ht
  go_enter Tryz.func232, Tryz.ntmps232
  go_wp2_with fail
  refine HK.out.mono ?_
  rintro e w1 (⟨h1, rfl, h3⟩ | ⟨h1, rfl, h3⟩)
  · have H := Lib.hid (And.intro h1 h3)
    clear HK h1 h3
    go_wp2
    go_ret2
    exact .inl ⟨H.out.1, rfl, H.out.2⟩
  · have H := Lib.hid (And.intro h1 h3)
    clear HK h1 h3
    go_wp2
    go_ret2
    exact .inr ⟨H.out.1, rfl, H.out.2⟩
end

/-- A body, answered. -/
def RetCD (w : World) (r : C.CD) (e : Ending) (w' : World) : Prop :=
  ∃ A c TA tc, e = .returned (.tuple #[.slice A r.d.length c, .slice TA r.f.length tc, .int .i64 r.n, .int .i64 r.e]) ∧ Row w' w.heap.size 5 1 A r.d.length c (bcells r.d) ∧ Row w' w.heap.size 148 2 TA r.f.length tc (fcells r.f) ∧ Below w.heap.size w w'
theorem RetCD.bad {w w' : World} {r : C.CD} {code : Int} (hb : Below w.heap.size w w') (h : r = .bad code) : RetCD w r (.returned (.tuple #[.slice none 0 0, .slice none 0 0, .int .i64 0, .int .i64 code])) w' := by
  subst h
  exact ⟨none, 0, none, 0, rfl, Row.none_ _ _ _ _, Row.none_ _ _ _ _, hb⟩
/-- The decoder between two steps. -/
def At (w : World) (bs : List UInt8) (wr : World) : Prop :=
  ∃ (A : Option Addr) (n c : Nat) (l : List UInt8) (Da : Option Addr) (dc : Nat) (data : List UInt8), data.length ≤ 65536 ∧ n ≤ bs.length ∧
    ((∃ sz, St w wr 0 sz A n c l Da dc data (.slice none 0 0) ∧ C.decode bs = C.dec data (bs.length - n) l) ∨
    (∃ z : Nat, St w wr 1 z A n c l Da dc data (.slice none 0 0) ∧ data.length + z ≤ 65536 ∧ C.decode bs = C.dat data z (bs.length - n) l) ∨
    (∃ sz, St w wr 2 sz A n c l Da dc data (.slice none 0 0) ∧ C.decode bs = C.fin data (bs.length - n) l) ∨
    (∃ sz tv fs, St w wr 3 sz A n c l Da dc data tv ∧ TvRow w wr fs tv ∧ C.decode bs = ⟨data, fs, bs.length - n, 0⟩))
def restLen (w wr : World) : Nat := match wr.cell? ⟨w.heap.size, 0, none⟩ with | some (.slice _ n _) => n | _ => 0
theorem restLen_eq {w wr : World} {st sz : Int} {A : Option Addr} {n c : Nat} {l : List UInt8} {Da : Option Addr} {dc : Nat} {data : List UInt8} {tv : Value} (h : St w wr st sz A n c l Da dc data tv) : restLen w wr = n := by
  unfold restLen
  rw [h.cells.1]

set_option maxHeartbeats 2000000 in
set_option maxRecDepth 100000 in
theorem cdecode_any (A : Option Addr) (n c : Nat) (bs : List UInt8) (w : World) (hn : n ≤ 1073741824) (hnc : n ≤ c) (hA : A = none → n = 0 ∧ c = 0) (hpl : ∀ a, A = some a → a.spot = none ∨ c = 0) (hx : Rd w A n 1 (bcells bs)) (ht : LibOk w) (he : ErrOk w) :
    Calls Tryz.prog 155 #[.slice A n c] w (RetCD w (C.decode bs)) := by
  have hll := rd_len hx
  have HS0 : Hid (St w (w.alloc (.cells #[.slice A n c, .int .i64 0, .int .i64 0, .slice none 0 0, .slice none 0 0] 291)) 0 0 A n c bs none 0 [] (.slice none 0 0)) :=
    Lib.hid ⟨Blk.new _ _ _, (Below.refl _ _).alloc (Nat.le_refl _) _, hx, hnc, hA, hpl, Row.none_ _ _ _ _⟩
  have HT := Lib.hid ht
  have HE := Lib.hid he
  clear ht he hx hA hpl
  go_enter Tryz.func155, Tryz.ntmps155
  go_wp2_with fail
  have HA0 : Hid (At w bs (w.alloc (.cells #[.slice A n c, .int .i64 0, .int .i64 0, .slice none 0 0, .slice none 0 0] 291))) :=
    Lib.hid ⟨A, n, c, bs, none, 0, [], by simp, by omega, .inl ⟨0, HS0.out, by rw [hll, Nat.sub_self]; rfl⟩⟩
  clear HS0
  generalize w.alloc (.cells #[.slice A n c, .int .i64 0, .int .i64 0, .slice none 0 0, .slice none 0 0] 291) = w0 at *
  go_loopw [7, 8] (fun _ _ wr => At w bs wr) (fun _ _ wr => restLen w wr)
  case atStart => exact HA0.out
  case round =>
    clear HA0
    obtain ⟨A1, n1, c1, l, Da, dc, data, hd, hn1, hcase⟩ := hrel
    rcases hcase with ⟨sz, hS, hdec⟩ | ⟨z, hS, hz, hdec⟩ | ⟨sz, hS, hdec⟩ | ⟨sz, tv, fs, hS, htv, hdec⟩
    · have HK := Lib.hid (step0_any hS hd (by omega) HT.out HE.out)
      have hl1 := rd_len hS.rd
      have HM := Lib.hid (restLen_eq hS)
      have HD := Lib.hid hdec
      have x1 := hS.cells.2.1
      clear hS hdec
      go_wp2_with fail
      refine HK.out.mono ?_
      rintro e w1 (⟨h1, rfl, h3⟩ | ⟨h1, h2, rfl, h3⟩ | ⟨h1, h2, rfl, h3⟩)
      · have H : Hid (RetCD w (C.decode bs) (.returned (.tuple #[.slice none 0 0, .slice none 0 0, .int .i64 0, .int .i64 (C.lineE l)])) w1) := Lib.hid (RetCD.bad h3 (by rw [HD.out, C.dec_line, if_pos h1]))
        clear HK h1 h3 x1 HD
        go_wp2
        refine bodyPost_ret (v := .tuple #[.slice none 0 0, .slice none 0 0, .int .i64 0, .int .i64 (C.lineE l)]) (by simp [results, Tryz.results155, go_sem]) rfl ?_
        exact H.out
      · have h0 : ¬ C.lineS l = 0 := by omega
        have H : Hid (RetCD w (C.decode bs) (.returned (.tuple #[.slice none 0 0, .slice none 0 0, .int .i64 0, .int .i64 71])) w1) := Lib.hid (RetCD.bad h3 (by rw [HD.out, C.dec_line, if_neg h1, if_neg h0, if_pos h2]))
        clear HK h1 h2 h3 x1 HD h0
        go_wp2
        refine bodyPost_ret (v := .tuple #[.slice none 0 0, .slice none 0 0, .int .i64 0, .int .i64 71]) (by simp [results, Tryz.results155, go_sem]) rfl ?_
        exact H.out
      · have hp := C.lineN_le l
        have hp2 := C.line_pos h1
        have hat : bs.length - (n1 - C.lineN l) = bs.length - n1 + C.lineN l := by omega
        have H : Hid (At w bs w1 ∧ restLen w w1 < restLen w wr) := Lib.hid (by
          refine ⟨⟨addA A1 c1 (C.lineN l), n1 - C.lineN l, c1 - C.lineN l, l.drop (C.lineN l), Da, dc, data, hd, (by omega : n1 - C.lineN l ≤ bs.length), ?_⟩, ?_⟩
          · by_cases h0 : C.lineS l = 0
            · rw [if_pos h0] at h3
              exact .inr (.inr (.inl ⟨_, h3, by rw [HD.out, C.dec_line, if_neg h1, if_pos h0, hat]⟩))
            · rw [if_neg h0] at h3
              exact .inr (.inl ⟨_, h3, by omega, by rw [HD.out, C.dec_line, if_neg h1, if_neg h0, if_neg h2, hat]⟩)
          · rw [HM.out, restLen_eq h3]
            omega)
        clear HK h1 h2 h3 x1 HD hp hp2 hat HM
        go_wp2
        go_roundw
        case rel => exact H.out.1
        case measure => exact H.out.2
    · have HK := Lib.hid (step1_any hS hz (by omega))
      have hl1 := rd_len hS.rd
      have HM := Lib.hid (restLen_eq hS)
      have HD := Lib.hid hdec
      have x1 := hS.cells.2.1
      clear hS hdec
      go_wp2_with fail
      refine HK.out.mono ?_
      rintro e w1 (⟨h1, rfl, h3⟩ | ⟨h1, h2, rfl, h3⟩ | ⟨h1, h2, rfl, h3⟩)
      · have H : Hid (RetCD w (C.decode bs) (.returned (.tuple #[.slice none 0 0, .slice none 0 0, .int .i64 0, .int .i64 0])) w1) := Lib.hid (RetCD.bad h3 (by rw [HD.out]; exact if_pos (by omega)))
        clear HK h1 h3 x1 HD
        go_wp2
        refine bodyPost_ret (v := .tuple #[.slice none 0 0, .slice none 0 0, .int .i64 0, .int .i64 0]) (by simp [results, Tryz.results155, go_sem]) rfl ?_
        exact H.out
      · have H : Hid (RetCD w (C.decode bs) (.returned (.tuple #[.slice none 0 0, .slice none 0 0, .int .i64 0, .int .i64 70])) w1) := Lib.hid (RetCD.bad h3 (by rw [HD.out]; exact (if_neg (by omega)).trans (if_pos h2)))
        clear HK h1 h2 h3 x1 HD
        go_wp2
        refine bodyPost_ret (v := .tuple #[.slice none 0 0, .slice none 0 0, .int .i64 0, .int .i64 70]) (by simp [results, Tryz.results155, go_sem]) rfl ?_
        exact H.out
      · have hat : bs.length - (n1 - (z + 2)) = bs.length - n1 + z + 2 := by omega
        have H : Hid (At w bs w1 ∧ restLen w w1 < restLen w wr) := Lib.hid (by
          obtain ⟨Da', dc', h3⟩ := h3
          refine ⟨⟨_, _, _, _, _, _, _, (by rw [List.length_append, List.length_take]; omega : (data ++ l.take z).length ≤ 65536), (by omega : n1 - (z + 2) ≤ bs.length), .inl ⟨_, h3, ?_⟩⟩, ?_⟩
          · rw [HD.out, hat]
            exact (if_neg (by omega)).trans (if_neg h2)
          · rw [HM.out, restLen_eq h3]
            omega)
        clear HK h1 h2 h3 x1 HD hat HM
        go_wp2
        go_roundw
        case rel => exact H.out.1
        case measure => exact H.out.2
    · have HK := Lib.hid (step2_any hS (by omega) HT.out)
      have hl1 := rd_len hS.rd
      have HM := Lib.hid (restLen_eq hS)
      have HD := Lib.hid hdec
      have x1 := hS.cells.2.1
      clear hS hdec
      go_wp2_with fail
      refine HK.out.mono ?_
      rintro e w1 (⟨h1, rfl, h3⟩ | ⟨h1, rfl, h3⟩)
      · have H : Hid (RetCD w (C.decode bs) (.returned (.tuple #[.slice none 0 0, .slice none 0 0, .int .i64 0, .int .i64 (C.tailE l)])) w1) := Lib.hid (RetCD.bad h3 (by rw [HD.out]; exact if_pos h1))
        clear HK h1 h3 x1 HD
        go_wp2
        refine bodyPost_ret (v := .tuple #[.slice none 0 0, .slice none 0 0, .int .i64 0, .int .i64 (C.tailE l)]) (by simp [results, Tryz.results155, go_sem]) rfl ?_
        exact H.out
      · have hp := (C.tail_pos h1).1
        have hp2 : C.tailN l ≠ 0 := fun h => h1 (.inr h)
        have hat : bs.length - (n1 - C.tailN l) = bs.length - n1 + C.tailN l := by omega
        have H : Hid (At w bs w1 ∧ restLen w w1 < restLen w wr) := Lib.hid (by
          obtain ⟨tv, h3, h4⟩ := h3
          refine ⟨⟨_, _, _, _, _, _, _, hd, (by omega : n1 - C.tailN l ≤ bs.length), .inr (.inr (.inr ⟨_, _, _, h3, h4, ?_⟩))⟩, ?_⟩
          · rw [HD.out, hat]
            exact if_neg h1
          · rw [HM.out, restLen_eq h3]
            omega)
        clear HK h1 h3 x1 HD hat HM hp hp2
        go_wp2
        go_roundw
        case rel => exact H.out.1
        case measure => exact H.out.2
    · obtain ⟨TA, tc, rfl, hr⟩ := htv
      obtain ⟨x0, x1, x2, x3, x4⟩ := hS.cells
      have hd1 := hS.row
      have HZ : Hid (RetCD w (C.decode bs) (.returned (.tuple #[.slice Da data.length dc, .slice TA fs.length tc, .int .i64 ((n : Int) - n1), .int .i64 0])) wr.drew) := Lib.hid (by
        rw [hdec]
        refine ⟨Da, dc, TA, tc, ?_, (hS.row.mono (by omega)).drew, (hr.mono (by omega)).drew, hS.low.drew⟩
        have e : ((bs.length - n1 : Nat) : Int) = (n : Int) - n1 := by omega
        rw [← e])
      clear hS hr hdec hd1
      go_wp2
      go_region
      go_wp2
      refine bodyPost_ret (v := .tuple #[.slice Da data.length dc, .slice TA fs.length tc, .int .i64 ((n : Int) - n1), .int .i64 0]) (by simp [results, Tryz.results155, go_sem]) rfl ?_
      exact HZ.out
end Go.Proofs.YteehjkfmlcfffaaGreatDoor

namespace Go.Proofs.YteehjkfmlcfffaaGreatDoor
open Go.RowKit

namespace C
theorem tailF_len (l : List UInt8) : (tailF l).length ≤ 100 := by
  unfold tailF
  split
  · exact Nat.zero_le _
  · split
    · exact Nat.zero_le _
    · exact (P.parse_facts _ [] _ (Nat.le_refl _) (Nat.zero_le _)).2.1
theorem dec_len : ∀ (k : Nat) (data : List UInt8) (a : Nat) (l : List UInt8), l.length ≤ k → data.length ≤ 65536 → (dec data a l).d.length ≤ 65536 ∧ (dec data a l).f.length ≤ 100
  | k, data, a, l, hk, hd => by
    have hz : ∀ e : Int, (CD.bad e).d.length ≤ 65536 ∧ (CD.bad e).f.length ≤ 100 := fun e => ⟨Nat.zero_le _, Nat.zero_le _⟩
    rw [dec_line]
    split
    · exact hz _
    · rename_i h1
      obtain ⟨g1, g2⟩ := line_pos h1
      split
      · unfold fin
        split
        · exact hz _
        · exact ⟨hd, tailF_len _⟩
      · split
        · exact hz _
        · rename_i h3
          unfold dat
          split
          · exact hz _
          · rename_i h4
            split
            · exact hz _
            · rw [List.length_drop] at h4
              cases k with
              | zero => omega
              | succ k => exact dec_len k _ _ _ (by rw [List.length_drop, List.length_drop]; omega) (by rw [List.length_append, List.length_take]; omega)
theorem decode_len (bs : List UInt8) : (decode bs).d.length ≤ 65536 ∧ (decode bs).f.length ≤ 100 := dec_len bs.length [] 0 bs (Nat.le_refl _) (Nat.zero_le _)
end C

theorem sameBC (A B : Option Addr) (n c d : Nat) (xs : List UInt8) (w : World) (hn : n ≤ 1099511627776) (hl : xs.length = n) (hx : Rd w A n 1 (bcells xs)) (hy : Rd w B n 1 (bcells xs)) :
    Calls Tryz.prog 17 #[.slice A n c, .slice B n d] w (RetB w true) := by
  have := sameBytes_any A B n n c d xs xs w hn hn hx hy hl hl
  simpa using this
theorem sameFC (A B : Option Addr) (n c d : Nat) (xs : List FD) (w : World) (hn : n ≤ 1099511627776) (hl : xs.length = n) (hx : Rd w A n 2 (fcells xs)) (hy : Rd w B n 2 (fcells xs)) :
    Calls Tryz.prog 72 #[.slice A n c, .slice B n d] w (RetB w true) := by
  have := sameFields_any A B n n c d xs xs w hn hn hx hy hl hl
  simpa using this
end Go.Proofs.YteehjkfmlcfffaaGreatDoor
