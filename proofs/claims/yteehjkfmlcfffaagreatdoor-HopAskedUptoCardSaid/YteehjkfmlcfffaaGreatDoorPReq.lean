/- The walks of head.PrintRequest and of the document's. Conditions: a list of bulk at most 2^30, texts of at most 2^30 bytes, a number of 64 bits, the library's table of powers of ten. -/
import Derived.Test.YteehjkfmlcfffaaGreatDoorWhole
import Derived.Test.YteehjkfmlcfffaaGreatDoorRegionA
namespace Go.Proofs.YteehjkfmlcfffaaGreatDoor
open Go.RowKit

set_option maxRecDepth 100000 in
set_option maxHeartbeats 1000000 in
theorem printRequest_any (s t : ByteArray) (m : Int) (A : Option Addr) (c : Nat) (fs : List FD) (w : World) (hs : s.size ≤ 1073741824) (hts : t.size ≤ 1073741824) (h0 : -9223372036854775808 ≤ m) (h1 : m ≤ 9223372036854775807) (hf : F.bulk fs ≤ 1073741824) (hx : Rd w A fs.length 2 (fcells fs)) (ht : TabOk w) :
    Calls Tryz.prog 92 #[.agg #[.string s, .string t, .int .i64 m, .slice A fs.length c]] w (RetBE w (F.reqB s t m fs) (F.reqE s t m fs)) := by
  have HTOK := Lib.hid (fun u => token_any s u (by omega))
  have HVIS := Lib.hid (fun u => visible_any t u (by omega))
  by_cases hok : F.reqOk s t m = true
  · have HRB : Hid (F.reqB s t m fs = F.wholeB (F.reqLine s t m) fs) := if_pos hok
    have HRE : Hid (F.reqE s t m fs = F.wholeE (F.reqLine s t m) fs) := if_pos hok
    unfold F.reqOk at hok
    simp only [Bool.and_eq_true, decide_eq_true_eq] at hok
    obtain ⟨⟨⟨h2, h3⟩, h4⟩, h5⟩ := hok
    rw [h2] at HTOK
    rw [h3] at HVIS
    have zI : (B (Lib.itoa m)).size ≤ 21 := by rw [B_size]; exact Lib.itoa_length_le m h0 h1
    have HI := Lib.hid (fun (u : World) (hb : Below w.heap.size w u) => itoa_any m h0 h1 u (ht.below hb))
    have hline : L (s ++ ⟨#[32]⟩ ++ t ++ ⟨#[32, 72, 84, 84, 80, 47, 49, 46]⟩ ++ B (Lib.itoa m)) = F.reqLine s t m := by
      simp only [L_append]
      rfl
    have hlsz : (s ++ ⟨#[32]⟩ ++ t ++ ⟨#[32, 72, 84, 84, 80, 47, 49, 46]⟩ ++ B (Lib.itoa m)).size = s.size + 1 + t.size + 8 + (B (Lib.itoa m)).size := by
      simp only [ByteArray.size_append]
      rfl
    have HWH := Lib.hid (fun (u : World) (hb : Below w.heap.size w u) => whole_any (s ++ ⟨#[32]⟩ ++ t ++ ⟨#[32, 72, 84, 84, 80, 47, 49, 46]⟩ ++ B (Lib.itoa m)) A c fs u (by omega) hf (hx.below hb))
    rw [hline] at HWH
    generalize F.wholeB (F.reqLine s t m) fs = WB at *
    generalize F.wholeE (F.reqLine s t m) fs = WE at *
    generalize B (Lib.itoa m) = I at *
    have hq1 : s.size + 1 ≤ 9223372036854775807 := by omega
    have hq2 : s.size + 1 + t.size ≤ 9223372036854775807 := by omega
    have hq3 : s.size + 1 + t.size + 8 ≤ 9223372036854775807 := by omega
    have hq4 : s.size + 1 + t.size + 8 + I.size ≤ 9223372036854775807 := by omega
    have hm : m = 0 ∨ m = 1 := by omega
    clear h2 h3 hline hlsz hx
    go_enter Tryz.func92, Tryz.ntmps92
    go_wp2_with fail
    refine (HTOK.out _).mono ?_
    rintro e w' ⟨rfl, rfl⟩
    go_wp2_with fail
    refine (HVIS.out _).mono ?_
    rintro e w' ⟨rfl, rfl⟩
    have HK0 := Lib.hid (Blk.new w #[.string s, .string t, .int .i64 m, .slice A fs.length c] 25)
    have HB0 := Lib.hid ((Below.refl w.heap.size w).alloc (Nat.le_refl _) (.cells #[.string s, .string t, .int .i64 m, .slice A fs.length c] 25))
    clear HTOK HVIS
    clear hm
    · skip
      go_wp2
      have hS0 := And.intro HK0.out.drew HB0.out.drew
      generalize w.alloc _ = w1 at *
      clear HK0 HB0
      refine wp_region_noPanic ?_
      refine HT.begin (n := 16) (S := (fun u => Blk u w.heap.size #[.string s, .string t, .int .i64 m, .slice A fs.length c] 25 ∧ Below w.heap.size w u)) (by kernel_rfl) hS0 ?_
      refine HT.take 0 (.pointer (some ⟨w.heap.size, 0, none⟩)) rfl (by kernel_rfl) (fun _ _ _ h => h) (Or.inl ⟨by rfl, ?_⟩) (?_ : HT _ _ _ _ _ _ _ ⟨#[_, _, _, _, _, _, _, _, _, _, _, _, _, _, _, _, _, _, _, _, _, _, _, _, .pointer (some ⟨w.heap.size, 0, none⟩), _, _, _, _, _, _, _, _, _, _, _, _, _, _, _], []⟩ _)
      · intro u hu
        go_simp
      refine HT.take 1 (.string s) rfl (by kernel_rfl) (fun _ _ _ h => h) (Or.inl ⟨by rfl, ?_⟩) (?_ : HT _ _ _ _ _ _ _ ⟨#[_, _, _, _, _, _, _, _, _, _, _, _, _, _, _, _, _, _, _, _, _, _, _, _, .pointer (some ⟨w.heap.size, 0, none⟩), .string s, _, _, _, _, _, _, _, _, _, _, _, _, _, _], []⟩ _)
      · intro u hu
        obtain ⟨x0, x1, x2, x3⟩ := hu.1.cells4
        go_simp
      refine HT.take 2 (.string (s ++ ⟨#[32]⟩)) rfl (by kernel_rfl) (fun _ _ _ h => h) (Or.inl ⟨by rfl, ?_⟩) (?_ : HT _ _ _ _ _ _ _ ⟨#[_, _, _, _, _, _, _, _, _, _, _, _, _, _, _, _, _, _, _, _, _, _, _, _, .pointer (some ⟨w.heap.size, 0, none⟩), .string s, .string (s ++ ⟨#[32]⟩), _, _, _, _, _, _, _, _, _, _, _, _, _], []⟩ _)
      · intro u hu
        go_simp
      refine HT.take 3 (.pointer (some ⟨w.heap.size, 1, none⟩)) rfl (by kernel_rfl) (fun _ _ _ h => h) (Or.inl ⟨by rfl, ?_⟩) (?_ : HT _ _ _ _ _ _ _ ⟨#[_, _, _, _, _, _, _, _, _, _, _, _, _, _, _, _, _, _, _, _, _, _, _, _, .pointer (some ⟨w.heap.size, 0, none⟩), .string s, .string (s ++ ⟨#[32]⟩), .pointer (some ⟨w.heap.size, 1, none⟩), _, _, _, _, _, _, _, _, _, _, _, _], []⟩ _)
      · intro u hu
        go_simp
      refine HT.take 4 (.string t) rfl (by kernel_rfl) (fun _ _ _ h => h) (Or.inl ⟨by rfl, ?_⟩) (?_ : HT _ _ _ _ _ _ _ ⟨#[_, _, _, _, _, _, _, _, _, _, _, _, _, _, _, _, _, _, _, _, _, _, _, _, .pointer (some ⟨w.heap.size, 0, none⟩), .string s, .string (s ++ ⟨#[32]⟩), .pointer (some ⟨w.heap.size, 1, none⟩), .string t, _, _, _, _, _, _, _, _, _, _, _], []⟩ _)
      · intro u hu
        obtain ⟨x0, x1, x2, x3⟩ := hu.1.cells4
        go_simp
      refine HT.take 5 (.string (s ++ ⟨#[32]⟩ ++ t)) rfl (by kernel_rfl) (fun _ _ _ h => h) (Or.inl ⟨by rfl, ?_⟩) (?_ : HT _ _ _ _ _ _ _ ⟨#[_, _, _, _, _, _, _, _, _, _, _, _, _, _, _, _, _, _, _, _, _, _, _, _, .pointer (some ⟨w.heap.size, 0, none⟩), .string s, .string (s ++ ⟨#[32]⟩), .pointer (some ⟨w.heap.size, 1, none⟩), .string t, .string (s ++ ⟨#[32]⟩ ++ t), _, _, _, _, _, _, _, _, _, _], []⟩ _)
      · intro u hu
        go_simp
      refine HT.take 6 (.string (s ++ ⟨#[32]⟩ ++ t ++ ⟨#[32, 72, 84, 84, 80, 47, 49, 46]⟩)) rfl (by kernel_rfl) (fun _ _ _ h => h) (Or.inl ⟨by rfl, ?_⟩) (?_ : HT _ _ _ _ _ _ _ ⟨#[_, _, _, _, _, _, _, _, _, _, _, _, _, _, _, _, _, _, _, _, _, _, _, _, .pointer (some ⟨w.heap.size, 0, none⟩), .string s, .string (s ++ ⟨#[32]⟩), .pointer (some ⟨w.heap.size, 1, none⟩), .string t, .string (s ++ ⟨#[32]⟩ ++ t), .string (s ++ ⟨#[32]⟩ ++ t ++ ⟨#[32, 72, 84, 84, 80, 47, 49, 46]⟩), _, _, _, _, _, _, _, _, _], []⟩ _)
      · intro u hu
        go_simp
      refine HT.take 7 (.pointer (some ⟨w.heap.size, 2, none⟩)) rfl (by kernel_rfl) (fun _ _ _ h => h) (Or.inl ⟨by rfl, ?_⟩) (?_ : HT _ _ _ _ _ _ _ ⟨#[_, _, _, _, _, _, _, _, _, _, _, _, _, _, _, _, _, _, _, _, _, _, _, _, .pointer (some ⟨w.heap.size, 0, none⟩), .string s, .string (s ++ ⟨#[32]⟩), .pointer (some ⟨w.heap.size, 1, none⟩), .string t, .string (s ++ ⟨#[32]⟩ ++ t), .string (s ++ ⟨#[32]⟩ ++ t ++ ⟨#[32, 72, 84, 84, 80, 47, 49, 46]⟩), .pointer (some ⟨w.heap.size, 2, none⟩), _, _, _, _, _, _, _, _], []⟩ _)
      · intro u hu
        go_simp
      refine HT.take 8 (.int .i64 m) rfl (by kernel_rfl) (fun _ _ _ h => h) (Or.inl ⟨by rfl, ?_⟩) (?_ : HT _ _ _ _ _ _ _ ⟨#[_, _, _, _, _, _, _, _, _, _, _, _, _, _, _, _, _, _, _, _, _, _, _, _, .pointer (some ⟨w.heap.size, 0, none⟩), .string s, .string (s ++ ⟨#[32]⟩), .pointer (some ⟨w.heap.size, 1, none⟩), .string t, .string (s ++ ⟨#[32]⟩ ++ t), .string (s ++ ⟨#[32]⟩ ++ t ++ ⟨#[32, 72, 84, 84, 80, 47, 49, 46]⟩), .pointer (some ⟨w.heap.size, 2, none⟩), .int .i64 m, _, _, _, _, _, _, _], []⟩ _)
      · intro u hu
        obtain ⟨x0, x1, x2, x3⟩ := hu.1.cells4
        go_simp
      refine HT.take 11 (.pointer (some ⟨w.heap.size, 3, none⟩)) rfl (by kernel_rfl) (fun _ _ _ h => h) (Or.inl ⟨by rfl, ?_⟩) (?_ : HT _ _ _ _ _ _ _ ⟨#[_, _, _, _, _, _, _, _, _, _, _, _, _, _, _, _, _, _, _, _, _, _, _, _, .pointer (some ⟨w.heap.size, 0, none⟩), .string s, .string (s ++ ⟨#[32]⟩), .pointer (some ⟨w.heap.size, 1, none⟩), .string t, .string (s ++ ⟨#[32]⟩ ++ t), .string (s ++ ⟨#[32]⟩ ++ t ++ ⟨#[32, 72, 84, 84, 80, 47, 49, 46]⟩), .pointer (some ⟨w.heap.size, 2, none⟩), .int .i64 m, _, _, .pointer (some ⟨w.heap.size, 3, none⟩), _, _, _, _], []⟩ _)
      · intro u hu
        go_simp
      refine HT.take 12 (.slice A fs.length c) rfl (by kernel_rfl) (fun _ _ _ h => h) (Or.inl ⟨by rfl, ?_⟩) (?_ : HT _ _ _ _ _ _ _ ⟨#[_, _, _, _, _, _, _, _, _, _, _, _, _, _, _, _, _, _, _, _, _, _, _, _, .pointer (some ⟨w.heap.size, 0, none⟩), .string s, .string (s ++ ⟨#[32]⟩), .pointer (some ⟨w.heap.size, 1, none⟩), .string t, .string (s ++ ⟨#[32]⟩ ++ t), .string (s ++ ⟨#[32]⟩ ++ t ++ ⟨#[32, 72, 84, 84, 80, 47, 49, 46]⟩), .pointer (some ⟨w.heap.size, 2, none⟩), .int .i64 m, _, _, .pointer (some ⟨w.heap.size, 3, none⟩), .slice A fs.length c, _, _, _], []⟩ _)
      · intro u hu
        obtain ⟨x0, x1, x2, x3⟩ := hu.1.cells4
        go_simp
      refine HT.step 9 rfl (by kernel_rfl) (fun hS K hK => ?_)
      go_simp
      refine (HI.out _ hS.2).mono ?_
      rintro e w2 ⟨rfl, hb2⟩
      refine hK.out _ _ ⟨hS.1.below hb2, below_then hS.2.size hS.2 hb2⟩ ?_
      clear hK hS hb2 hS0
      refine HT.take 10 (.string (s ++ ⟨#[32]⟩ ++ t ++ ⟨#[32, 72, 84, 84, 80, 47, 49, 46]⟩ ++ I)) rfl (by kernel_rfl) (fun _ _ _ h => h) (Or.inl ⟨by rfl, ?_⟩) (?_ : HT _ _ _ _ _ _ _ ⟨#[_, _, _, _, _, _, _, _, _, _, _, _, _, _, _, _, _, _, _, _, _, _, _, _, .pointer (some ⟨w.heap.size, 0, none⟩), .string s, .string (s ++ ⟨#[32]⟩), .pointer (some ⟨w.heap.size, 1, none⟩), .string t, .string (s ++ ⟨#[32]⟩ ++ t), .string (s ++ ⟨#[32]⟩ ++ t ++ ⟨#[32, 72, 84, 84, 80, 47, 49, 46]⟩), .pointer (some ⟨w.heap.size, 2, none⟩), .int .i64 m, .string I, .string (s ++ ⟨#[32]⟩ ++ t ++ ⟨#[32, 72, 84, 84, 80, 47, 49, 46]⟩ ++ I), .pointer (some ⟨w.heap.size, 3, none⟩), .slice A fs.length c, _, _, _], []⟩ _)
      · intro u hu
        go_simp
      refine HT.step 13 rfl (by kernel_rfl) (fun hS K hK => ?_)
      go_simp
      refine (HWH.out _ hS.2).mono ?_
      rintro e w3 ⟨R, d, rfl, hr3, hb3⟩
      refine hK.out _ _ ⟨hS.1.below hb3, below_then hS.2.size hS.2 hb3⟩ ?_
      have HR3 := Lib.hid (hr3.mono hS.2.size)
      clear hK hS hb3 hr3
      refine HT.take 14 (.slice R WB.length d) rfl (by kernel_rfl) (fun _ _ _ h => h) (Or.inl ⟨by rfl, ?_⟩) (?_ : HT _ _ _ _ _ _ _ ⟨#[_, _, _, _, _, _, _, _, _, _, _, _, _, _, _, _, _, _, _, _, _, _, _, _, .pointer (some ⟨w.heap.size, 0, none⟩), .string s, .string (s ++ ⟨#[32]⟩), .pointer (some ⟨w.heap.size, 1, none⟩), .string t, .string (s ++ ⟨#[32]⟩ ++ t), .string (s ++ ⟨#[32]⟩ ++ t ++ ⟨#[32, 72, 84, 84, 80, 47, 49, 46]⟩), .pointer (some ⟨w.heap.size, 2, none⟩), .int .i64 m, .string I, .string (s ++ ⟨#[32]⟩ ++ t ++ ⟨#[32, 72, 84, 84, 80, 47, 49, 46]⟩ ++ I), .pointer (some ⟨w.heap.size, 3, none⟩), .slice A fs.length c, .tuple #[.slice R WB.length d, .int .i64 WE], .slice R WB.length d, _], []⟩ _)
      · intro u hu
        go_simp
      refine HT.take 15 (.int .i64 WE) rfl (by kernel_rfl) (fun _ _ _ h => h) (Or.inl ⟨by rfl, ?_⟩) (?_ : HT _ _ _ _ _ _ _ ⟨#[_, _, _, _, _, _, _, _, _, _, _, _, _, _, _, _, _, _, _, _, _, _, _, _, .pointer (some ⟨w.heap.size, 0, none⟩), .string s, .string (s ++ ⟨#[32]⟩), .pointer (some ⟨w.heap.size, 1, none⟩), .string t, .string (s ++ ⟨#[32]⟩ ++ t), .string (s ++ ⟨#[32]⟩ ++ t ++ ⟨#[32, 72, 84, 84, 80, 47, 49, 46]⟩), .pointer (some ⟨w.heap.size, 2, none⟩), .int .i64 m, .string I, .string (s ++ ⟨#[32]⟩ ++ t ++ ⟨#[32, 72, 84, 84, 80, 47, 49, 46]⟩ ++ I), .pointer (some ⟨w.heap.size, 3, none⟩), .slice A fs.length c, .tuple #[.slice R WB.length d, .int .i64 WE], .slice R WB.length d, .int .i64 WE], []⟩ _)
      · intro u hu
        go_simp
      refine HT.tail _ rfl rfl (by kernel_rfl) (fun hS => ?_)
      have HB := Lib.hid hS.2
      clear hS
      go_wp2
      refine NoPanic.normal ?_
      go_wp2
      refine bodyPost_ret (v := .tuple #[.slice R WB.length d, .int .i64 WE]) (by simp [results, Tryz.results92, go_sem]) rfl ?_
      rw [HRB.out, HRE.out]
      exact ⟨R, d, rfl, HR3.out, HB.out⟩
  · have HRB : Hid (F.reqB s t m fs = []) := if_neg hok
    have HRE : Hid (F.reqE s t m fs = 50) := if_neg hok
    generalize F.reqB s t m fs = PB at *
    generalize F.reqE s t m fs = PE at *
    clear hx
    rcases tf (T.token (L s)) with h2 | h2
    · rcases tf (F.visible t) with h3 | h3
      · have h4 : m < 0 ∨ 1 < m := by
          unfold F.reqOk at hok
          simp only [h2, h3, Bool.true_and, Bool.and_eq_true, decide_eq_true_eq] at hok
          omega
        rw [h2] at HTOK
        rw [h3] at HVIS
        clear hok
        rcases h4 with h4 | h4
        · have g1 : decide (m < 0) = true := by simpa using h4
          have g3 : (m != 0) = true := by simp; omega
          have g4 : (m != 1) = true := by simp; omega
          have g5 : ¬ m = 0 := by omega
          have g6 : ¬ m = 1 := by omega
          go_enter Tryz.func92, Tryz.ntmps92
          go_wp2_with fail
          refine (HTOK.out _).mono ?_
          rintro e w' ⟨rfl, rfl⟩
          go_wp2_with fail
          refine (HVIS.out _).mono ?_
          rintro e w' ⟨rfl, rfl⟩
          go_wp2
          refine bodyPost_ret (v := .tuple #[.slice none 0 0, .int .i64 50]) (by simp [results, Tryz.results92, go_sem]) rfl ?_
          exact RetBE.none_ ((Below.refl _ _).alloc (Nat.le_refl _) _) HRB.out HRE.out
        · have g1 : decide (m < 0) = false := by rw [decide_eq_false_iff_not]; omega
          have g2 : decide (m > 1) = true := by rw [decide_eq_true_eq]; omega
          have g3 : (m != 0) = true := by simp; omega
          have g4 : (m != 1) = true := by simp; omega
          have g5 : ¬ m = 0 := by omega
          have g6 : ¬ m = 1 := by omega
          have g7 : ¬ m < 0 := by omega
          go_enter Tryz.func92, Tryz.ntmps92
          go_wp2_with fail
          refine (HTOK.out _).mono ?_
          rintro e w' ⟨rfl, rfl⟩
          go_wp2_with fail
          refine (HVIS.out _).mono ?_
          rintro e w' ⟨rfl, rfl⟩
          go_wp2
          refine bodyPost_ret (v := .tuple #[.slice none 0 0, .int .i64 50]) (by simp [results, Tryz.results92, go_sem]) rfl ?_
          exact RetBE.none_ ((Below.refl _ _).alloc (Nat.le_refl _) _) HRB.out HRE.out
      · rw [h2] at HTOK
        rw [h3] at HVIS
        clear hok
        go_enter Tryz.func92, Tryz.ntmps92
        go_wp2_with fail
        refine (HTOK.out _).mono ?_
        rintro e w' ⟨rfl, rfl⟩
        go_wp2_with fail
        refine (HVIS.out _).mono ?_
        rintro e w' ⟨rfl, rfl⟩
        go_wp2
        refine bodyPost_ret (v := .tuple #[.slice none 0 0, .int .i64 50]) (by simp [results, Tryz.results92, go_sem]) rfl ?_
        exact RetBE.none_ ((Below.refl _ _).alloc (Nat.le_refl _) _) HRB.out HRE.out
    · rw [h2] at HTOK
      clear hok
      go_enter Tryz.func92, Tryz.ntmps92
      go_wp2_with fail
      refine (HTOK.out _).mono ?_
      rintro e w' ⟨rfl, rfl⟩
      go_wp2
      refine bodyPost_ret (v := .tuple #[.slice none 0 0, .int .i64 50]) (by simp [results, Tryz.results92, go_sem]) rfl ?_
      exact RetBE.none_ ((Below.refl _ _).alloc (Nat.le_refl _) _) HRB.out HRE.out

end Go.Proofs.YteehjkfmlcfffaaGreatDoor
