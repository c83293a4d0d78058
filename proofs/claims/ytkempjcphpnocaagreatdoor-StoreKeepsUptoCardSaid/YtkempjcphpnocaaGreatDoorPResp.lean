/- The walks of head.PrintResponse and of the document's. Conditions: a list of bulk at most 2^30, texts of at most 2^30 bytes, numbers of 64 bits, the library's table of powers of ten. -/
import Derived.Test.YtkempjcphpnocaaGreatDoorZ02
import Derived.Test.YtkempjcphpnocaaGreatDoorZ23
import Derived.Test.YtkempjcphpnocaaGreatDoorZ20
import Derived.Test.YtkempjcphpnocaaGreatDoorZ00
namespace Go.Proofs.YtkempjcphpnocaaGreatDoor
open Go.RowKit
theorem resp_bad {s m:Int} {r:ByteArray} {fs:List FD} (h:m < 0 ∨ 1 < m ∨ F.text r = false):F.respB s r m fs = [] ∧ F.respE s r m fs = 50:=by
  have h1:F.respE s r m fs = 50:=if_pos h
  exact ⟨if_neg (by rw [h1]; decide),h1⟩
theorem resp_status {s m:Int} {r:ByteArray} {fs:List FD} (h:¬ (m < 0 ∨ 1 < m ∨ F.text r = false)) (h2:s < 100 ∨ 599 < s):F.respB s r m fs = [] ∧ F.respE s r m fs = 53:=by
  have h1:F.respE s r m fs = 53:=(if_neg h).trans (if_pos h2)
  exact ⟨if_neg (by rw [h1]; decide),h1⟩
theorem resp_ok {s m:Int} {r:ByteArray} {fs:List FD} (h:¬ (m < 0 ∨ 1 < m ∨ F.text r = false)) (h2:¬ (s < 100 ∨ 599 < s)):F.respB s r m fs = F.wholeB (F.respLine s r m) fs ∧ F.respE s r m fs = F.wholeE (F.respLine s r m) fs:=by
  have h1:F.respE s r m fs = F.wholeE (F.respLine s r m) fs:=(if_neg h).trans (if_neg h2)
  refine ⟨?_,h1⟩
  unfold F.respB
  rw [h1]
  split
  · rfl
  · rename_i h3
    exact (if_neg h3).symm
set_option maxRecDepth 100000 in
set_option maxHeartbeats 4000000 in
theorem printResponse_any (s:Int) (r:ByteArray) (m:Int) (A:Option Addr) (c:Nat) (fs:List FD) (w:World) (hr:r.size ≤ 1073741824) (hf:F.bulk fs ≤ 1073741824) (hx:Rd w A fs.length 2 (fcells fs)) (ht:TabOk w) :
    Calls Tryz.prog 76 #[.agg #[.int .i64 s,.string r,.int .i64 m,.slice A fs.length c]] w (RetBE w (F.respB s r m fs) (F.respE s r m fs)):=by
  have HTX:=Lib.hid (fun u=>text_any r u (by omega))
  by_cases hbad:m < 0 ∨ 1 < m ∨ F.text r = false
  · have HRB:=Lib.hid (resp_bad (s:=s) (m:=m) (r:=r) (fs:=fs) hbad)
    generalize F.respB s r m fs = PB at *
    generalize F.respE s r m fs = PE at *
    clear hx
    by_cases hm0:m < 0
    · have g1:decide (m < 0) = true:=by simpa using hm0
      have g1:0 ≤ 0:=Nat.le_refl 0
      clear hbad HTX
      have HB0:=Lib.hid ((Below.refl w.heap.size w).alloc (Nat.le_refl _) (.cells #[.int .i64 s,.string r,.int .i64 m,.slice A fs.length c] 25))
      go_enter Tryz.func76,Tryz.ntmps76
      go_wp2
      refine bodyPost_ret (v:=.tuple #[.slice none 0 0,.int .i64 50]) (by simp [results,Tryz.results76,go_sem]) rfl ?_
      exact RetBE.none_ HB0.out HRB.out.1 HRB.out.2
    · by_cases hm1:1 < m
      · have g1:decide (m < 0) = false:=by rw [decide_eq_false_iff_not]; omega
        have g2:decide (m > 1) = true:=by rw [decide_eq_true_eq]; omega
        have g1:0 ≤ 0:=Nat.le_refl 0
        have g7:¬ m < 0:=by omega
        clear hbad HTX
        have HB0:=Lib.hid ((Below.refl w.heap.size w).alloc (Nat.le_refl _) (.cells #[.int .i64 s,.string r,.int .i64 m,.slice A fs.length c] 25))
        go_enter Tryz.func76,Tryz.ntmps76
        go_wp2
        refine bodyPost_ret (v:=.tuple #[.slice none 0 0,.int .i64 50]) (by simp [results,Tryz.results76,go_sem]) rfl ?_
        exact RetBE.none_ HB0.out HRB.out.1 HRB.out.2
      · have htx:F.text r = false:=by
          rcases hbad with h | h | h
          · exact absurd h hm0
          · exact absurd h hm1
          · exact h
        rw [htx] at HTX
        clear hbad htx
        go_enter Tryz.func76,Tryz.ntmps76
        go_wp2_with fail
        have HK0:=Lib.hid (Blk.new w #[.int .i64 s,.string r,.int .i64 m,.slice A fs.length c] 25)
        have HB0:=Lib.hid ((Below.refl w.heap.size w).alloc (Nat.le_refl _) (.cells #[.int .i64 s,.string r,.int .i64 m,.slice A fs.length c] 25))
        generalize w.alloc (.cells #[.int .i64 s,.string r,.int .i64 m,.slice A fs.length c] 25) = w0 at *
        refine (HTX.out _).mono ?_
        rintro e w1 ⟨rfl,hb1⟩
        replace HK0:=Lib.hid (HK0.out.below hb1)
        replace HB0:=Lib.hid (below_then HB0.out.size HB0.out hb1)
        obtain ⟨x0,x1,x2,x3⟩:=HK0.out.cells4
        clear hb1 HTX
        go_wp2
        refine bodyPost_ret (v:=.tuple #[.slice none 0 0,.int .i64 50]) (by simp [results,Tryz.results76,go_sem]) rfl ?_
        exact RetBE.none_ HB0.out HRB.out.1 HRB.out.2
  · have htx:F.text r = true:=by
      rcases tf (F.text r) with h | h
      · exact h
      · exact absurd (.inr (.inr h)) hbad
    rw [htx] at HTX
    have hm0:¬ m < 0:=fun h=>hbad (.inl h)
    have hm1:¬ 1 < m:=fun h=>hbad (.inr (.inl h))
    by_cases hst:s < 100 ∨ 599 < s
    · have HRB:=Lib.hid (resp_status (s:=s) (m:=m) (r:=r) (fs:=fs) hbad hst)
      generalize F.respB s r m fs = PB at *
      generalize F.respE s r m fs = PE at *
      clear hx hbad htx
      by_cases hs1:s < 100
      · have g8:decide (s < 100) = true:=by simpa using hs1
        clear hst
        go_enter Tryz.func76,Tryz.ntmps76
        go_wp2_with fail
        have HK0:=Lib.hid (Blk.new w #[.int .i64 s,.string r,.int .i64 m,.slice A fs.length c] 25)
        have HB0:=Lib.hid ((Below.refl w.heap.size w).alloc (Nat.le_refl _) (.cells #[.int .i64 s,.string r,.int .i64 m,.slice A fs.length c] 25))
        generalize w.alloc (.cells #[.int .i64 s,.string r,.int .i64 m,.slice A fs.length c] 25) = w0 at *
        refine (HTX.out _).mono ?_
        rintro e w1 ⟨rfl,hb1⟩
        replace HK0:=Lib.hid (HK0.out.below hb1)
        replace HB0:=Lib.hid (below_then HB0.out.size HB0.out hb1)
        obtain ⟨x0,x1,x2,x3⟩:=HK0.out.cells4
        clear hb1 HTX
        go_wp2
        refine bodyPost_ret (v:=.tuple #[.slice none 0 0,.int .i64 53]) (by simp [results,Tryz.results76,go_sem]) rfl ?_
        exact RetBE.none_ HB0.out HRB.out.1 HRB.out.2
      · have hs2:599 < s:=by omega
        have g8:decide (s < 100) = false:=by rw [decide_eq_false_iff_not]; omega
        have g9:decide (s > 599) = true:=by rw [decide_eq_true_eq]; omega
        clear hst
        go_enter Tryz.func76,Tryz.ntmps76
        go_wp2_with fail
        have HK0:=Lib.hid (Blk.new w #[.int .i64 s,.string r,.int .i64 m,.slice A fs.length c] 25)
        have HB0:=Lib.hid ((Below.refl w.heap.size w).alloc (Nat.le_refl _) (.cells #[.int .i64 s,.string r,.int .i64 m,.slice A fs.length c] 25))
        generalize w.alloc (.cells #[.int .i64 s,.string r,.int .i64 m,.slice A fs.length c] 25) = w0 at *
        refine (HTX.out _).mono ?_
        rintro e w1 ⟨rfl,hb1⟩
        replace HK0:=Lib.hid (HK0.out.below hb1)
        replace HB0:=Lib.hid (below_then HB0.out.size HB0.out hb1)
        obtain ⟨x0,x1,x2,x3⟩:=HK0.out.cells4
        clear hb1 HTX
        go_wp2
        refine bodyPost_ret (v:=.tuple #[.slice none 0 0,.int .i64 53]) (by simp [results,Tryz.results76,go_sem]) rfl ?_
        exact RetBE.none_ HB0.out HRB.out.1 HRB.out.2
    · have HRB:=Lib.hid (resp_ok (s:=s) (m:=m) (r:=r) (fs:=fs) hbad hst)
      have hs1:¬ s < 100:=fun h=>hst (.inl h)
      have hs2:¬ 599 < s:=fun h=>hst (.inr h)
      have zI:(B (Lib.itoa m)).size ≤ 21:=by rw [B_size]; exact Lib.itoa_length_le m (by omega) (by omega)
      have zJ:(B (Lib.itoa s)).size ≤ 21:=by rw [B_size]; exact Lib.itoa_length_le s (by omega) (by omega)
      have HI:=Lib.hid (fun (u:World) (hb:Below w.heap.size w u)=>itoa_any m (by omega) (by omega) u (ht.below hb))
      have HJ:=Lib.hid (fun (u:World) (hb:Below w.heap.size w u)=>itoa_any s (by omega) (by omega) u (ht.below hb))
      have hline:L (⟨#[72,84,84,80,47,49,46]⟩ ++ B (Lib.itoa m) ++ ⟨#[32]⟩ ++ B (Lib.itoa s) ++ ⟨#[32]⟩ ++ r:ByteArray) = F.respLine s r m:=by
        simp only [L_append]
        rfl
      have hlsz:(⟨#[72,84,84,80,47,49,46]⟩ ++ B (Lib.itoa m) ++ ⟨#[32]⟩ ++ B (Lib.itoa s) ++ ⟨#[32]⟩ ++ r:ByteArray).size = 7 + (B (Lib.itoa m)).size + 1 + (B (Lib.itoa s)).size + 1 + r.size:=by
        simp only [ByteArray.size_append]
        rfl
      have HWH:=Lib.hid (fun (u:World) (hb:Below w.heap.size w u)=>whole_any (⟨#[72,84,84,80,47,49,46]⟩ ++ B (Lib.itoa m) ++ ⟨#[32]⟩ ++ B (Lib.itoa s) ++ ⟨#[32]⟩ ++ r:ByteArray) A c fs u (by omega) hf (hx.below hb))
      rw [hline] at HWH
      generalize F.respB s r m fs = PB at *
      generalize F.respE s r m fs = PE at *
      generalize F.wholeB (F.respLine s r m) fs = WB at *
      generalize F.wholeE (F.respLine s r m) fs = WE at *
      clear hline hlsz
      generalize B (Lib.itoa m) = I at *
      generalize B (Lib.itoa s) = J at *
      have hq1:7 + I.size ≤ 9223372036854775807:=by omega
      have hq2:7 + I.size + 1 ≤ 9223372036854775807:=by omega
      have hq3:7 + I.size + 1 + J.size ≤ 9223372036854775807:=by omega
      have hq4:7 + I.size + 1 + J.size + 1 ≤ 9223372036854775807:=by omega
      have hq5:7 + I.size + 1 + J.size + 1 + r.size ≤ 9223372036854775807:=by omega
      clear hx hbad htx hst
      go_enter Tryz.func76,Tryz.ntmps76
      go_wp2_with fail
      have HK0:=Lib.hid (Blk.new w #[.int .i64 s,.string r,.int .i64 m,.slice A fs.length c] 25)
      have HB0:=Lib.hid ((Below.refl w.heap.size w).alloc (Nat.le_refl _) (.cells #[.int .i64 s,.string r,.int .i64 m,.slice A fs.length c] 25))
      generalize w.alloc (.cells #[.int .i64 s,.string r,.int .i64 m,.slice A fs.length c] 25) = w0 at *
      refine (HTX.out _).mono ?_
      rintro e w1 ⟨rfl,hb1⟩
      replace HK0:=Lib.hid (HK0.out.below hb1)
      replace HB0:=Lib.hid (below_then HB0.out.size HB0.out hb1)
      obtain ⟨x0,x1,x2,x3⟩:=HK0.out.cells4
      clear hb1 HTX
      go_wp2
      have hS0:=And.intro HK0.out.drew HB0.out.drew
      clear HK0 HB0
      refine wp_region_noPanic ?_
      refine HT.begin (n:=18) (S:=(fun u=>Blk u w.heap.size #[.int .i64 s,.string r,.int .i64 m,.slice A fs.length c] 25 ∧ Below w.heap.size w u)) (by kernel_rfl) hS0 ?_
      refine HT.take 0 (.pointer (some ⟨w.heap.size,2,none⟩)) rfl (by kernel_rfl) (fun _ _ _ h=>h) (Or.inl ⟨by rfl,?_⟩) (?_:HT _ _ _ _ _ _ _ ⟨#[_,_,_,_,_,_,_,_,_,_,_,_,_,_,_,_,_,_,_,_,_,_,_,_,_,_,_,_,.pointer (some ⟨w.heap.size,2,none⟩),_,_,_,_,_,_,_,_,_,_,_,_,_,_,_,_,_],[]⟩ _)
      · intro u hu
        go_simp
      refine HT.take 1 (.int .i64 m) rfl (by kernel_rfl) (fun _ _ _ h=>h) (Or.inl ⟨by rfl,?_⟩) (?_:HT _ _ _ _ _ _ _ ⟨#[_,_,_,_,_,_,_,_,_,_,_,_,_,_,_,_,_,_,_,_,_,_,_,_,_,_,_,_,.pointer (some ⟨w.heap.size,2,none⟩),.int .i64 m,_,_,_,_,_,_,_,_,_,_,_,_,_,_,_,_],[]⟩ _)
      · intro u hu
        obtain ⟨x0,x1,x2,x3⟩:=hu.1.cells4
        go_simp
      refine HT.take 5 (.pointer (some ⟨w.heap.size,0,none⟩)) rfl (by kernel_rfl) (fun _ _ _ h=>h) (Or.inl ⟨by rfl,?_⟩) (?_:HT _ _ _ _ _ _ _ ⟨#[_,_,_,_,_,_,_,_,_,_,_,_,_,_,_,_,_,_,_,_,_,_,_,_,_,_,_,_,.pointer (some ⟨w.heap.size,2,none⟩),.int .i64 m,_,_,_,.pointer (some ⟨w.heap.size,0,none⟩),_,_,_,_,_,_,_,_,_,_,_,_],[]⟩ _)
      · intro u hu
        go_simp
      refine HT.take 6 (.int .i64 s) rfl (by kernel_rfl) (fun _ _ _ h=>h) (Or.inl ⟨by rfl,?_⟩) (?_:HT _ _ _ _ _ _ _ ⟨#[_,_,_,_,_,_,_,_,_,_,_,_,_,_,_,_,_,_,_,_,_,_,_,_,_,_,_,_,.pointer (some ⟨w.heap.size,2,none⟩),.int .i64 m,_,_,_,.pointer (some ⟨w.heap.size,0,none⟩),.int .i64 s,_,_,_,_,_,_,_,_,_,_,_],[]⟩ _)
      · intro u hu
        obtain ⟨x0,x1,x2,x3⟩:=hu.1.cells4
        go_simp
      refine HT.take 10 (.pointer (some ⟨w.heap.size,1,none⟩)) rfl (by kernel_rfl) (fun _ _ _ h=>h) (Or.inl ⟨by rfl,?_⟩) (?_:HT _ _ _ _ _ _ _ ⟨#[_,_,_,_,_,_,_,_,_,_,_,_,_,_,_,_,_,_,_,_,_,_,_,_,_,_,_,_,.pointer (some ⟨w.heap.size,2,none⟩),.int .i64 m,_,_,_,.pointer (some ⟨w.heap.size,0,none⟩),.int .i64 s,_,_,_,.pointer (some ⟨w.heap.size,1,none⟩),_,_,_,_,_,_,_],[]⟩ _)
      · intro u hu
        go_simp
      refine HT.take 11 (.string r) rfl (by kernel_rfl) (fun _ _ _ h=>h) (Or.inl ⟨by rfl,?_⟩) (?_:HT _ _ _ _ _ _ _ ⟨#[_,_,_,_,_,_,_,_,_,_,_,_,_,_,_,_,_,_,_,_,_,_,_,_,_,_,_,_,.pointer (some ⟨w.heap.size,2,none⟩),.int .i64 m,_,_,_,.pointer (some ⟨w.heap.size,0,none⟩),.int .i64 s,_,_,_,.pointer (some ⟨w.heap.size,1,none⟩),.string r,_,_,_,_,_,_],[]⟩ _)
      · intro u hu
        obtain ⟨x0,x1,x2,x3⟩:=hu.1.cells4
        go_simp
      refine HT.take 13 (.pointer (some ⟨w.heap.size,3,none⟩)) rfl (by kernel_rfl) (fun _ _ _ h=>h) (Or.inl ⟨by rfl,?_⟩) (?_:HT _ _ _ _ _ _ _ ⟨#[_,_,_,_,_,_,_,_,_,_,_,_,_,_,_,_,_,_,_,_,_,_,_,_,_,_,_,_,.pointer (some ⟨w.heap.size,2,none⟩),.int .i64 m,_,_,_,.pointer (some ⟨w.heap.size,0,none⟩),.int .i64 s,_,_,_,.pointer (some ⟨w.heap.size,1,none⟩),.string r,_,.pointer (some ⟨w.heap.size,3,none⟩),_,_,_,_],[]⟩ _)
      · intro u hu
        go_simp
      refine HT.take 14 (.slice A fs.length c) rfl (by kernel_rfl) (fun _ _ _ h=>h) (Or.inl ⟨by rfl,?_⟩) (?_:HT _ _ _ _ _ _ _ ⟨#[_,_,_,_,_,_,_,_,_,_,_,_,_,_,_,_,_,_,_,_,_,_,_,_,_,_,_,_,.pointer (some ⟨w.heap.size,2,none⟩),.int .i64 m,_,_,_,.pointer (some ⟨w.heap.size,0,none⟩),.int .i64 s,_,_,_,.pointer (some ⟨w.heap.size,1,none⟩),.string r,_,.pointer (some ⟨w.heap.size,3,none⟩),.slice A fs.length c,_,_,_],[]⟩ _)
      · intro u hu
        obtain ⟨x0,x1,x2,x3⟩:=hu.1.cells4
        go_simp
      refine HT.step 2 rfl (by kernel_rfl) (fun hS K hK=>?_)
      go_simp
      refine (HI.out _ hS.2).mono ?_
      rintro e w2 ⟨rfl,hb2⟩
      refine hK.out _ _ ⟨hS.1.below hb2,below_then hS.2.size hS.2 hb2⟩ ?_
      clear hK hS hb2 hS0
      refine HT.take 3 (.string (⟨#[72,84,84,80,47,49,46]⟩ ++ I)) rfl (by kernel_rfl) (fun _ _ _ h=>h) (Or.inl ⟨by rfl,?_⟩) (?_:HT _ _ _ _ _ _ _ ⟨#[_,_,_,_,_,_,_,_,_,_,_,_,_,_,_,_,_,_,_,_,_,_,_,_,_,_,_,_,.pointer (some ⟨w.heap.size,2,none⟩),.int .i64 m,.string I,.string (⟨#[72,84,84,80,47,49,46]⟩ ++ I),_,.pointer (some ⟨w.heap.size,0,none⟩),.int .i64 s,_,_,_,.pointer (some ⟨w.heap.size,1,none⟩),.string r,_,.pointer (some ⟨w.heap.size,3,none⟩),.slice A fs.length c,_,_,_],[]⟩ _)
      · intro u hu
        go_simp
      refine HT.take 4 (.string (⟨#[72,84,84,80,47,49,46]⟩ ++ I ++ ⟨#[32]⟩)) rfl (by kernel_rfl) (fun _ _ _ h=>h) (Or.inl ⟨by rfl,?_⟩) (?_:HT _ _ _ _ _ _ _ ⟨#[_,_,_,_,_,_,_,_,_,_,_,_,_,_,_,_,_,_,_,_,_,_,_,_,_,_,_,_,.pointer (some ⟨w.heap.size,2,none⟩),.int .i64 m,.string I,.string (⟨#[72,84,84,80,47,49,46]⟩ ++ I),.string (⟨#[72,84,84,80,47,49,46]⟩ ++ I ++ ⟨#[32]⟩),.pointer (some ⟨w.heap.size,0,none⟩),.int .i64 s,_,_,_,.pointer (some ⟨w.heap.size,1,none⟩),.string r,_,.pointer (some ⟨w.heap.size,3,none⟩),.slice A fs.length c,_,_,_],[]⟩ _)
      · intro u hu
        go_simp
      refine HT.step 7 rfl (by kernel_rfl) (fun hS K hK=>?_)
      go_simp
      refine (HJ.out _ hS.2).mono ?_
      rintro e w3 ⟨rfl,hb3⟩
      refine hK.out _ _ ⟨hS.1.below hb3,below_then hS.2.size hS.2 hb3⟩ ?_
      clear hK hS hb3
      refine HT.take 8 (.string (⟨#[72,84,84,80,47,49,46]⟩ ++ I ++ ⟨#[32]⟩ ++ J)) rfl (by kernel_rfl) (fun _ _ _ h=>h) (Or.inl ⟨by rfl,?_⟩) (?_:HT _ _ _ _ _ _ _ ⟨#[_,_,_,_,_,_,_,_,_,_,_,_,_,_,_,_,_,_,_,_,_,_,_,_,_,_,_,_,.pointer (some ⟨w.heap.size,2,none⟩),.int .i64 m,.string I,.string (⟨#[72,84,84,80,47,49,46]⟩ ++ I),.string (⟨#[72,84,84,80,47,49,46]⟩ ++ I ++ ⟨#[32]⟩),.pointer (some ⟨w.heap.size,0,none⟩),.int .i64 s,.string J,.string (⟨#[72,84,84,80,47,49,46]⟩ ++ I ++ ⟨#[32]⟩ ++ J),_,.pointer (some ⟨w.heap.size,1,none⟩),.string r,_,.pointer (some ⟨w.heap.size,3,none⟩),.slice A fs.length c,_,_,_],[]⟩ _)
      · intro u hu
        go_simp
      refine HT.take 9 (.string (⟨#[72,84,84,80,47,49,46]⟩ ++ I ++ ⟨#[32]⟩ ++ J ++ ⟨#[32]⟩)) rfl (by kernel_rfl) (fun _ _ _ h=>h) (Or.inl ⟨by rfl,?_⟩) (?_:HT _ _ _ _ _ _ _ ⟨#[_,_,_,_,_,_,_,_,_,_,_,_,_,_,_,_,_,_,_,_,_,_,_,_,_,_,_,_,.pointer (some ⟨w.heap.size,2,none⟩),.int .i64 m,.string I,.string (⟨#[72,84,84,80,47,49,46]⟩ ++ I),.string (⟨#[72,84,84,80,47,49,46]⟩ ++ I ++ ⟨#[32]⟩),.pointer (some ⟨w.heap.size,0,none⟩),.int .i64 s,.string J,.string (⟨#[72,84,84,80,47,49,46]⟩ ++ I ++ ⟨#[32]⟩ ++ J),.string (⟨#[72,84,84,80,47,49,46]⟩ ++ I ++ ⟨#[32]⟩ ++ J ++ ⟨#[32]⟩),.pointer (some ⟨w.heap.size,1,none⟩),.string r,_,.pointer (some ⟨w.heap.size,3,none⟩),.slice A fs.length c,_,_,_],[]⟩ _)
      · intro u hu
        go_simp
      refine HT.take 12 (.string (⟨#[72,84,84,80,47,49,46]⟩ ++ I ++ ⟨#[32]⟩ ++ J ++ ⟨#[32]⟩ ++ r)) rfl (by kernel_rfl) (fun _ _ _ h=>h) (Or.inl ⟨by rfl,?_⟩) (?_:HT _ _ _ _ _ _ _ ⟨#[_,_,_,_,_,_,_,_,_,_,_,_,_,_,_,_,_,_,_,_,_,_,_,_,_,_,_,_,.pointer (some ⟨w.heap.size,2,none⟩),.int .i64 m,.string I,.string (⟨#[72,84,84,80,47,49,46]⟩ ++ I),.string (⟨#[72,84,84,80,47,49,46]⟩ ++ I ++ ⟨#[32]⟩),.pointer (some ⟨w.heap.size,0,none⟩),.int .i64 s,.string J,.string (⟨#[72,84,84,80,47,49,46]⟩ ++ I ++ ⟨#[32]⟩ ++ J),.string (⟨#[72,84,84,80,47,49,46]⟩ ++ I ++ ⟨#[32]⟩ ++ J ++ ⟨#[32]⟩),.pointer (some ⟨w.heap.size,1,none⟩),.string r,.string (⟨#[72,84,84,80,47,49,46]⟩ ++ I ++ ⟨#[32]⟩ ++ J ++ ⟨#[32]⟩ ++ r),.pointer (some ⟨w.heap.size,3,none⟩),.slice A fs.length c,_,_,_],[]⟩ _)
      · intro u hu
        go_simp
      refine HT.step 15 rfl (by kernel_rfl) (fun hS K hK=>?_)
      go_simp
      refine (HWH.out _ hS.2).mono ?_
      rintro e w4 ⟨R0,d,rfl,hr4,hb4⟩
      refine hK.out _ _ ⟨hS.1.below hb4,below_then hS.2.size hS.2 hb4⟩ ?_
      have HR4:=Lib.hid (hr4.mono hS.2.size)
      clear hK hS hb4 hr4
      refine HT.take 16 (.slice R0 WB.length d) rfl (by kernel_rfl) (fun _ _ _ h=>h) (Or.inl ⟨by rfl,?_⟩) (?_:HT _ _ _ _ _ _ _ ⟨#[_,_,_,_,_,_,_,_,_,_,_,_,_,_,_,_,_,_,_,_,_,_,_,_,_,_,_,_,.pointer (some ⟨w.heap.size,2,none⟩),.int .i64 m,.string I,.string (⟨#[72,84,84,80,47,49,46]⟩ ++ I),.string (⟨#[72,84,84,80,47,49,46]⟩ ++ I ++ ⟨#[32]⟩),.pointer (some ⟨w.heap.size,0,none⟩),.int .i64 s,.string J,.string (⟨#[72,84,84,80,47,49,46]⟩ ++ I ++ ⟨#[32]⟩ ++ J),.string (⟨#[72,84,84,80,47,49,46]⟩ ++ I ++ ⟨#[32]⟩ ++ J ++ ⟨#[32]⟩),.pointer (some ⟨w.heap.size,1,none⟩),.string r,.string (⟨#[72,84,84,80,47,49,46]⟩ ++ I ++ ⟨#[32]⟩ ++ J ++ ⟨#[32]⟩ ++ r),.pointer (some ⟨w.heap.size,3,none⟩),.slice A fs.length c,.tuple #[.slice R0 WB.length d,.int .i64 WE],.slice R0 WB.length d,_],[]⟩ _)
      · intro u hu
        go_simp
      refine HT.take 17 (.int .i64 WE) rfl (by kernel_rfl) (fun _ _ _ h=>h) (Or.inl ⟨by rfl,?_⟩) (?_:HT _ _ _ _ _ _ _ ⟨#[_,_,_,_,_,_,_,_,_,_,_,_,_,_,_,_,_,_,_,_,_,_,_,_,_,_,_,_,.pointer (some ⟨w.heap.size,2,none⟩),.int .i64 m,.string I,.string (⟨#[72,84,84,80,47,49,46]⟩ ++ I),.string (⟨#[72,84,84,80,47,49,46]⟩ ++ I ++ ⟨#[32]⟩),.pointer (some ⟨w.heap.size,0,none⟩),.int .i64 s,.string J,.string (⟨#[72,84,84,80,47,49,46]⟩ ++ I ++ ⟨#[32]⟩ ++ J),.string (⟨#[72,84,84,80,47,49,46]⟩ ++ I ++ ⟨#[32]⟩ ++ J ++ ⟨#[32]⟩),.pointer (some ⟨w.heap.size,1,none⟩),.string r,.string (⟨#[72,84,84,80,47,49,46]⟩ ++ I ++ ⟨#[32]⟩ ++ J ++ ⟨#[32]⟩ ++ r),.pointer (some ⟨w.heap.size,3,none⟩),.slice A fs.length c,.tuple #[.slice R0 WB.length d,.int .i64 WE],.slice R0 WB.length d,.int .i64 WE],[]⟩ _)
      · intro u hu
        go_simp
      refine HT.tail _ rfl rfl (by kernel_rfl) (fun hS=>?_)
      have HB:=Lib.hid hS.2
      clear hS
      go_wp2
      refine NoPanic.normal ?_
      go_wp2
      refine bodyPost_ret (v:=.tuple #[.slice R0 WB.length d,.int .i64 WE]) (by simp [results,Tryz.results76,go_sem]) rfl ?_
      rw [HRB.out.1,HRB.out.2]
      exact ⟨R0,d,rfl,HR4.out,HB.out⟩
end Go.Proofs.YtkempjcphpnocaaGreatDoor
