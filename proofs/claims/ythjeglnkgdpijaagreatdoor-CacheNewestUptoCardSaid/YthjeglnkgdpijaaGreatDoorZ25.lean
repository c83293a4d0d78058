/- The walks of head.PrintResponse and of the document's. Conditions: a list of bulk at most 2^30, texts of at most 2^30 bytes, numbers of 64 bits, the library's table of powers of ten. The walk of object.Encode. Conditions: texts of at most 2^30 bytes, a list of fields of bulk at most 2^30, the library's table of powers of ten. -/
import Derived.Test.YthjeglnkgdpijaaGreatDoorZ12
import Derived.Lib.SlBytesConst
set_option maxHeartbeats 4000000
set_option maxRecDepth 100000
namespace Go.Proofs.YthjeglnkgdpijaaGreatDoor
open Go.RowKit
theorem resp_bad {s m:Int} {r:ByteArray} {fs:List FD} (h:m < 0∨1 < m∨F.text r=false):F.respB s r m fs=[]∧F.respE s r m fs=50:=by
 have h1:F.respE s r m fs=50:=if_pos h
 exact⟨if_neg (by rw[h1];decide),h1⟩
theorem resp_status {s m:Int} {r:ByteArray} {fs:List FD} (h:¬ (m < 0∨1 < m∨F.text r=false)) (h2:s < 100∨599 < s):F.respB s r m fs=[]∧F.respE s r m fs=53:=by
 have h1:F.respE s r m fs=53:=(if_neg h).trans (if_pos h2)
 exact⟨if_neg (by rw[h1];decide),h1⟩
theorem resp_ok {s m:Int} {r:ByteArray} {fs:List FD} (h:¬ (m < 0∨1 < m∨F.text r=false)) (h2:¬ (s < 100∨599 < s)):F.respB s r m fs=F.wholeB (F.respLine s r m) fs∧F.respE s r m fs=F.wholeE (F.respLine s r m) fs:=by
 have h1:F.respE s r m fs=F.wholeE (F.respLine s r m) fs:=(if_neg h).trans (if_neg h2)
 refine⟨?_,h1⟩
 unfold F.respB
 rw[h1]
 split
 ·rfl
 ·rename_i h3
  exact (if_neg h3).symm
theorem printResponse_any (s:Int) (r:ByteArray) (m:Int) (A:Option Addr) (c:Nat) (fs:List FD) (w:World) (hr:r.size≤1073741824) (hf:F.bulk fs≤1073741824) (hx:Rd w A fs.length 2 (fcells fs)) (ht:TabOk w) :
  Calls Tryz.prog 118 #[.agg #[.int .i64 s,.string r,.int .i64 m,.slice A fs.length c]] w (RetBE w (F.respB s r m fs) (F.respE s r m fs)):=by
 have HTX:=Lib.hid (fun u=>text_any r u (by omega))
 by_cases hbad:m < 0∨1 < m∨F.text r=false
 ·have HRB:=Lib.hid (resp_bad (s:=s) (m:=m) (r:=r) (fs:=fs) hbad)
  generalize F.respB s r m fs=PB at *
  generalize F.respE s r m fs=PE at *
  clear hx
  by_cases hm0:m < 0
  ·have g1:decide (m < 0)=true:=by simpa using hm0
   have g1:0≤0:=Nat.le_refl 0
   clear hbad HTX
   have HB0:=Lib.hid ((Below.refl w.heap.size w).alloc (Nat.le_refl _) (.cells #[.int .i64 s,.string r,.int .i64 m,.slice A fs.length c] 38))
   go_enter Tryz.func118,Tryz.ntmps118
   go_wp2
   refine bodyPost_ret (v:=.tuple #[.slice none 0 0,.int .i64 50]) (by simp [results,Tryz.results118,go_sem]) rfl ?_
   exact RetBE.none_ HB0.out HRB.out.1 HRB.out.2
  ·by_cases hm1:1 < m
   ·have g1:decide (m < 0)=false:=by rw[decide_eq_false_iff_not];omega
    have g2:decide (m > 1)=true:=by rw[decide_eq_true_eq];omega
    have g1:0≤0:=Nat.le_refl 0
    have g7:¬ m < 0:=by omega
    clear hbad HTX
    have HB0:=Lib.hid ((Below.refl w.heap.size w).alloc (Nat.le_refl _) (.cells #[.int .i64 s,.string r,.int .i64 m,.slice A fs.length c] 38))
    go_enter Tryz.func118,Tryz.ntmps118
    go_wp2
    refine bodyPost_ret (v:=.tuple #[.slice none 0 0,.int .i64 50]) (by simp [results,Tryz.results118,go_sem]) rfl ?_
    exact RetBE.none_ HB0.out HRB.out.1 HRB.out.2
   ·have htx:F.text r=false:=by
     rcases hbad with h | h | h
     ·exact absurd h hm0
     ·exact absurd h hm1
     ·exact h
    rw[htx]at HTX
    clear hbad htx
    go_enter Tryz.func118,Tryz.ntmps118
    go_wp2_with fail
    have HK0:=Lib.hid (Blk.new w #[.int .i64 s,.string r,.int .i64 m,.slice A fs.length c] 38)
    have HB0:=Lib.hid ((Below.refl w.heap.size w).alloc (Nat.le_refl _) (.cells #[.int .i64 s,.string r,.int .i64 m,.slice A fs.length c] 38))
    generalize w.alloc (.cells #[.int .i64 s,.string r,.int .i64 m,.slice A fs.length c] 38)=w0 at *
    refine (HTX.out _).mono ?_
    rintro e w1 ⟨rfl,hb1⟩
    replace HK0:=Lib.hid (HK0.out.below hb1)
    replace HB0:=Lib.hid (below_then HB0.out.size HB0.out hb1)
    obtain⟨x0,x1,x2,x3⟩:=HK0.out.cells4
    clear hb1 HTX
    go_wp2
    refine bodyPost_ret (v:=.tuple #[.slice none 0 0,.int .i64 50]) (by simp [results,Tryz.results118,go_sem]) rfl ?_
    exact RetBE.none_ HB0.out HRB.out.1 HRB.out.2
 ·have htx:F.text r=true:=by
   rcases tf (F.text r) with h | h
   ·exact h
   ·exact absurd (.inr (.inr h)) hbad
  rw[htx]at HTX
  have hm0:¬ m < 0:=fun h=>hbad (.inl h)
  have hm1:¬ 1 < m:=fun h=>hbad (.inr (.inl h))
  by_cases hst:s < 100∨599 < s
  ·have HRB:=Lib.hid (resp_status (s:=s) (m:=m) (r:=r) (fs:=fs) hbad hst)
   generalize F.respB s r m fs=PB at *
   generalize F.respE s r m fs=PE at *
   clear hx hbad htx
   by_cases hs1:s < 100
   ·have g8:decide (s < 100)=true:=by simpa using hs1
    clear hst
    go_enter Tryz.func118,Tryz.ntmps118
    go_wp2_with fail
    have HK0:=Lib.hid (Blk.new w #[.int .i64 s,.string r,.int .i64 m,.slice A fs.length c] 38)
    have HB0:=Lib.hid ((Below.refl w.heap.size w).alloc (Nat.le_refl _) (.cells #[.int .i64 s,.string r,.int .i64 m,.slice A fs.length c] 38))
    generalize w.alloc (.cells #[.int .i64 s,.string r,.int .i64 m,.slice A fs.length c] 38)=w0 at *
    refine (HTX.out _).mono ?_
    rintro e w1 ⟨rfl,hb1⟩
    replace HK0:=Lib.hid (HK0.out.below hb1)
    replace HB0:=Lib.hid (below_then HB0.out.size HB0.out hb1)
    obtain⟨x0,x1,x2,x3⟩:=HK0.out.cells4
    clear hb1 HTX
    go_wp2
    refine bodyPost_ret (v:=.tuple #[.slice none 0 0,.int .i64 53]) (by simp [results,Tryz.results118,go_sem]) rfl ?_
    exact RetBE.none_ HB0.out HRB.out.1 HRB.out.2
   ·have hs2:599 < s:=by omega
    have g8:decide (s < 100)=false:=by rw[decide_eq_false_iff_not];omega
    have g9:decide (s > 599)=true:=by rw[decide_eq_true_eq];omega
    clear hst
    go_enter Tryz.func118,Tryz.ntmps118
    go_wp2_with fail
    have HK0:=Lib.hid (Blk.new w #[.int .i64 s,.string r,.int .i64 m,.slice A fs.length c] 38)
    have HB0:=Lib.hid ((Below.refl w.heap.size w).alloc (Nat.le_refl _) (.cells #[.int .i64 s,.string r,.int .i64 m,.slice A fs.length c] 38))
    generalize w.alloc (.cells #[.int .i64 s,.string r,.int .i64 m,.slice A fs.length c] 38)=w0 at *
    refine (HTX.out _).mono ?_
    rintro e w1 ⟨rfl,hb1⟩
    replace HK0:=Lib.hid (HK0.out.below hb1)
    replace HB0:=Lib.hid (below_then HB0.out.size HB0.out hb1)
    obtain⟨x0,x1,x2,x3⟩:=HK0.out.cells4
    clear hb1 HTX
    go_wp2
    refine bodyPost_ret (v:=.tuple #[.slice none 0 0,.int .i64 53]) (by simp [results,Tryz.results118,go_sem]) rfl ?_
    exact RetBE.none_ HB0.out HRB.out.1 HRB.out.2
  ·have HRB:=Lib.hid (resp_ok (s:=s) (m:=m) (r:=r) (fs:=fs) hbad hst)
   have hs1:¬ s < 100:=fun h=>hst (.inl h)
   have hs2:¬ 599 < s:=fun h=>hst (.inr h)
   have zI:(B (Lib.itoa m)).size≤21:=by rw[B_size];exact Lib.itoa_length_le m (by omega) (by omega)
   have zJ:(B (Lib.itoa s)).size≤21:=by rw[B_size];exact Lib.itoa_length_le s (by omega) (by omega)
   have HI:=Lib.hid (fun (u:World) (hb:Below w.heap.size w u)=>itoa_any m (by omega) (by omega) u (ht.below hb))
   have HJ:=Lib.hid (fun (u:World) (hb:Below w.heap.size w u)=>itoa_any s (by omega) (by omega) u (ht.below hb))
   have hline:L (⟨#[72,84,84,80,47,49,46]⟩++B (Lib.itoa m)++⟨#[32]⟩++B (Lib.itoa s)++⟨#[32]⟩++r:ByteArray)=F.respLine s r m:=by
    simp only[L_append]
    rfl
   have hlsz:(⟨#[72,84,84,80,47,49,46]⟩++B (Lib.itoa m)++⟨#[32]⟩++B (Lib.itoa s)++⟨#[32]⟩++r:ByteArray).size=7+(B (Lib.itoa m)).size+1+(B (Lib.itoa s)).size+1+r.size:=by
    simp only[ByteArray.size_append]
    rfl
   have HWH:=Lib.hid (fun (u:World) (hb:Below w.heap.size w u)=>whole_any (⟨#[72,84,84,80,47,49,46]⟩++B (Lib.itoa m)++⟨#[32]⟩++B (Lib.itoa s)++⟨#[32]⟩++r:ByteArray) A c fs u (by omega) hf (hx.below hb))
   rw[hline]at HWH
   generalize F.respB s r m fs=PB at *
   generalize F.respE s r m fs=PE at *
   generalize F.wholeB (F.respLine s r m) fs=WB at *
   generalize F.wholeE (F.respLine s r m) fs=WE at *
   clear hline hlsz
   generalize B (Lib.itoa m)=I at *
   generalize B (Lib.itoa s)=J at *
   have hq1:7+I.size≤9223372036854775807:=by omega
   have hq2:7+I.size+1≤9223372036854775807:=by omega
   have hq3:7+I.size+1+J.size≤9223372036854775807:=by omega
   have hq4:7+I.size+1+J.size+1≤9223372036854775807:=by omega
   have hq5:7+I.size+1+J.size+1+r.size≤9223372036854775807:=by omega
   clear hx hbad htx hst
   go_enter Tryz.func118,Tryz.ntmps118
   go_wp2_with fail
   have HK0:=Lib.hid (Blk.new w #[.int .i64 s,.string r,.int .i64 m,.slice A fs.length c] 38)
   have HB0:=Lib.hid ((Below.refl w.heap.size w).alloc (Nat.le_refl _) (.cells #[.int .i64 s,.string r,.int .i64 m,.slice A fs.length c] 38))
   generalize w.alloc (.cells #[.int .i64 s,.string r,.int .i64 m,.slice A fs.length c] 38)=w0 at *
   refine (HTX.out _).mono ?_
   rintro e w1 ⟨rfl,hb1⟩
   replace HK0:=Lib.hid (HK0.out.below hb1)
   replace HB0:=Lib.hid (below_then HB0.out.size HB0.out hb1)
   obtain⟨x0,x1,x2,x3⟩:=HK0.out.cells4
   clear hb1 HTX
   go_wp2
   have hS0:=And.intro HK0.out.drew HB0.out.drew
   clear HK0 HB0
   refine wp_region_noPanic ?_
   refine HT.begin (n:=18) (S:=(fun u=>Blk u w.heap.size #[.int .i64 s,.string r,.int .i64 m,.slice A fs.length c] 38∧Below w.heap.size w u)) (by kernel_rfl) hS0 ?_
   refine HT.take 0 (.pointer (some ⟨w.heap.size,2,none⟩)) rfl (by kernel_rfl) (fun _ _ _ h=>h) (Or.inl ⟨by rfl,?_⟩) (?_:HT _ _ _ _ _ _ _ ⟨#[_,_,_,_,_,_,_,_,_,_,_,_,_,_,_,_,_,_,_,_,_,_,_,_,_,_,_,_,.pointer (some ⟨w.heap.size,2,none⟩),_,_,_,_,_,_,_,_,_,_,_,_,_,_,_,_,_],[]⟩ _)
   ·intro u hu
    go_simp
   refine HT.take 1 (.int .i64 m) rfl (by kernel_rfl) (fun _ _ _ h=>h) (Or.inl ⟨by rfl,?_⟩) (?_:HT _ _ _ _ _ _ _ ⟨#[_,_,_,_,_,_,_,_,_,_,_,_,_,_,_,_,_,_,_,_,_,_,_,_,_,_,_,_,.pointer (some ⟨w.heap.size,2,none⟩),.int .i64 m,_,_,_,_,_,_,_,_,_,_,_,_,_,_,_,_],[]⟩ _)
   ·intro u hu
    obtain⟨x0,x1,x2,x3⟩:=hu.1.cells4
    go_simp
   refine HT.take 5 (.pointer (some ⟨w.heap.size,0,none⟩)) rfl (by kernel_rfl) (fun _ _ _ h=>h) (Or.inl ⟨by rfl,?_⟩) (?_:HT _ _ _ _ _ _ _ ⟨#[_,_,_,_,_,_,_,_,_,_,_,_,_,_,_,_,_,_,_,_,_,_,_,_,_,_,_,_,.pointer (some ⟨w.heap.size,2,none⟩),.int .i64 m,_,_,_,.pointer (some ⟨w.heap.size,0,none⟩),_,_,_,_,_,_,_,_,_,_,_,_],[]⟩ _)
   ·intro u hu
    go_simp
   refine HT.take 6 (.int .i64 s) rfl (by kernel_rfl) (fun _ _ _ h=>h) (Or.inl ⟨by rfl,?_⟩) (?_:HT _ _ _ _ _ _ _ ⟨#[_,_,_,_,_,_,_,_,_,_,_,_,_,_,_,_,_,_,_,_,_,_,_,_,_,_,_,_,.pointer (some ⟨w.heap.size,2,none⟩),.int .i64 m,_,_,_,.pointer (some ⟨w.heap.size,0,none⟩),.int .i64 s,_,_,_,_,_,_,_,_,_,_,_],[]⟩ _)
   ·intro u hu
    obtain⟨x0,x1,x2,x3⟩:=hu.1.cells4
    go_simp
   refine HT.take 10 (.pointer (some ⟨w.heap.size,1,none⟩)) rfl (by kernel_rfl) (fun _ _ _ h=>h) (Or.inl ⟨by rfl,?_⟩) (?_:HT _ _ _ _ _ _ _ ⟨#[_,_,_,_,_,_,_,_,_,_,_,_,_,_,_,_,_,_,_,_,_,_,_,_,_,_,_,_,.pointer (some ⟨w.heap.size,2,none⟩),.int .i64 m,_,_,_,.pointer (some ⟨w.heap.size,0,none⟩),.int .i64 s,_,_,_,.pointer (some ⟨w.heap.size,1,none⟩),_,_,_,_,_,_,_],[]⟩ _)
   ·intro u hu
    go_simp
   refine HT.take 11 (.string r) rfl (by kernel_rfl) (fun _ _ _ h=>h) (Or.inl ⟨by rfl,?_⟩) (?_:HT _ _ _ _ _ _ _ ⟨#[_,_,_,_,_,_,_,_,_,_,_,_,_,_,_,_,_,_,_,_,_,_,_,_,_,_,_,_,.pointer (some ⟨w.heap.size,2,none⟩),.int .i64 m,_,_,_,.pointer (some ⟨w.heap.size,0,none⟩),.int .i64 s,_,_,_,.pointer (some ⟨w.heap.size,1,none⟩),.string r,_,_,_,_,_,_],[]⟩ _)
   ·intro u hu
    obtain⟨x0,x1,x2,x3⟩:=hu.1.cells4
    go_simp
   refine HT.take 13 (.pointer (some ⟨w.heap.size,3,none⟩)) rfl (by kernel_rfl) (fun _ _ _ h=>h) (Or.inl ⟨by rfl,?_⟩) (?_:HT _ _ _ _ _ _ _ ⟨#[_,_,_,_,_,_,_,_,_,_,_,_,_,_,_,_,_,_,_,_,_,_,_,_,_,_,_,_,.pointer (some ⟨w.heap.size,2,none⟩),.int .i64 m,_,_,_,.pointer (some ⟨w.heap.size,0,none⟩),.int .i64 s,_,_,_,.pointer (some ⟨w.heap.size,1,none⟩),.string r,_,.pointer (some ⟨w.heap.size,3,none⟩),_,_,_,_],[]⟩ _)
   ·intro u hu
    go_simp
   refine HT.take 14 (.slice A fs.length c) rfl (by kernel_rfl) (fun _ _ _ h=>h) (Or.inl ⟨by rfl,?_⟩) (?_:HT _ _ _ _ _ _ _ ⟨#[_,_,_,_,_,_,_,_,_,_,_,_,_,_,_,_,_,_,_,_,_,_,_,_,_,_,_,_,.pointer (some ⟨w.heap.size,2,none⟩),.int .i64 m,_,_,_,.pointer (some ⟨w.heap.size,0,none⟩),.int .i64 s,_,_,_,.pointer (some ⟨w.heap.size,1,none⟩),.string r,_,.pointer (some ⟨w.heap.size,3,none⟩),.slice A fs.length c,_,_,_],[]⟩ _)
   ·intro u hu
    obtain⟨x0,x1,x2,x3⟩:=hu.1.cells4
    go_simp
   refine HT.step 2 rfl (by kernel_rfl) (fun hS K hK=>?_)
   go_simp
   refine (HI.out _ hS.2).mono ?_
   rintro e w2 ⟨rfl,hb2⟩
   refine hK.out _ _ ⟨hS.1.below hb2,below_then hS.2.size hS.2 hb2⟩ ?_
   clear hK hS hb2 hS0
   refine HT.take 3 (.string (⟨#[72,84,84,80,47,49,46]⟩++I)) rfl (by kernel_rfl) (fun _ _ _ h=>h) (Or.inl ⟨by rfl,?_⟩) (?_:HT _ _ _ _ _ _ _ ⟨#[_,_,_,_,_,_,_,_,_,_,_,_,_,_,_,_,_,_,_,_,_,_,_,_,_,_,_,_,.pointer (some ⟨w.heap.size,2,none⟩),.int .i64 m,.string I,.string (⟨#[72,84,84,80,47,49,46]⟩++I),_,.pointer (some ⟨w.heap.size,0,none⟩),.int .i64 s,_,_,_,.pointer (some ⟨w.heap.size,1,none⟩),.string r,_,.pointer (some ⟨w.heap.size,3,none⟩),.slice A fs.length c,_,_,_],[]⟩ _)
   ·intro u hu
    go_simp
   refine HT.take 4 (.string (⟨#[72,84,84,80,47,49,46]⟩++I++⟨#[32]⟩)) rfl (by kernel_rfl) (fun _ _ _ h=>h) (Or.inl ⟨by rfl,?_⟩) (?_:HT _ _ _ _ _ _ _ ⟨#[_,_,_,_,_,_,_,_,_,_,_,_,_,_,_,_,_,_,_,_,_,_,_,_,_,_,_,_,.pointer (some ⟨w.heap.size,2,none⟩),.int .i64 m,.string I,.string (⟨#[72,84,84,80,47,49,46]⟩++I),.string (⟨#[72,84,84,80,47,49,46]⟩++I++⟨#[32]⟩),.pointer (some ⟨w.heap.size,0,none⟩),.int .i64 s,_,_,_,.pointer (some ⟨w.heap.size,1,none⟩),.string r,_,.pointer (some ⟨w.heap.size,3,none⟩),.slice A fs.length c,_,_,_],[]⟩ _)
   ·intro u hu
    go_simp
   refine HT.step 7 rfl (by kernel_rfl) (fun hS K hK=>?_)
   go_simp
   refine (HJ.out _ hS.2).mono ?_
   rintro e w3 ⟨rfl,hb3⟩
   refine hK.out _ _ ⟨hS.1.below hb3,below_then hS.2.size hS.2 hb3⟩ ?_
   clear hK hS hb3
   refine HT.take 8 (.string (⟨#[72,84,84,80,47,49,46]⟩++I++⟨#[32]⟩++J)) rfl (by kernel_rfl) (fun _ _ _ h=>h) (Or.inl ⟨by rfl,?_⟩) (?_:HT _ _ _ _ _ _ _ ⟨#[_,_,_,_,_,_,_,_,_,_,_,_,_,_,_,_,_,_,_,_,_,_,_,_,_,_,_,_,.pointer (some ⟨w.heap.size,2,none⟩),.int .i64 m,.string I,.string (⟨#[72,84,84,80,47,49,46]⟩++I),.string (⟨#[72,84,84,80,47,49,46]⟩++I++⟨#[32]⟩),.pointer (some ⟨w.heap.size,0,none⟩),.int .i64 s,.string J,.string (⟨#[72,84,84,80,47,49,46]⟩++I++⟨#[32]⟩++J),_,.pointer (some ⟨w.heap.size,1,none⟩),.string r,_,.pointer (some ⟨w.heap.size,3,none⟩),.slice A fs.length c,_,_,_],[]⟩ _)
   ·intro u hu
    go_simp
   refine HT.take 9 (.string (⟨#[72,84,84,80,47,49,46]⟩++I++⟨#[32]⟩++J++⟨#[32]⟩)) rfl (by kernel_rfl) (fun _ _ _ h=>h) (Or.inl ⟨by rfl,?_⟩) (?_:HT _ _ _ _ _ _ _ ⟨#[_,_,_,_,_,_,_,_,_,_,_,_,_,_,_,_,_,_,_,_,_,_,_,_,_,_,_,_,.pointer (some ⟨w.heap.size,2,none⟩),.int .i64 m,.string I,.string (⟨#[72,84,84,80,47,49,46]⟩++I),.string (⟨#[72,84,84,80,47,49,46]⟩++I++⟨#[32]⟩),.pointer (some ⟨w.heap.size,0,none⟩),.int .i64 s,.string J,.string (⟨#[72,84,84,80,47,49,46]⟩++I++⟨#[32]⟩++J),.string (⟨#[72,84,84,80,47,49,46]⟩++I++⟨#[32]⟩++J++⟨#[32]⟩),.pointer (some ⟨w.heap.size,1,none⟩),.string r,_,.pointer (some ⟨w.heap.size,3,none⟩),.slice A fs.length c,_,_,_],[]⟩ _)
   ·intro u hu
    go_simp
   refine HT.take 12 (.string (⟨#[72,84,84,80,47,49,46]⟩++I++⟨#[32]⟩++J++⟨#[32]⟩++r)) rfl (by kernel_rfl) (fun _ _ _ h=>h) (Or.inl ⟨by rfl,?_⟩) (?_:HT _ _ _ _ _ _ _ ⟨#[_,_,_,_,_,_,_,_,_,_,_,_,_,_,_,_,_,_,_,_,_,_,_,_,_,_,_,_,.pointer (some ⟨w.heap.size,2,none⟩),.int .i64 m,.string I,.string (⟨#[72,84,84,80,47,49,46]⟩++I),.string (⟨#[72,84,84,80,47,49,46]⟩++I++⟨#[32]⟩),.pointer (some ⟨w.heap.size,0,none⟩),.int .i64 s,.string J,.string (⟨#[72,84,84,80,47,49,46]⟩++I++⟨#[32]⟩++J),.string (⟨#[72,84,84,80,47,49,46]⟩++I++⟨#[32]⟩++J++⟨#[32]⟩),.pointer (some ⟨w.heap.size,1,none⟩),.string r,.string (⟨#[72,84,84,80,47,49,46]⟩++I++⟨#[32]⟩++J++⟨#[32]⟩++r),.pointer (some ⟨w.heap.size,3,none⟩),.slice A fs.length c,_,_,_],[]⟩ _)
   ·intro u hu
    go_simp
   refine HT.step 15 rfl (by kernel_rfl) (fun hS K hK=>?_)
   go_simp
   refine (HWH.out _ hS.2).mono ?_
   rintro e w4 ⟨R0,d,rfl,hr4,hb4⟩
   refine hK.out _ _ ⟨hS.1.below hb4,below_then hS.2.size hS.2 hb4⟩ ?_
   have HR4:=Lib.hid (hr4.mono hS.2.size)
   clear hK hS hb4 hr4
   refine HT.take 16 (.slice R0 WB.length d) rfl (by kernel_rfl) (fun _ _ _ h=>h) (Or.inl ⟨by rfl,?_⟩) (?_:HT _ _ _ _ _ _ _ ⟨#[_,_,_,_,_,_,_,_,_,_,_,_,_,_,_,_,_,_,_,_,_,_,_,_,_,_,_,_,.pointer (some ⟨w.heap.size,2,none⟩),.int .i64 m,.string I,.string (⟨#[72,84,84,80,47,49,46]⟩++I),.string (⟨#[72,84,84,80,47,49,46]⟩++I++⟨#[32]⟩),.pointer (some ⟨w.heap.size,0,none⟩),.int .i64 s,.string J,.string (⟨#[72,84,84,80,47,49,46]⟩++I++⟨#[32]⟩++J),.string (⟨#[72,84,84,80,47,49,46]⟩++I++⟨#[32]⟩++J++⟨#[32]⟩),.pointer (some ⟨w.heap.size,1,none⟩),.string r,.string (⟨#[72,84,84,80,47,49,46]⟩++I++⟨#[32]⟩++J++⟨#[32]⟩++r),.pointer (some ⟨w.heap.size,3,none⟩),.slice A fs.length c,.tuple #[.slice R0 WB.length d,.int .i64 WE],.slice R0 WB.length d,_],[]⟩ _)
   ·intro u hu
    go_simp
   refine HT.take 17 (.int .i64 WE) rfl (by kernel_rfl) (fun _ _ _ h=>h) (Or.inl ⟨by rfl,?_⟩) (?_:HT _ _ _ _ _ _ _ ⟨#[_,_,_,_,_,_,_,_,_,_,_,_,_,_,_,_,_,_,_,_,_,_,_,_,_,_,_,_,.pointer (some ⟨w.heap.size,2,none⟩),.int .i64 m,.string I,.string (⟨#[72,84,84,80,47,49,46]⟩++I),.string (⟨#[72,84,84,80,47,49,46]⟩++I++⟨#[32]⟩),.pointer (some ⟨w.heap.size,0,none⟩),.int .i64 s,.string J,.string (⟨#[72,84,84,80,47,49,46]⟩++I++⟨#[32]⟩++J),.string (⟨#[72,84,84,80,47,49,46]⟩++I++⟨#[32]⟩++J++⟨#[32]⟩),.pointer (some ⟨w.heap.size,1,none⟩),.string r,.string (⟨#[72,84,84,80,47,49,46]⟩++I++⟨#[32]⟩++J++⟨#[32]⟩++r),.pointer (some ⟨w.heap.size,3,none⟩),.slice A fs.length c,.tuple #[.slice R0 WB.length d,.int .i64 WE],.slice R0 WB.length d,.int .i64 WE],[]⟩ _)
   ·intro u hu
    go_simp
   refine HT.tail _ rfl rfl (by kernel_rfl) (fun hS=>?_)
   have HB:=Lib.hid hS.2
   clear hS
   go_wp2
   refine NoPanic.normal ?_
   go_wp2
   refine bodyPost_ret (v:=.tuple #[.slice R0 WB.length d,.int .i64 WE]) (by simp [results,Tryz.results118,go_sem]) rfl ?_
   rw[HRB.out.1,HRB.out.2]
   exact⟨R0,d,rfl,HR4.out,HB.out⟩
def datO (k v:ByteArray) (h body:List UInt8) (asked got:Int):Nat→List UInt8
 | 0=>L k
 | 1=>L v
 | 2=>h
 | 3=>body
 | 4=>beN asked.toNat 8++beN got.toNat 8
 | _=>[]
def preO (dat:Nat→List UInt8):Nat→List UInt8
 | 0=>[67,79,49]
 | i+1=>preO dat i++secB (i+1) (dat i)
theorem preO_len (dat:Nat→List UInt8) (h:∀ i,(dat i).length≤65536):∀ i,(preO dat i).length≤3+i * 65541
 | 0=>Nat.le_refl 3
 | i+1=>by
  have h1:=preO_len dat h i
  have h2:=h i
  rw[preO,List.length_append,secB_len]
  omega
def objW (dat:Nat→List UInt8):List UInt8:=preO dat 5++beN (sumN (preO dat 5)) 4
def objOk (k v:ByteArray) (s:Int) (r:ByteArray) (m:Int) (fs:List FD) (nb:Nat) (asked got:Int):Bool:=decide (F.respE s r m fs=0∧okE k v nb asked got=true)
def objB (k v:ByteArray) (s:Int) (r:ByteArray) (m:Int) (fs:List FD) (body:List UInt8) (asked got:Int):List UInt8 :=
 if objOk k v s r m fs body.length asked got then objW (datO k v (F.respB s r m fs) body asked got) else []
def objE (k v:ByteArray) (s:Int) (r:ByteArray) (m:Int) (fs:List FD) (nb:Nat) (asked got:Int):Int:=if objOk k v s r m fs nb asked got then 0 else 120
theorem obj_bad {k v:ByteArray} {s:Int} {r:ByteArray} {m:Int} {fs:List FD} {body:List UInt8} {asked got:Int} (h:¬ (F.respE s r m fs=0∧okE k v body.length asked got=true)):objB k v s r m fs body asked got=[]∧objE k v s r m fs body.length asked got=120:=by
 have h1:objOk k v s r m fs body.length asked got=false:=decide_eq_false h
 unfold objB objE
 rw[h1]
 exact⟨rfl,rfl⟩
theorem obj_good {k v:ByteArray} {s:Int} {r:ByteArray} {m:Int} {fs:List FD} {body:List UInt8} {asked got:Int} (h1:F.respE s r m fs=0) (h2:okE k v body.length asked got=true):objB k v s r m fs body asked got=objW (datO k v (F.respB s r m fs) body asked got)∧objE k v s r m fs body.length asked got=0:=by
 have h3:objOk k v s r m fs body.length asked got=true:=decide_eq_true ⟨h1,h2⟩
 unfold objB objE
 rw[h3]
 exact⟨rfl,rfl⟩
theorem okE_facts {k v:ByteArray} {nb:Nat} {asked got:Int} (h:okE k v nb asked got=true):k.size≤4096∧v.size≤4096∧nb≤65536∧0≤asked∧asked≤253402300799∧0≤got∧got≤253402300799:=by
 obtain⟨_,h1,h2,h3,h4,h5⟩:=of_decide_eq_true h
 have h4:=of_decide_eq_true h4
 have h5:=of_decide_eq_true h5
 exact⟨h1,h2,h3,h4.1,h4.2,h5.1,h5.2⟩
theorem CRow.newM (w:World) (cs:Array Value) (bs:List UInt8) (h:cs.toList=bcells bs):CRow (w.alloc (.cells cs 5 (bs.length,bs.length+1))) w.heap.size (some ⟨w.heap.size,0,none⟩) bs.length bs.length bs:=by
 have hrow:(w.alloc (.cells cs 5 (bs.length,bs.length+1))).heap[w.heap.size]?=some (.cells cs 5 (bs.length,bs.length+1)):=heap_alloc_new w _
 have hsz:cs.size=bs.length:=by
  have:=congrArg List.length h
  simpa [bcells] using this
 refine⟨rfl,Nat.le_refl _,.inr ⟨w.heap.size,rfl,Nat.le_refl _,by simp,fun j hj=>⟨?_,?_⟩,fun j u hu=>?_⟩⟩
 ·rw[cell_of_row _ w.heap.size j _ _ _ hrow]
  have:j < cs.size:=by omega
  simp [this]
 ·simp only[World.frozen?,hrow]
  simp
  omega
 ·rw[cell_of_row _ w.heap.size j _ _ _ hrow,← hu,← h]
  simp
theorem objEncode_any (k v:ByteArray) (s:Int) (r:ByteArray) (m:Int) (A:Option Addr) (cf:Nat) (fs:List FD) (X:Option Addr) (cb:Nat) (body:List UInt8) (asked got:Int) (w:World) (hr:r.size≤1073741824) (hf:F.bulk fs≤1073741824) (hx:Rd w A fs.length 2 (fcells fs)) (hX:Rd w X body.length 1 (bcells body)) (ht:TabOk w) :
  Calls Tryz.prog 71 #[.agg #[.string k,.string v,.int .i64 s,.string r,.int .i64 m,.slice A fs.length cf,.slice X body.length cb,.int .i64 asked,.int .i64 got]] w (RetBE w (objB k v s r m fs body asked got) (objE k v s r m fs body.length asked got)):=by
 have HK:=Lib.hid (Blk.new w #[.string k,.string v,.int .i64 s,.string r,.int .i64 m,.slice A fs.length cf,.slice X body.length cb,.int .i64 asked,.int .i64 got] 41)
 have HB:=Lib.hid ((Below.refl w.heap.size w).alloc (Nat.le_refl _) (.cells #[.string k,.string v,.int .i64 s,.string r,.int .i64 m,.slice A fs.length cf,.slice X body.length cb,.int .i64 asked,.int .i64 got] 41))
 have HPR:=Lib.hid (fun (u:World) (hu:Below w.heap.size w u)=>printResponse_any s r m A cf fs u hr hf (hx.below hu) (ht.below hu))
 have HX:=Lib.hid (fun (u:World) (hu:Below w.heap.size w u)=>hX.below hu)
 have HRT:=Lib.hid (fun (u:World)=>right_any k v s r m A fs.length cf X body.length cb asked got u)
 have HBAD:=Lib.hid (obj_bad (k:=k) (v:=v) (s:=s) (r:=r) (m:=m) (fs:=fs) (body:=body) (asked:=asked) (got:=got))
 have HGOOD:=Lib.hid (obj_good (k:=k) (v:=v) (s:=s) (r:=r) (m:=m) (fs:=fs) (body:=body) (asked:=asked) (got:=got))
 have hE:=respB_len s r m fs
 generalize objB k v s r m fs body asked got=OB at *
 generalize objE k v s r m fs body.length asked got=OE at *
 generalize F.respE s r m fs=E at *
 generalize F.respB s r m fs=H at *
 have HOKF:Hid (okE k v body.length asked got=true→k.size≤4096∧v.size≤4096∧body.length≤65536∧0≤asked∧asked≤253402300799∧0≤got∧got≤253402300799):=Lib.hid okE_facts
 generalize okE k v body.length asked got=ok at *
 clear hx hX ht
 go_enter Tryz.func71,Tryz.ntmps71
 obtain⟨x0,x1,x2,x3,x4,x5,x6,x7,x8⟩:=HK.out.cells9
 go_wp2_with fail
 clear x0 x1 x2 x3 x4 x5 x6 x7 x8
 refine (HPR.out _ HB.out).mono ?_
 rintro e w1 ⟨A1,c1,rfl,hr1,hb1⟩
 have HB1:=Lib.hid (below_then HB.out.size HB.out hb1)
 have HK1:=Lib.hid (HK.out.below hb1)
 have HR1:=Lib.hid (hr1.mono HB.out.size)
 clear hb1 hr1 HB HK HPR
 obtain⟨x0,x1,x2,x3,x4,x5,x6,x7,x8⟩:=HK1.out.cells9
 by_cases hE0:E=0
 rotate_left
 ·have hEb:(E != 0)=true:=by simpa using hE0
  obtain⟨ha,hb⟩:=HBAD.out (fun h=>hE0 h.1)
  clear HBAD HGOOD HOKF HRT HX
  go_wp2
  refine bodyPost_ret (v:=.tuple #[.slice none 0 0,.int .i64 120]) (by simp [results,Tryz.results71,go_sem]) rfl ?_
  exact RetBE.none_ HB1.out ha hb
 subst hE0
 go_wp2_with fail
 clear x0 x1 x2 x3 x4 x5 x6 x7 x8
 refine (HRT.out _).mono ?_
 rintro e w2 ⟨rfl,hb2⟩
 have HB2:=Lib.hid (below_then HB1.out.size HB1.out hb2)
 have HK2:=Lib.hid (HK1.out.below hb2)
 have HR2:=Lib.hid (HR1.out.below hb2)
 clear hb2 HB1 HK1 HR1 HRT
 obtain⟨x0,x1,x2,x3,x4,x5,x6,x7,x8⟩:=HK2.out.cells9
 cases ok with
 | false =>
  obtain⟨ha,hb⟩:=HBAD.out (fun h=>by cases h.2)
  clear HBAD HGOOD HOKF HX
  go_wp2
  refine bodyPost_ret (v:=.tuple #[.slice none 0 0,.int .i64 120]) (by simp [results,Tryz.results71,go_sem]) rfl ?_
  exact RetBE.none_ HB2.out ha hb
 | true =>
  obtain⟨hk,hv,hbd,ha0,ha1,hg0,hg1⟩:=HOKF.out rfl
  obtain⟨rfl,rfl⟩:=HGOOD.out trivial rfl
  clear HBAD HGOOD HOKF
  obtain⟨a,rfl⟩:∃ a:Nat,asked=a:=⟨asked.toNat,by omega⟩
  obtain⟨g,rfl⟩:∃ g:Nat,got=g:=⟨got.toNat,by omega⟩
  have HP1:=Lib.hid (fun (u:World)=>put_be w2.heap.size none 0 a 8 [] u (Nat.zero_le _) (Nat.le_refl _) (by omega) (CRow.none_ _ _))
  have HP2:=Lib.hid (fun (u:World) (A3:Option Addr) (c3:Nat) (hr:CRow u w2.heap.size A3 8 c3 (beN a 8)) (hz:w2.heap.size≤u.heap.size)=>by
   have:=put_be w2.heap.size A3 c3 g 8 (beN a 8) u (by rw[beN_len];decide) (Nat.le_refl _) (by omega) (by rw[beN_len];exact hr) hz
   rw[beN_len]at this
   exact this)
  go_wp2_with fail
  clear x0 x1 x2 x3 x4 x5 x6 x7 x8
  refine (HP1.out _ (Nat.le_refl _)).mono ?_
  rintro e w3 ⟨A3,c3,rfl,hr3,ha3⟩
  have hb3:Below w2.heap.size w2 w3:=ha3.belowC (CRow.none_ w2 w2.heap.size) (Nat.le_refl _)
  have HB3:=Lib.hid hb3
  have HK3:=Lib.hid (HK2.out.below hb3)
  have HR3:Hid (CRow w3 w2.heap.size A3 8 c3 (beN a 8)):=Lib.hid hr3
  have hz3:=hb3.size
  clear hr3 ha3 hb3 HP1
  obtain⟨x0,x1,x2,x3,x4,x5,x6,x7,x8⟩:=HK3.out.cells9
  go_wp2_with fail
  clear x0 x1 x2 x3 x4 x5 x6 x7 x8
  refine (HP2.out _ A3 c3 HR3.out hz3).mono ?_
  rintro e w4 ⟨A4,c4,rfl,hr4,ha4⟩
  have hb4:Below w2.heap.size w2 w4:=HB3.out.trans (ha4.belowC HR3.out hz3)
  have HB4:=Lib.hid (below_then HB2.out.size HB2.out hb4)
  have HK4:=Lib.hid (HK2.out.below hb4)
  have HR4:=Lib.hid (HR2.out.below hb4)
  have HT4:Hid (Rd w4 A4 16 1 (bcells (beN a 8++beN g 8))):=Lib.hid hr4.rd
  clear hr4 ha4 hb4 HP2 HB3 HK3 HR3 hz3 HB2 HK2 HR2
  have hcc:=Lib.run_convert_bytes_const (P:=Tryz.prog) w4 39 5 #[.int .u8 67,.int .u8 79,.int .u8 49] 3 3 Tryz.underlying39 Tryz.underlying5
  have hb5:Below w4.heap.size w4 (w4.alloc (.cells #[.int .u8 67,.int .u8 79,.int .u8 49] 5 (3,4))):=(Below.refl _ _).alloc (Nat.le_refl _) _
  have HR5:Hid (CRow (w4.alloc (.cells #[.int .u8 67,.int .u8 79,.int .u8 49] 5 (3,4))) w4.heap.size (some ⟨w4.heap.size,0,none⟩) 3 3 [67,79,49]):=Lib.hid (CRow.newM w4 #[.int .u8 67,.int .u8 79,.int .u8 49] [67,79,49] rfl)
  obtain⟨ck,W1,hrun1,hrow1,hbW1⟩:=conv_sbC (w4.alloc (.cells #[.int .u8 67,.int .u8 79,.int .u8 49] 5 (3,4))) k
  obtain⟨cv,W2,hrun2,hrow2,hbW2⟩:=conv_sbC W1 v
  have HK5:=Lib.hid (HK4.out.below hb5)
  have HK6:=Lib.hid (HK5.out.below hbW1)
  have HK7:=Lib.hid (HK6.out.below hbW2)
  obtain⟨x0,x1,x2,x3,x4,x5,x6,x7,x8⟩:=HK5.out.cells9
  obtain⟨y0,y1,y2,y3,y4,y5,y6,y7,y8⟩:=HK6.out.cells9
  obtain⟨z0,z1,z2,z3,z4,z5,z6,z7,z8⟩:=HK7.out.cells9
  go_wp2_with fail
  clear x0 x1 x2 x3 x4 x5 x6 x7 x8 y0 y1 y2 y3 y4 y5 y6 y7 y8 z0 z1 z2 z3 z4 z5 z6 z7 z8 hcc hrun1 hrun2 HK5 HK6 HK7 HK4
  have hs5:((w4.alloc (.cells #[.int .u8 67,.int .u8 79,.int .u8 49] 5 (3,4)))).heap.size=w4.heap.size+1:=World.size_alloc _ _
  have hc1:Below w4.heap.size w4 W1:=below_then hb5.size hb5 hbW1
  have hc2:Below w4.heap.size w4 W2:=below_then hc1.size hc1 hbW2
  have hc6:Below w4.heap.size w4 (W2.alloc (.cells #[Value.slice (some ⟨w4.heap.size+1,0,none⟩) k.size ck,Value.slice (some ⟨W1.heap.size,0,none⟩) v.size cv,Value.slice A1 H.length c1,Value.slice X body.length cb,Value.slice A4 16 c4] 39)):=hc2.alloc hc2.size _
  have hr0:CRow (W2.alloc (.cells #[Value.slice (some ⟨w4.heap.size+1,0,none⟩) k.size ck,Value.slice (some ⟨W1.heap.size,0,none⟩) v.size cv,Value.slice A1 H.length c1,Value.slice X body.length cb,Value.slice A4 16 c4] 39)) w4.heap.size (some ⟨w4.heap.size,0,none⟩) 3 3 [67,79,49]:=((HR5.out.below hbW1).below hbW2).alloc _
  rw[hs5]at hrow1 hbW1
  have hk6:CRow (W2.alloc (.cells #[Value.slice (some ⟨w4.heap.size+1,0,none⟩) k.size ck,Value.slice (some ⟨W1.heap.size,0,none⟩) v.size cv,Value.slice A1 H.length c1,Value.slice X body.length cb,Value.slice A4 16 c4] 39)) (w4.heap.size+1) (some ⟨w4.heap.size+1,0,none⟩) k.size ck (L k):=(hrow1.below hbW2).alloc _
  have hv6:CRow (W2.alloc (.cells #[Value.slice (some ⟨w4.heap.size+1,0,none⟩) k.size ck,Value.slice (some ⟨W1.heap.size,0,none⟩) v.size cv,Value.slice A1 H.length c1,Value.slice X body.length cb,Value.slice A4 16 c4] 39)) W1.heap.size (some ⟨W1.heap.size,0,none⟩) v.size cv (L v):=hrow2.alloc _
  have hBk:Blk (W2.alloc (.cells #[Value.slice (some ⟨w4.heap.size+1,0,none⟩) k.size ck,Value.slice (some ⟨W1.heap.size,0,none⟩) v.size cv,Value.slice A1 H.length c1,Value.slice X body.length cb,Value.slice A4 16 c4] 39)) W2.heap.size #[Value.slice (some ⟨w4.heap.size+1,0,none⟩) k.size ck,Value.slice (some ⟨W1.heap.size,0,none⟩) v.size cv,Value.slice A1 H.length c1,Value.slice X body.length cb,Value.slice A4 16 c4] 39:=Blk.new _ _ _
  have hsW1:w4.heap.size+1≤W1.heap.size:=by have:=hbW1.size;rw[hs5]at this;exact this
  have hsW2:W1.heap.size≤W2.heap.size:=hbW2.size
  obtain⟨dat,hdat⟩:∃ dat,dat=datO k v H body a g:=⟨_,rfl⟩
  have HDAT:Hid (objW (datO k v H body a g)=objW dat):=Lib.hid (by rw[hdat])
  have hX4:=HX.out w4 HB4.out
  have HB6:=Lib.hid (below_then HB4.out.size HB4.out hc6)
  have HPT:Hid (∀ i,i < 5→∃ S m d,(#[Value.slice (some ⟨w4.heap.size+1,0,none⟩) k.size ck,Value.slice (some ⟨W1.heap.size,0,none⟩) v.size cv,Value.slice A1 H.length c1,Value.slice X body.length cb,Value.slice A4 16 c4])[i]?=some (.slice S m d)∧(dat i).length=m∧Rd (W2.alloc (.cells #[Value.slice (some ⟨w4.heap.size+1,0,none⟩) k.size ck,Value.slice (some ⟨W1.heap.size,0,none⟩) v.size cv,Value.slice A1 H.length c1,Value.slice X body.length cb,Value.slice A4 16 c4] 39)) S m 1 (bcells (dat i))∧Sep (some ⟨w4.heap.size,0,none⟩) 3 S m):=by
   refine Lib.hid fun i hi=>?_
   subst hdat
   have hsep:∀ (E:Option Addr) (q:Nat) (xs:List Value),Rd w4 E q 1 xs→Sep (some ⟨w4.heap.size,0,none⟩) 3 E q:=fun E q xs h hq kk e hk1 he=>by
    obtain⟨b',o',e',hlt⟩:=h.lt hq
    rw[he]at e'
    cases e'
    simp [ownB]at hk1
    show kk≠b'
    omega
   have hown:∀ (q bb:Nat),bb≠w4.heap.size→Sep (some ⟨w4.heap.size,0,none⟩) 3 (some ⟨bb,0,none⟩) q:=fun q bb hne _ kk e hk1 he=>by
    cases he
    simp [ownB]at hk1
    show kk≠bb
    omega
   rcases (by omega:i=0∨i=1∨i=2∨i=3∨i=4) with rfl | rfl | rfl | rfl | rfl
   ·exact⟨_,_,_,rfl,hk6.1,hk6.rd,hown _ _ (by omega)⟩
   ·exact⟨_,_,_,rfl,hv6.1,hv6.rd,hown _ _ (by omega)⟩
   ·exact⟨_,_,_,rfl,rfl,HR4.out.rd.below hc6,hsep _ _ _ HR4.out.rd⟩
   ·exact⟨_,_,_,rfl,rfl,hX4.below hc6,hsep _ _ _ hX4⟩
   ·refine⟨_,_,_,rfl,?_,HT4.out.below hc6,hsep _ _ _ HT4.out⟩
    show (beN (a:Int).toNat 8++beN (g:Int).toNat 8).length=16
    rw[List.length_append,beN_len,beN_len]
  have hdl:∀ i,(dat i).length≤65536:=by
   intro i
   subst hdat
   match i with
   | 0=>show (L k).length≤_;rw[← L_size];omega
   | 1=>show (L v).length≤_;rw[← L_size];omega
   | 2=>show H.length≤_;omega
   | 3=>show body.length≤_;omega
   | 4=>show (beN (a:Int).toNat 8++beN (g:Int).toNat 8).length≤_;rw[List.length_append,beN_len,beN_len];decide
   | n+5=>exact Nat.zero_le _
  have HPL:Hid (∀ j,j≤5→(preO dat j).length≤400000):=Lib.hid (fun j hj=>by have:=preO_len dat hdl j;omega)
  have HDL:=Lib.hid hdl
  have HR0:=Lib.hid hr0
  have HBK:=Lib.hid hBk
  obtain⟨b6,hb6⟩:∃ b6,b6=W2.heap.size:=⟨_,rfl⟩
  have hne6:b6≠w4.heap.size:=by omega
  have hz6:w4.heap.size≤((W2.alloc (.cells #[Value.slice (some ⟨w4.heap.size+1,0,none⟩) k.size ck,Value.slice (some ⟨W1.heap.size,0,none⟩) v.size cv,Value.slice A1 H.length c1,Value.slice X body.length cb,Value.slice A4 16 c4] 39))).heap.size:=hc6.size
  rw[← hb6]at HBK ⊢
  generalize hcsl:#[Value.slice (some ⟨w4.heap.size+1,0,none⟩) k.size ck,Value.slice (some ⟨W1.heap.size,0,none⟩) v.size cv,Value.slice A1 H.length c1,Value.slice X body.length cb,Value.slice A4 16 c4]=CSL at *
  generalize W2.alloc (.cells CSL 39)=w6 at *
  have hbz:=HB4.out.size
  generalize w4.heap.size=base at *
  clear hk6 hv6 hBk hsW1 hsW2 hr0 hdl hdat hX4 HR4 HT4 HX hb6 hc6 hc1 hc2 hs5 hrow1 hbW1 hrow2 hbW2 hb5 HB4 HR5 hcsl
  go_loopw [7,45] (fun o i wr=>∃ (j:Nat) (Ao:Option Addr) (co:Nat),j≤5∧i=.int .i64 j∧o=.slice Ao (preO dat j).length co∧CRow wr base Ao (preO dat j).length co (preO dat j)∧App w6 wr (some ⟨base,0,none⟩) 3 Ao co) (fun _ i _=>5 - (intOf i).toNat)
  case atStart=>exact⟨0,_,_,Nat.zero_le _,rfl,rfl,HR0.out,App.start _ _ _⟩
  case round =>
   obtain⟨j,Ao,co,hj,rfl,rfl,hro,hao⟩:=hrel
   have hpl:=HPL.out j hj
   have hzr:base≤wr.heap.size:=Nat.le_trans hz6 hao.grown.size
   by_cases hlt:j < 5
   ·obtain⟨S,q,d,hcell,hdq,hrd,hsep⟩:=HPT.out j hlt
    have hdb:=HDL.out j
    have hwz:base≤w6.heap.size:=hz6
    have HNXT:Hid (preO dat (j+1)=preO dat j++secB (j+1) (dat j)):=Lib.hid rfl
    have HBKr:=Lib.hid (HBK.out.app hao (fun kk hk1=>by simp [ownB]at hk1;omega))
    have hce:=HBKr.out.cell j hcell
    have hrdr:=hao.rd hrd hsep
    have hsepr:=hao.sep hrd hsep
    have HRDR:=Lib.hid hrdr
    have HSEPR:=Lib.hid hsepr
    have HRO:=Lib.hid hro
    have HAO:=Lib.hid hao
    rw[hdq]at hdb
    generalize hD:dat j=D at *
    generalize hP:preO dat j=P at *
    clear hrd hsep hrdr hsepr hro hao hcell
    obtain⟨p,hp⟩:∃ p,p=P.length:=⟨_,rfl⟩
    rw[← hp]at hpl HRO ⊢
    have HP:=Lib.hid hp
    have HDQ:=Lib.hid hdq
    clear hp hdq hP hD
    have hj5:(j:Int) < 5:=by omega
    have hmod:(1+(j:Int)) % 256=1+(j:Int):=by omega
    have hnew:=fun u:World=>newB u (UInt8.ofNat (j+1))
    have hnn:((UInt8.ofNat (j+1)).toNat:Int)=1+(j:Int):=by
     have:(UInt8.ofNat (j+1)).toNat=j+1:=by rw[UInt8.toNat_ofNat'];omega
     rw[this];omega
    rw[hnn]at hnew
    have HNEW:=Lib.hid hnew
    clear hnn hnew
    have HPUT:=Lib.hid (fun (u:World) (A7:Option Addr) (c7:Nat) (hr:CRow u base A7 (p+1) c7 (P++[UInt8.ofNat (j+1)])) (hz:base≤u.heap.size)=>by
     have h1:=put_be base A7 c7 q 4 (P++[UInt8.ofNat (j+1)]) u (by rw[List.length_append,← HP.out,List.length_singleton];omega) (by decide) (by omega) (by rw[List.length_append,← HP.out,List.length_singleton];exact hr) hz
     rw[List.length_append,← HP.out,List.length_singleton]at h1
     exact h1)
    go_wp2_with (at_builtin;refine appC _ rfl (.tmp 50) (.tmp 54) rfl base Ao p co P rfl (HRO.out.alloc _) _ 1 1 [UInt8.ofNat (j+1)] rfl (HNEW.out _) (by omega) (by rw[World.size_alloc];omega) ?_;intro A7 c7 w7 hr7 ha7;have HR7:=Lib.hid hr7;have HA7:=Lib.hid (App.pre ((Below.refl _ _).alloc (Nat.le_refl _) _) ha7);clear hr7 ha7)
    have hz7:base≤w7.heap.size:=Nat.le_trans hzr HA7.out.grown.size
    refine (HPUT.out _ A7 c7 HR7.out hz7).mono ?_
    rintro e w8 ⟨A8,c8,rfl,hr8,ha8⟩
    have HR8:=Lib.hid hr8
    have HA8:=Lib.hid (HA7.out.next ha8)
    have hz8:base≤w8.heap.size:=Nat.le_trans hz7 ha8.grown.size
    have HD8:=Lib.hid (HA8.out.rd HRDR.out HSEPR.out)
    clear hr8 ha8 HR7 HA7 HPUT HRO HNEW hce
    go_wp2_with (at_builtin;refine appC _ rfl (.tmp 60) (.tmp 61) rfl base A8 (p+1+4) c8 (P++[UInt8.ofNat (j+1)]++beN q 4) rfl HR8.out S q d D rfl HD8.out (by omega) hz8 ?_;intro A9 c9 w9 hr9 ha9;have HR9:=Lib.hid hr9;have HA9:=Lib.hid (HAO.out.next (HA8.out.next ha9));clear hr9 ha9)
    have hlen:(preO dat (j+1)).length=p+1+4+q:=by
     rw[HNXT.out,List.length_append,secB_len,HDQ.out,← HP.out]
     omega
    refine⟨⟨j+1,A9,c9,by omega,by go_num,?_,?_,HA9.out⟩,by simp [intOf];omega⟩
    ·rw[hlen]
    ·rw[hlen,HNXT.out,secB,HDQ.out]
     have h:=HR9.out
     rw[List.append_assoc,List.append_assoc]at h
     exact h
   ·obtain rfl:j=5:=by omega
    have hra:=hro.rd
    have HSU:=Lib.hid (fun (u:World) (hu:Below wr.heap.size wr u)=>sum_any Ao co (preO dat 5) u (by omega) (hra.below hu))
    have hsl:=sumN_lt (preO dat 5)
    have HPUT:=Lib.hid (fun (u:World) (hu:Below wr.heap.size wr u)=>put_be base Ao co (sumN (preO dat 5)) 4 (preO dat 5) u (by omega) (by decide) (by omega) (hro.below hu) (Nat.le_trans hzr hu.size))
    have hbw:Below w.heap.size w wr:=HB6.out.grown hao.grown (by omega) (fun kk hk1=>by simp [ownB]at hk1;omega)
    have HBW:=Lib.hid hbw
    have HW:Hid (objW dat=preO dat 5++beN (sumN (preO dat 5)) 4):=Lib.hid rfl
    have HRO:=Lib.hid hro
    clear hro hao hra hbw HB6 HR0 HPT HDL HBK HPL
    generalize sumN (preO dat 5)=sm at *
    generalize preO dat 5=P at *
    obtain⟨p,hp⟩:∃ p,p=P.length:=⟨_,rfl⟩
    rw[← hp]at hpl HRO HPUT HSU ⊢
    have HP:=Lib.hid hp
    clear hp
    go_wp2_with fail
    refine (HSU.out _ (Below.refl _ _)).mono ?_
    rintro e w7 ⟨rfl,hb7⟩
    have HB7:=Lib.hid hb7
    clear hb7 HSU
    go_wp2_with fail
    refine (HPUT.out _ HB7.out).mono ?_
    rintro e w8 ⟨A8,c8,rfl,hr8,ha8⟩
    have HR8:=Lib.hid (hr8.mono hbz)
    have hbz7:base≤w7.heap.size:=Nat.le_trans hzr HB7.out.size
    have HB8:=Lib.hid ((below_then HBW.out.size HBW.out HB7.out).trans ((ha8.belowC (HRO.out.below HB7.out) hbz7).mono hbz))
    clear hr8 ha8 HPUT
    go_wp2
    have hlen:(objW dat).length=p+4:=by
     rw[HW.out,List.length_append,beN_len,← HP.out]
    refine bodyPost_ret (v:=.tuple #[.slice A8 (p+4) c8,.int .i64 0]) (by simp [results,Tryz.results71,go_sem]) rfl ?_
    refine⟨A8,c8,by rw[HDAT.out,hlen],?_,HB8.out⟩
    rw[HDAT.out,hlen,HW.out]
    exact HR8.out
end Go.Proofs.YthjeglnkgdpijaaGreatDoor
