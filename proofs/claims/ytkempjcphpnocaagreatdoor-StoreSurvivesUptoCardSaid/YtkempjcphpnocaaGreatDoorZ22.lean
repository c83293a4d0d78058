/- The walk of the log's Open over any disk. Conditions: what the disk's steps ask; at most 2^19 records in the log. Arguments opened: a fate. Six parameters. No condition: plain lemmas. The walk of the Store laws' first script. Condition: the library's tables. The law StoreRefused. Conditions: an entry, and a script's entries, of at most 2^20 bytes in all; the library's tables. -/
import Derived.Test.YtkempjcphpnocaaGreatDoorRep
import Derived.Lib.SmallJoins
import Derived.Test.YtkempjcphpnocaaGreatDoorZ26
namespace Go.Proofs.YtkempjcphpnocaaGreatDoor
open Go Go.RowKit Go.Maps
def RetLO (B:Nat) (M:DM) (d:D.Dsk) (w:World) (x:D.Dsk × Nat × List R.Rc × Int) (e:Ending) (w':World):Prop :=
 (x.2.2.2≠0∧e=.returned (.tuple #[.pointer none,.slice none 0 0,.int .i64 x.2.2.2])∧∃ M',DkAt B M' x.1 w'∧Went (M.foot d) w (M'.foot x.1) w'∧M'.d=M.d) ∨
 (x.2.2.2=0∧∃ l M' A c,e=.returned (.tuple #[.pointer (some ⟨l,0,none⟩),.slice A x.2.2.1.length c,.int .i64 0])∧LgAt B l M' x.1 x.2.1 w'∧Went (M.foot d) w (lgFoot l M' x.1) w'∧M'.d=M.d∧Row w' w.heap.size 89 4 A x.2.2.1.length c (rcells x.2.2.1))
theorem R.dec_id (l:List UInt8):(R.dec l).1.id.size≤4096:=by
 unfold R.dec
 split
 ·exact Nat.zero_le _
 split
 ·exact Nat.zero_le _
 split
 ·exact Nat.zero_le _
 split
 ·exact Nat.zero_le _
 split
 ·exact Nat.zero_le _
 split
 ·exact Nat.zero_le _
 ·rename_i h1 _ _
  show (B _).size≤4096
  rw[B_size,List.length_take]
  omega
theorem R.recs_id:∀ (f:Nat) (l:List UInt8) (a s:Nat),∀ x∈R.recs f l a s,x.1.id.size≤4096
 | 0,_,_,_,x,h=>by cases h
 | f+1,l,a,s,x,h=>by
  rw[R.recs]at h
  split at h
  ·cases h
  ·rcases List.mem_cons.1 h with rfl | h
   ·exact R.dec_id l
   ·exact R.recs_id f _ _ _ x h
theorem R.replay_id (l:List UInt8):∀ r∈(R.replay l).1,r.id.size≤4096:=by
 intro r hr
 obtain⟨x,hx,rfl⟩:=List.mem_map.1 hr
 exact R.recs_id _ _ _ _ x hx
set_option maxRecDepth 100000 in
set_option maxHeartbeats 4000000 in
theorem logOpen_any (B:Nat) (M:DM) (d:D.Dsk) (m:Nat) (w:World) (h:DkAt B M d w) (hf:D.Fit m d) (hm:m≤134000000)
  (hrl:(R.replay ((if S.has d.list S.newN then d.remove S.newN else (d,0)).1.read S.logN).1).1.length≤524288) :
  Calls Tryz.prog 30 #[.pointer (some ⟨M.d,0,none⟩)] w (RetLO B M d w (S.logOpen d)):=by
 have HD:=Lib.hid h
 have HF:=Lib.hid hf
 have hln:d.now.length≤1073741824:=Nat.le_trans hf.now (by omega)
 have HLI:=Lib.hid (fun (u:World) (hu:Below w.heap.size w u)=>dlist_any B M d u (h.below hu) hf.ok hln)
 obtain⟨x,hx⟩:∃ x,(if S.has d.list S.newN then d.remove S.newN else (d,0))=x:=⟨_,rfl⟩
 obtain⟨r,hr⟩:∃ r,x.1.read S.logN=r:=⟨_,rfl⟩
 obtain⟨y,hy⟩:∃ y:D.Dsk × Int,(if r.2=90 then ((S.steps x.1 S.firsts).1,(S.steps x.1 S.firsts).2.2) else (x.1,r.2))=y:=⟨_,rfl⟩
 obtain⟨p,hp⟩:∃ p,R.replay r.1=p:=⟨_,rfl⟩
 obtain⟨G,hG⟩:∃ G,S.logOpen d=G:=⟨_,rfl⟩
 have HG:Hid (G=if x.2≠0 then (x.1,0,[],x.2) else if y.2≠0 then (y.1,0,[],y.2) else if p.2 < r.1.length then (if (S.rewrite y.1 0 p.1).2.2≠0 then ((S.rewrite y.1 0 p.1).1,0,[],(S.rewrite y.1 0 p.1).2.2) else ((S.rewrite y.1 0 p.1).1,p.1.length,p.1,0)) else (y.1,p.1.length,p.1,0)):=Lib.hid (by
  rw[← hG,← hp,← hy,← hr,← hx]
  rfl)
 rw[hx,hr,hp]at hrl
 have HXX:=Lib.hid hx
 have HFX:Hid (D.Fit (m+1) x.1):=Lib.hid (by
  rw[← hx]
  split
  ·exact hf.remove _
  ·exact hf.mono (Nat.le_succ m))
 have HRE:=Lib.hid hr
 have HYY:=Lib.hid hy
 have HRP:=Lib.hid hp
 have HRL:=Lib.hid hrl
 rw[hG]
 have hll:d.list.length≤1099511627776:=by
  have:d.list.length≤d.now.length:=by unfold D.Dsk.list;split<;>simp
  omega
 have HOFF:Hid (∀ q,w.heap.size≤q→q≠w.heap.size+1→∀ (M1:DM) (d1:D.Dsk) (u:World),Went (M.foot d) w (lgFoot (w.heap.size+1) M1 d1) u→True):=Lib.hid (fun _ _ _ _ _ _ _=>trivial)
 clear h hf hx hr hy hp hG hrl HOFF
 go_enter Tryz.func30,Tryz.ntmps30
 go_upto_region 2 with fail
 obtain⟨W1,hW1⟩:∃ W1,(w.alloc (.cells #[.pointer (some ⟨M.d,0,none⟩)] 30)).alloc (.cells #[.pointer (some ⟨M.d,0,none⟩),.int .i64 0] 118)=W1:=⟨_,rfl⟩
 have hs1:(w.alloc (.cells #[.pointer (some ⟨M.d,0,none⟩)] 30)).heap.size=w.heap.size+1:=World.size_alloc ..
 have HZ1:Hid (W1.heap.size=w.heap.size+2):=Lib.hid (by rw[← hW1,World.size_alloc,hs1])
 have hb0:Below w.heap.size w (w.alloc (.cells #[.pointer (some ⟨M.d,0,none⟩)] 30)):=(Below.refl _ _).alloc (Nat.le_refl _) _
 have HB1:Hid (Below w.heap.size w W1):=Lib.hid (by rw[← hW1];exact hb0.alloc (by rw[hs1];omega) _)
 have HBX:Hid (Blk W1 w.heap.size #[.pointer (some ⟨M.d,0,none⟩)] 30):=Lib.hid (by rw[← hW1];exact (Blk.new w _ _).alloc _)
 have HBL:Hid (Blk W1 (w.heap.size+1) #[.pointer (some ⟨M.d,0,none⟩),.int .i64 0] 118):=Lib.hid (by
  have:=Blk.new (w.alloc (.cells #[.pointer (some ⟨M.d,0,none⟩)] 30)) #[.pointer (some ⟨M.d,0,none⟩),.int .i64 0] 118
  rw[← hW1]
  rwa [hs1]at this)
 rw[hW1]
 clear hb0
 have z0:=HBX.out.cells1
 go_wp2_with fail
 refine (HLI.out _ HB1.out).mono ?_
 rintro e w2 ⟨A,c,rfl,hr2,hb2⟩
 have HB2:=Lib.hid (below_then HB1.out.size HB1.out hb2)
 have HCT:=Lib.hid (hasName_any A _ c d.list S.newN w2 rfl hll hr2.rd)
 clear HLI hr2
 go_wp2_with fail
 refine HCT.out.mono ?_
 rintro e w2' ⟨rfl,rfl⟩
 have HBX2:=Lib.hid (HBX.out.below hb2)
 have HBL2:=Lib.hid (HBL.out.below hb2)
 have HZ2:Hid (w.heap.size+2≤w2.heap.size):=Lib.hid (by have:=hb2.size;have:=HZ1.out;omega)
 have hl2:LgAt B (w.heap.size+1) M d 0 w2:=⟨HD.out.below HB2.out,HBL2.out,by have:=HD.out.base;omega⟩
 have HL2:=Lib.hid hl2
 have HW2:Hid (Went (M.foot d) w (lgFoot (w.heap.size+1) M d) w2):=Lib.hid ((Went.below HB2.out (M.foot d)).wide (fun _ h=>h) (fun k hk=>by
  rcases hk with hk | hk
  ·exact .inl hk
  ·exact .inr (.inr (by omega))))
 have HOFX:Hid (¬ lgFoot (w.heap.size+1) M d w.heap.size):=Lib.hid (fun hf=>by
  rcases hf with hf | hf
  ·have:=HD.out.lt hf;omega
  ·omega)
 clear hb2 hl2 HB1 HBX HBL HCT HZ1 hW1 HBL2 z0
 generalize w.heap.size+1=l at *
 have z0:=HBX2.out.cells1
 go_upto_if 16 with fail
 go_cut [] (fun wx=>x.2=0∧∃ M1,LgAt B l M1 x.1 0 wx∧Went (M.foot d) w (lgFoot l M1 x.1) wx∧M1.d=M.d∧Blk wx w.heap.size #[.pointer (some ⟨M.d,0,none⟩)] 30∧w.heap.size+2≤wx.heap.size∧¬ lgFoot l M1 x.1 w.heap.size)
 case first =>
  cases hh:S.has d.list S.newN
  ·have HX0:Hid (x=(d,0)):=Lib.hid (by rw[← HXX.out,hh];rfl)
   go_wp2
   go_meet
   exact⟨by rw[HX0.out],M,by rw[HX0.out];exact HL2.out,by rw[HX0.out];exact HW2.out,rfl,HBX2.out,HZ2.out,by rw[HX0.out];exact HOFX.out⟩
  ·have HX0:Hid (x=d.remove S.newN):=Lib.hid (by rw[← HXX.out,hh];rfl)
   have HRM:=Lib.hid (remove_any B M d S.newN w2 HL2.out.disk (HF.out.sml (by omega)) log_small.2)
   rw[← HX0.out]at HRM
   clear HXX hh
   go_wp2_with fail
   refine HRM.out.mono ?_
   rintro e w3 hr3
   obtain⟨rfl,M3,hl3,hw3,hm3⟩:=RetStep.log HL2.out hr3
   have HL3:=Lib.hid hl3
   have HW3:=Lib.hid hw3
   have HM3:=Lib.hid hm3
   clear hr3 hl3 hw3 hm3 HRM
   dsimp only at *
   by_cases he:x.2=0
   ·rw[he]
    go_wp2
    go_meet
    exact⟨he,M3,HL3.out,HW2.out.trans HW3.out,HM3.out,HW3.out.blk HBX2.out HOFX.out,Nat.le_trans HZ2.out HW3.out.size,fun hf=>by
     rcases HW3.out.foot _ hf with h9 | h9
     ·exact HOFX.out h9
     ·have:=HZ2.out;omega⟩
   ·have heb:(x.2 != 0)=true:=bne_iff_ne.2 he
    have HE:Hid (G=(x.1,0,[],x.2)):=Lib.hid (HG.out.trans (if_pos he))
    go_wp2
    (try simp only[Exit.inBlock,Exit.then])
    refine bodyPost_ret (results_tmp3 rfl _ _ _) rfl ?_
    exact .inl ⟨by rw[HE.out];exact he,by rw[HE.out]<;>rfl,M3,by rw[HE.out];exact HL3.out.disk,by rw[HE.out];exact (HW2.out.trans HW3.out).wide (fun _ h=>h) (fun _ h=>.inl (.inl h)),HM3.out⟩
 case rest =>
  obtain⟨hx0,M1,hl1,hw1,hm1,hbx,hsz,hof⟩:=hcut
  have HRD:=Lib.hid (read_any B M1 x.1 S.logN wc hl1.disk (HFX.out.sml (by omega)) HFX.out.ok log_small.1)
  rw[HRE.out]at HRD
  have HLC:=Lib.hid hl1
  have HWC:=Lib.hid hw1
  have HBXC:=Lib.hid hbx
  have HOFC:=Lib.hid hof
  rw[← hm1]at HBXC z0 ⊢
  have HM1:=Lib.hid hm1
  have HG2:Hid (G=if y.2≠0 then (y.1,0,[],y.2) else if p.2 < r.1.length then (if (S.rewrite y.1 0 p.1).2.2≠0 then ((S.rewrite y.1 0 p.1).1,0,[],(S.rewrite y.1 0 p.1).2.2) else ((S.rewrite y.1 0 p.1).1,p.1.length,p.1,0)) else (y.1,p.1.length,p.1,0)):=Lib.hid (HG.out.trans (if_neg (fun h=>h hx0)))
  clear hl1 hw1 hbx hof hm1 HG HXX HD HF HBX2 HL2 HW2 HOFX HZ2 HB2 z0 hx0
  have z0:=HBXC.out.cells1
  go_wp2_with fail
  refine HRD.out.mono ?_
  rintro e w3 ⟨A3,c3,rfl,hr3,hb3⟩
  have HL3:=Lib.hid (HLC.out.below hb3)
  have HW3:=Lib.hid (HWC.out.trans (Went.below hb3 _))
  have HBX3:=Lib.hid (HBXC.out.below hb3)
  have HS3:Hid (w.heap.size+2≤w3.heap.size):=Lib.hid (Nat.le_trans hsz hb3.size)
  have HOR:Hid (∀ k,ownB A3 c3=some k→¬ lgFoot l M1 x.1 k):=Lib.hid (fun k hk hf=>by
   have h1:=(hr3.lt k hk).1
   rcases hf with hf | hf
   ·have:=HLC.out.disk.lt hf;omega
   ·have:=HLC.out.blk.lt;omega)
  have HR3:=Lib.hid (hr3.mono (show w.heap.size≤wc.heap.size by omega))
  clear hb3 hr3 HRD HLC HWC HBXC z0 hsz
  have z0:=HBX3.out.cells1
  go_upto_if 28 with fail
  go_cut [8] (fun s8 wx=>s8=.int .i64 y.2∧∃ M2,LgAt B l M2 y.1 0 wx∧Went (M.foot d) w (lgFoot l M2 y.1) wx∧M2.d=M.d∧Row wx w.heap.size 5 1 A3 r.1.length c3 (bcells r.1)∧D.Fit (m+4) y.1)
  case first =>
   by_cases h90:r.2=90
   ·have HY:Hid (y=((S.steps x.1 S.firsts).1,(S.steps x.1 S.firsts).2.2)):=Lib.hid (HYY.out.symm.trans (if_pos h90))
    have HFY:Hid (D.Fit (m+4) y.1):=Lib.hid (by rw[HY.out];exact (S.steps_fit S.firsts S.firsts_fit HFX.out).mono (by show m+1+3≤m+4;omega))
    have hb90:(r.2==90)=true:=beq_iff_eq.2 h90
    have hbe:Below w3.heap.size w3 (w3.alloc (.cells #[.func (.func 59) #[] #[.pointer (some ⟨w.heap.size,0,none⟩)],.func (.func 61) #[] #[.pointer (some ⟨w.heap.size,0,none⟩)],.func (.func 63) #[.pointer (some ⟨M1.d,0,none⟩)] #[]] 123)):=(Below.refl _ _).alloc (Nat.le_refl _) _
    have HL4:=Lib.hid (HL3.out.below hbe)
    have HW4:=Lib.hid (HW3.out.trans (Went.below hbe _))
    have HBX4:=Lib.hid (HBX3.out.below hbe)
    have HR4:=Lib.hid (HR3.out.below hbe)
    have hx4:Rd (w3.alloc (.cells #[.func (.func 59) #[] #[.pointer (some ⟨w.heap.size,0,none⟩)],.func (.func 61) #[] #[.pointer (some ⟨w.heap.size,0,none⟩)],.func (.func 63) #[.pointer (some ⟨M1.d,0,none⟩)] #[]] 123)) (some ⟨w3.heap.size,0,none⟩) 3 1 (#[.func (.func 59) #[] #[.pointer (some ⟨w.heap.size,0,none⟩)],.func (.func 61) #[] #[.pointer (some ⟨w.heap.size,0,none⟩)],.func (.func 63) #[.pointer (some ⟨M1.d,0,none⟩)] #[]]:Array Value).toList:=Rd.newRow w3 123 #[.func (.func 59) #[] #[.pointer (some ⟨w.heap.size,0,none⟩)],.func (.func 61) #[] #[.pointer (some ⟨w.heap.size,0,none⟩)],.func (.func 63) #[.pointer (some ⟨M1.d,0,none⟩)] #[]] 3 1 rfl
    have hA4:∀ a,(some ⟨w3.heap.size,0,none⟩:Option Addr)=some a→¬ lgFoot l M1 x.1 a.block:=fun a ha hf=>by
     cases ha
     rcases hf with hf | hf
     ·exact absurd (HL3.out.disk.lt hf:w3.heap.size < w3.heap.size) (Nat.lt_irrefl _)
     ·have:=HL3.out.blk.lt;change w3.heap.size=l at hf;omega
    have HFI:=Lib.hid (first3_any B l M1 x.1 0 (m+1) w.heap.size (some ⟨w3.heap.size,0,none⟩) 3 (fun d=>d.create S.logN) (fun d=>d.sync S.logN) (fun d=>d.syncNames) (w3.alloc (.cells #[.func (.func 59) #[] #[.pointer (some ⟨w.heap.size,0,none⟩)],.func (.func 61) #[] #[.pointer (some ⟨w.heap.size,0,none⟩)],.func (.func 63) #[.pointer (some ⟨M1.d,0,none⟩)] #[]] 123)) HL4.out HFX.out
     (fun _ _ h=>h.create _) (fun _ _ h=>h.sync _) (fun _ _ h=>h.syncNames) hx4 hA4
     (fun M9 d1 u hl hw hm hf=>op1_any B l M9 d1 0 (m+1+0) w.heap.size u hl hf (by omega) (by rw[hm];exact hw.blk HBX4.out HOFC.out))
     (fun M9 d1 u hl hw hm hf=>op2_any B l M9 d1 0 (m+1+1) w.heap.size u hl hf (by omega) (by rw[hm];exact hw.blk HBX4.out HOFC.out))
     (fun M9 d1 u hl hw hm hf=>by rw[← hm];exact (syncNames_any B M9 d1 u hl.disk (hf.sml (by omega))).mono fun _ _ h=>RetStep.log hl h))
    have e0:S.steps x.1 [fun d=>d.create S.logN,fun d=>d.sync S.logN,fun d=>d.syncNames]=S.steps x.1 S.firsts:=rfl
    rw[e0]at HFI
    have HY1:Hid (y.1=(S.steps x.1 S.firsts).1):=Lib.hid (by rw[HY.out])
    have HY2:Hid (y.2=(S.steps x.1 S.firsts).2.2):=Lib.hid (by rw[HY.out])
    clear hbe hx4 hA4 e0 HYY HRE h90
    go_wp2_with fail
    refine HFI.out.mono ?_
    rintro e w5 ⟨rfl,M5,hl5,hw5,hm5⟩
    rw[← HY1.out]at hl5 hw5
    rw[← HY2.out]
    have HL5:=Lib.hid hl5
    have HW5:=Lib.hid hw5
    have HM5:=Lib.hid hm5
    clear hl5 hw5 hm5 HFI
    go_wp2
    go_meet
    exact⟨rfl,M5,HL5.out,HW4.out.trans HW5.out,HM5.out.trans HM1.out,HW5.out.row HR4.out HOR.out,HFY.out⟩
   ·have HY:Hid (y=(x.1,r.2)):=Lib.hid (HYY.out.symm.trans (if_neg h90))
    have hb90:(r.2==90)=false:=beq_eq_false_iff_ne.2 h90
    go_wp2
    go_meet
    exact⟨by rw[HY.out],M1,by rw[HY.out];exact HL3.out,by rw[HY.out];exact HW3.out,HM1.out,HR3.out,by rw[HY.out];exact HFX.out.mono (by omega)⟩
  case rest =>
   obtain⟨rfl,M2,hl2,hw2,hm2,hrow2,hfy⟩:=hcut
   have HL2:=Lib.hid hl2
   have HW2:=Lib.hid hw2
   have HM2:=Lib.hid hm2
   have HR2:=Lib.hid hrow2
   have HFY:=Lib.hid hfy
   clear hl2 hw2 hm2 hrow2 hfy HL3 HW3 HBX3 HR3 HOR z0 HYY
   by_cases hy0:y.2=0
   rotate_left
   ·have hyb:(y.2 != 0)=true:=bne_iff_ne.2 hy0
    have HE:Hid (G=(y.1,0,[],y.2)):=Lib.hid (HG2.out.trans (if_pos hy0))
    go_wp2
    (try simp only[Exit.inBlock,Exit.then])
    refine bodyPost_ret (results_tmp3 rfl _ _ _) rfl ?_
    exact .inl ⟨by rw[HE.out];exact hy0,by rw[HE.out]<;>rfl,M2,by rw[HE.out];exact HL2.out.disk,by rw[HE.out];exact HW2.out.wide (fun _ h=>h) (fun _ h=>.inl (.inl h)),HM2.out⟩
   have HG3:Hid (G=if p.2 < r.1.length then (if (S.rewrite y.1 0 p.1).2.2≠0 then ((S.rewrite y.1 0 p.1).1,0,[],(S.rewrite y.1 0 p.1).2.2) else ((S.rewrite y.1 0 p.1).1,p.1.length,p.1,0)) else (y.1,p.1.length,p.1,0)):=Lib.hid (HG2.out.trans (if_neg (fun h=>h hy0)))
   have hrn:r.1.length≤1073741824:=by
    rw[← HRE.out]
    unfold D.Dsk.read
    split
    ·exact Nat.zero_le _
    split
    ·exact Nat.zero_le _
    split
    ·exact Nat.zero_le _
    ·exact HFX.out.size _
   have HRPL:=Lib.hid (replay_any A3 r.1.length c3 r.1 wc rfl HR2.out.cap.1 hrn HR2.out.capNone HR2.out.rd)
   rw[HRP.out]at HRPL
   rw[hy0]
   clear HG2 HR2 HRE
   go_wp2_with fail
   refine HRPL.out.mono ?_
   rintro e w4 ⟨A4,c4,rfl,hr4,hb4⟩
   have HL4:=Lib.hid (HL2.out.below hb4)
   have HW4:=Lib.hid (HW2.out.trans (Went.below hb4 _))
   have HR4:=Lib.hid (hr4.mono (show w.heap.size≤wc.heap.size from HW2.out.size))
   clear hr4 hb4 HRPL HL2 HW2
   have offR:∀ {M:DM} {d:D.Dsk} {n:Nat} {u:World},LgAt B l M d n u→Row u w.heap.size 89 4 A4 p.1.length c4 (rcells p.1)→∀ k,ownB A4 c4=some k→¬ lgFoot l M d k:=fun hl hr k hk hf=>by
    rcases hf with hf | hf
    ·exact hl.disk.off (hr.tag hk) (by decide) (by decide) (by decide) (by decide) hf
    ·exact (hr.tag hk).ne hl.blk.tag (by decide) hf
   have HOFFR:=Lib.hid (fun (M:DM) (d:D.Dsk) (n:Nat) (u:World)=>@offR M d n u)
   clear offR
   by_cases hlt:p.2 < r.1.length
   ·have hlti:(p.2:Int) < r.1.length:=by omega
    have HG4:Hid (G=if (S.rewrite y.1 0 p.1).2.2≠0 then ((S.rewrite y.1 0 p.1).1,0,[],(S.rewrite y.1 0 p.1).2.2) else ((S.rewrite y.1 0 p.1).1,p.1.length,p.1,0)):=Lib.hid (HG3.out.trans (if_pos hlt))
    have HRW:=Lib.hid (rewrite_any B l M2 y.1 0 (m+4) p.1 A4 p.1.length c4 w4 HL4.out HFY.out (by omega) rfl HRL.out (fun q hq=>by rw[← HRP.out]at hq;have:=R.replay_id _ q hq;omega) HR4.out.rd)
    obtain⟨Z,hZ⟩:∃ Z,S.rewrite y.1 0 p.1=Z:=⟨_,rfl⟩
    rw[hZ]at HRW HG4
    clear HG3 hlt hZ
    go_wp2_with fail
    refine HRW.out.mono ?_
    rintro e w5 ⟨rfl,M5,hl5,hw5,hm5⟩
    have HL5:=Lib.hid hl5
    have HW5:=Lib.hid (HW4.out.trans hw5)
    have HM5:=Lib.hid (hm5.trans HM2.out)
    have HR5:=Lib.hid (hw5.row HR4.out (HOFFR.out _ _ _ _ HL4.out HR4.out))
    clear hl5 hw5 hm5 HRW HL4 HW4 HR4
    by_cases hz:Z.2.2=0
    ·have HE:Hid (G=(Z.1,p.1.length,p.1,0)):=Lib.hid (HG4.out.trans (if_neg (fun h=>h hz)))
     rw[hz]
     obtain⟨hl6,hw6⟩:=HL5.out.counted p.1.length
     have HR6:=Lib.hid (hw6.row HR5.out (HOFFR.out _ _ _ _ HL5.out HR5.out))
     have HL6:=Lib.hid hl6
     have HW6:=Lib.hid (HW5.out.trans hw6)
     obtain⟨y0,y1⟩:=HL5.out.cells
     have f1:=HL5.out.blk.free 1
     clear hl6 hw6 y0 hz HG4
     go_wp2
     (try simp only[Exit.inBlock,Exit.then])
     refine bodyPost_ret (results_tmp3 rfl _ _ _) rfl ?_
     exact .inr ⟨by rw[HE.out],l,M5,A4,c4,by rw[HE.out]<;>rfl,by rw[HE.out];exact HL6.out,by rw[HE.out];exact HW6.out,HM5.out,by rw[HE.out];exact HR6.out⟩
    ·have hzb:(Z.2.2 != 0)=true:=bne_iff_ne.2 hz
     have HE:Hid (G=(Z.1,0,[],Z.2.2)):=Lib.hid (HG4.out.trans (if_pos hz))
     go_wp2
     (try simp only[Exit.inBlock,Exit.then])
     refine bodyPost_ret (results_tmp3 rfl _ _ _) rfl ?_
     exact .inl ⟨by rw[HE.out];exact hz,by rw[HE.out]<;>rfl,M5,by rw[HE.out];exact HL5.out.disk,by rw[HE.out];exact HW5.out.wide (fun _ h=>h) (fun _ h=>.inl (.inl h)),HM5.out⟩
   ·have hlti:¬ (p.2:Int) < r.1.length:=by omega
    have HE:Hid (G=(y.1,p.1.length,p.1,0)):=Lib.hid (HG3.out.trans (if_neg hlt))
    obtain⟨hl6,hw6⟩:=HL4.out.counted p.1.length
    have HR6:=Lib.hid (hw6.row HR4.out (HOFFR.out _ _ _ _ HL4.out HR4.out))
    have HL6:=Lib.hid hl6
    have HW6:=Lib.hid (HW4.out.trans hw6)
    obtain⟨y0,y1⟩:=HL4.out.cells
    have f1:=HL4.out.blk.free 1
    clear hl6 hw6 y0 HG3
    go_wp2
    (try simp only[Exit.inBlock,Exit.then])
    refine bodyPost_ret (results_tmp3 rfl _ _ _) rfl ?_
    exact .inr ⟨by rw[HE.out],l,M2,A4,c4,by rw[HE.out]<;>rfl,by rw[HE.out];exact HL6.out,by rw[HE.out];exact HW6.out,HM2.out,by rw[HE.out];exact HR6.out⟩
end Go.Proofs.YtkempjcphpnocaaGreatDoor
namespace Go.Proofs.YtkempjcphpnocaaGreatDoor
open Go.ChangeShapes Go.WideShapes Go.ChangeAt Go.RowKit Go.Deep
theorem arrayPair {α:Type} {a:Array α} (h:a.size=2):∃ x y,a=#[x,y]:=by
 obtain⟨l⟩:=a
 match l,h with
 | [x,y],_=>exact⟨x,y,rfl⟩
theorem fate_sz:(Tryz.prog.fieldsOf 53).size=2:=by kernel_rfl
theorem fate_ty:(Tryz.prog.fieldsOf 53).map (·.type)=#[3,51]:=by kernel_rfl
theorem fate_st:Tryz.prog.underlying 53=some (.struct (Tryz.prog.fieldsOf 53)):=by kernel_rfl
theorem fate_one:oneCellFields Tryz.prog (Tryz.prog.fieldsOf 53)=true:=by kernel_rfl
theorem fate_cells:Tryz.prog.cellsOf 53=2:=by kernel_rfl
section
variable {H:Type} {enc:TypeId × Value→H} {W:World} {base:Nat} {held:Bool}
theorem slice_shapeI {fuel:Nat} {v:Value} {x:DataW H × List MemPlace} (h:DataW.trod enc Tryz.prog W base (fun _=>true) held fuel 51 [v]=some x):∃ A n c,v=.slice A n c:=by
 rcases open_slice Tryz.underlying51 h with ⟨h0,_⟩ | ⟨a,len,cap,m,k,D,Pl,hcs,_⟩
 ·exact⟨_,_,_,by simpa using h0⟩
 ·exact⟨_,_,_,by simpa using hcs⟩
set_option maxRecDepth 100000 in
theorem cells_numbers {A:Option Addr} {n c:Nat} {fuel:Nat} {x:DataW H × List MemPlace} (hf:DataW.trod enc Tryz.prog W base (fun _=>true) held fuel 51 [.slice A n c]=some x) :
  ∃ zs:List Int,zs.length=n∧Rd W A n 1 (icells zs)∧zs.length≤Rows.uptoBulk x.1:=by
 obtain⟨d,p⟩:=x
 rcases open_ints Tryz.underlying51 Tryz.underlying3 cellsI hf with ⟨h0,_⟩ | ⟨a,len,cap,zs,hcs,_,hl,hm,hz,hd,hcell,hwf⟩
 ·simp only[List.cons.injEq,Value.slice.injEq,and_true]at h0
  obtain⟨rfl,rfl,rfl⟩:=h0
  exact⟨[],rfl,Rd.nil _ _ _,Nat.zero_le _⟩
 ·simp only[List.cons.injEq,Value.slice.injEq,and_true]at hcs
  obtain⟨rfl,rfl,rfl⟩:=hcs
  simp only[if_true]at hz
  refine⟨zs.take n,by simp;omega,?_,?_⟩
  ·refine⟨by simp [icells];omega,fun hn=>?_⟩
   have h0:=hcell 0 (by omega)
   have hspot:(a.add 0).spot=none:=World.cell?_spot h0
   obtain⟨b,o,sp⟩:=a
   have:sp=none:=by cases sp<;>simp_all [Addr.add]
   subst this
   have ea:∀ k,(⟨b,o,none⟩:Addr).add k=⟨b,o+k,none⟩:=fun k=>by unfold Addr.add;split<;>simp_all
   refine⟨b,o,rfl,World.block_lt_of_cell? W _ h0,fun j u hu=>?_⟩
   unfold icells at hu
   have hj:j < n:=by
    have:=(List.getElem?_eq_some_iff.1 hu).1
    simp at this
    omega
   have h1:=hcell j (by omega)
   rw[ea]at h1
   rw[h1]
   have e:zs.getD j 0=zs[j]'(by omega):=by simp [List.getD,List.getElem?_eq_getElem (show j < zs.length by omega)]
   rw[e]
   simp [hj,List.getElem?_eq_getElem (show j < zs.length by omega)]at hu
   rw[← hu]
  ·have hd2:=congrArg Prod.fst hd
   dsimp only at hd2 ⊢
   rw[hd2]
   simp only[Rows.uptoBulk,bulk_lits,List.length_take]
   omega
set_option maxRecDepth 100000 in
theorem open_fate {r:Reach} {b0:Nat} {v:Value} {d:DataW H} {p:List MemPlace} (hv:Value.okWide Tryz.prog W r b0 53 v) (h:DataW.Trod enc Tryz.prog W base (fun _=>true) held 53 v d p) :
  ∃ k A n c,∃ zs:List Int,v=.agg #[.int .i64 k,.slice A n c]∧zs.length=n∧Rd W A n 1 (icells zs)∧zs.length≤Rows.uptoBulk d:=by
 obtain⟨f0,f1,hf⟩:=arrayPair fate_sz
 have ht:=fate_ty
 have hs:=fate_st
 have ho:=fate_one
 rw[hf]at ht hs ho
 simp at ht
 obtain⟨t0,t1⟩:=ht
 obtain⟨v0,v1,y0,y1,n,rfl,rfl,rfl,h0,h1⟩:=Go.Joins.open_agg2 hs ho fate_cells hv h
 rw[t0]at h0
 rw[t1]at h1
 obtain⟨k,e0,rfl,_⟩:=DataW.trod_int Tryz.underlying3 h0
 obtain⟨A,m,c,rfl⟩:=slice_shapeI h1
 obtain⟨zs,l1,l2,l3⟩:=cells_numbers h1
 simp only[List.cons.injEq,and_true]at e0
 subst e0
 refine⟨k,A,m,c,zs,rfl,l1,l2,?_⟩
 simp only[Rows.uptoBulk,Rows.uptoBulkAll]
 omega
end
section
variable {H:Type} {enc:TypeId × Value→H} {P:Program} {w:World} {base:Nat} {spare:Nat→Bool} {held:Bool}
theorem trodAll_six {t t1 t2 t3 t4 t5:TypeId} {args:Array Value} {ds:List (DataW H)} {ps:List MemPlace} (h:DataW.TrodAll enc P w base spare held [t,t1,t2,t3,t4,t5] args.toList ds ps) :
  ∃ v v1 v2 v3 v4 v5 d d1 d2 d3 d4 d5 p p1 p2 p3 p4 p5,args=#[v,v1,v2,v3,v4,v5]∧ds=[d,d1,d2,d3,d4,d5]∧ps=p++p1++p2++p3++p4++p5∧DataW.Trod enc P w base spare held t v d p∧DataW.Trod enc P w base spare held t1 v1 d1 p1 ∧
   DataW.Trod enc P w base spare held t2 v2 d2 p2∧DataW.Trod enc P w base spare held t3 v3 d3 p3∧DataW.Trod enc P w base spare held t4 v4 d4 p4∧DataW.Trod enc P w base spare held t5 v5 d5 p5:=by
 obtain⟨v,vs,d,ds',p,q,hargs,rfl,rfl,hd,h1⟩:=trodAll_cons h
 obtain⟨v1,vs1,d1,ds1,p1,q1,rfl,rfl,rfl,hd1,h2⟩:=trodAll_cons h1
 obtain⟨v2,vs2,d2,ds2,p2,q2,rfl,rfl,rfl,hd2,h3⟩:=trodAll_cons h2
 obtain⟨v3,vs3,d3,ds3,p3,q3,rfl,rfl,rfl,hd3,h4⟩:=trodAll_cons h3
 obtain⟨v4,vs4,d4,ds4,p4,q4,rfl,rfl,rfl,hd4,h5⟩:=trodAll_cons h4
 obtain⟨v5,vs5,d5,ds5,p5,q5,rfl,rfl,rfl,hd5,h6⟩:=trodAll_cons h5
 obtain⟨rfl,rfl,rfl⟩:=trodAll_nil h6
 exact⟨v,v1,v2,v3,v4,v5,d,d1,d2,d3,d4,d5,p,p1,p2,p3,p4,p5,by cases args;simp_all,rfl,by simp,hd,hd1,hd2,hd3,hd4,hd5⟩
theorem trodAll_mk6 {t t1 t2 t3 t4 t5:TypeId} {v v1 v2 v3 v4 v5:Value} {d d1 d2 d3 d4 d5:DataW H} {p p1 p2 p3 p4 p5:List MemPlace} (h:DataW.Trod enc P w base spare held t v d p) (h1:DataW.Trod enc P w base spare held t1 v1 d1 p1)
  (h2:DataW.Trod enc P w base spare held t2 v2 d2 p2) (h3:DataW.Trod enc P w base spare held t3 v3 d3 p3) (h4:DataW.Trod enc P w base spare held t4 v4 d4 p4) (h5:DataW.Trod enc P w base spare held t5 v5 d5 p5):DataW.TrodAll enc P w base spare held [t,t1,t2,t3,t4,t5] [v,v1,v2,v3,v4,v5] [d,d1,d2,d3,d4,d5] (p++(p1++(p2++(p3++(p4++p5))))) :=
 ⟨p,p1++(p2++(p3++(p4++p5))),h,⟨p1,p2++(p3++(p4++p5)),h1,trodAll_mk4 h2 h3 h4 h5,rfl⟩,rfl⟩
end
end Go.Proofs.YtkempjcphpnocaaGreatDoor
namespace Go.Proofs.YtkempjcphpnocaaGreatDoor
open Go Go.RowKit Go.Maps
section
variable {B k:Nat} {M:DM} {d:D.Dsk} {X:SM} {s:S.Sto} {w w':World} {F F':Nat→Prop}
theorem DkAt.under (h:DkAt B M d w) (hf:M.foot d k):B≤k:=by
 rcases hf with rfl | rfl | rfl | hf | ⟨no,hn,rfl | hf⟩
 ·exact h.ge.1
 ·exact h.ge.2.1
 ·exact h.ge.2.2
 ·exact (h.pend.lt k hf).1
 ·exact (h.files no hn).ge
 ·exact ((h.files no hn).row.lt k hf).1
theorem StAt.under (h:StAt B X s w) (hf:X.foot s k):B≤k:=by
 rcases hf with hf | rfl | rfl | rfl | hf
 ·exact h.log.disk.under hf
 ·exact h.log.ge
 ·exact h.ge.1
 ·exact h.ge.2
 ·exact (h.used.lt k hf).1
theorem Went.under (h:Went F w F' w') (hF:∀ k,F k→B≤k) (hB:B≤w.heap.size):Below B w w' :=
 ⟨h.os,h.tape,h.output,h.size,fun k hk=>h.block k (Nat.lt_of_lt_of_le hk hB) (fun hf=>by have:=hF k hf;omega)⟩
end
set_option maxRecDepth 100000 in
set_option maxHeartbeats 4000000 in
theorem storeAlive_any (w:World) (ht:Tabs w):Calls Tryz.prog 6 #[] w (RetB w true):=by
 have HTB:=Lib.hid ht
 have HNW:=Lib.hid (newNil_any 9999 (-1) w)
 clear ht
 go_enter Tryz.func6,Tryz.ntmps6
 go_wp2_with fail
 refine HNW.out.mono ?_
 rintro e w1 (⟨hbad,_⟩ | ⟨_,_,M,rfl,hd1,hb1⟩)
 ·exact absurd ⟨by decide,by decide⟩ hbad
 have HOP:=Lib.hid (open0_any w.heap.size M 9999 1 w1 hd1 ⟨by decide,by decide⟩ (by decide))
 have hun:∀ k,M.foot (S.fresh 9999) k→w.heap.size≤k:=fun k hk=>hd1.under hk
 have HUN:=Lib.hid hun
 have HB1:=Lib.hid hb1
 clear hd1 hb1 hun HNW
 go_wp2_with fail
 refine HOP.out.mono ?_
 rintro e w2 ⟨X,rfl,hs2,hw2,hm2⟩
 have HS2:=Lib.hid hs2
 have HB2:=Lib.hid (HB1.out.trans (hw2.under HUN.out HB1.out.size))
 have HM2:=Lib.hid hm2
 have HST:=Lib.hid (steps_any w.heap.size X.M _ w2 hs2.log.disk)
 rw[hm2]at HST
 have hn3:(S.born 9999).n=3:=S.alive_n0
 dsimp only at HST
 rw[hn3]at HST
 clear hs2 hw2 hm2 HOP HUN HB1 hn3
 go_wp2_with fail
 refine HST.out.mono ?_
 rintro e w2' ⟨rfl,rfl⟩
 go_upto_region 9 with fail
 obtain⟨W3,hW3⟩:∃ W3,w2.alloc (.cells #[.string ⟨#[107]⟩,.string ⟨#[]⟩,.int .i64 200,.string ⟨#[]⟩,.int .i64 1,.slice none 0 0,.slice none 0 0,.int .i64 0,.int .i64 0] 28)=W3:=⟨_,rfl⟩
 have hs3:W3.heap.size=w2.heap.size+1:=by rw[← hW3];exact World.size_alloc ..
 have hbx:Blk W3 w2.heap.size #[.string ⟨#[107]⟩,.string ⟨#[]⟩,.int .i64 200,.string ⟨#[]⟩,.int .i64 1,.slice none 0 0,.slice none 0 0,.int .i64 0,.int .i64 0] 28:=by rw[← hW3];exact Blk.new w2 _ _
 have hb3:Below w2.heap.size w2 W3:=by rw[← hW3];exact (Below.refl _ _).alloc (Nat.le_refl _) _
 rw[hW3]
 obtain⟨W4,hW4⟩:∃ W4,W3.alloc (.cells #[.string ⟨#[109]⟩,.string ⟨#[]⟩,.int .i64 200,.string ⟨#[]⟩,.int .i64 1,.slice none 0 0,.slice none 0 0,.int .i64 0,.int .i64 0] 28)=W4:=⟨_,rfl⟩
 have hby:Blk W4 (w2.heap.size+1) #[.string ⟨#[109]⟩,.string ⟨#[]⟩,.int .i64 200,.string ⟨#[]⟩,.int .i64 1,.slice none 0 0,.slice none 0 0,.int .i64 0,.int .i64 0] 28:=by rw[← hW4,← hs3];exact Blk.new W3 _ _
 have hb4:Below W3.heap.size W3 W4:=by rw[← hW4];exact (Below.refl _ _).alloc (Nat.le_refl _) _
 rw[hW4]
 have hb24:=below_then hb3.size hb3 hb4
 have HX4:=Lib.hid (hbx.below hb4)
 have HY4:=Lib.hid hby
 have HS4:=Lib.hid (HS2.out.below hb24)
 have HB4:=Lib.hid (below_then HB2.out.size HB2.out hb24)
 have HLT:=Lib.hid (fun k (hk:X.foot S.alive0 k)=>HS2.out.lt hk)
 clear hW3 hs3 hbx hb3 hW4 hby hb4 hb24 HS2 HB2 HST
 have hkp0:S.Kept 9999 0 S.alive0:=S.Kept.start (room:=9999) ⟨by decide,by decide⟩ (n:=1) (by decide)
 have HK0:=Lib.hid hkp0
 have HK1:=Lib.hid (hkp0.put S.aliveX (by decide))
 clear hkp0
 have HPX:Hid (Calls Tryz.prog 10 #[.pointer (some ⟨X.st,0,none⟩),.agg #[.string ⟨#[107]⟩,.string ⟨#[]⟩,.int .i64 200,.string ⟨#[]⟩,.int .i64 1,.slice none 0 0,.slice none 0 0,.int .i64 0,.int .i64 0]] W4 (RetSto w.heap.size X S.alive0 W4 (S.alive0.put S.aliveX).1 (.int .i64 (S.alive0.put S.aliveX).2))) :=
  Lib.hid (sput_any w.heap.size X S.alive0 S.aliveX 3 none 0 none 0 W4 HS4.out HK0.out.fit (by decide) HK0.out.inv.up (by decide) (fun _ h=>by cases h) (by decide) HK0.out.inv.lens (fun _ h=>by cases h) (by decide) (by decide) (by decide) (by decide) (Rd.nil _ _ _) (Rd.nil _ _ _) (HTB.out.below HB4.out).2.2)
 rw[S.alive_x]at HPX
 obtain⟨x0,x1,x2,x3,x4,x5,x6,x7,x8⟩:=HX4.out.cells9
 go_wp2_with fail
 clear x0 x1 x2 x3 x4 x5 x6 x7 x8
 refine HPX.out.mono ?_
 rintro e w5 ⟨rfl,X5,hs5,hw5,hst5,hd5,_⟩
 have hY5:=hw5.blk HY4.out (fun hf=>by have:=HLT.out _ hf;omega)
 have HY5:=Lib.hid hY5
 have HS5:=Lib.hid hs5
 have HB5:=Lib.hid (HB4.out.trans (hw5.under (fun k hk=>HS4.out.under hk) HB4.out.size))
 have HM5:=Lib.hid (hd5.trans HM2.out)
 have HN5:=Lib.hid (steps_any w.heap.size X5.M _ w5 hs5.log.disk)
 rw[HM5.out,S.alive_n1]at HN5
 rw[← hst5]
 clear hY5 hs5 hw5 hst5 hd5 HPX HX4 HY4 HS4 HB4 HLT HM2 HK0
 go_wp2_with fail
 refine HN5.out.mono ?_
 rintro e w5' ⟨rfl,rfl⟩
 obtain⟨s1,hs1⟩:∃ s1,(S.alive0.put S.aliveX).1=s1:=⟨_,rfl⟩
 have HE1:=Lib.hid hs1
 rw[hs1]at HS5 HK1
 clear hs1
 have HPY:Hid (Calls Tryz.prog 10 #[.pointer (some ⟨X5.st,0,none⟩),.agg #[.string ⟨#[109]⟩,.string ⟨#[]⟩,.int .i64 200,.string ⟨#[]⟩,.int .i64 1,.slice none 0 0,.slice none 0 0,.int .i64 0,.int .i64 0]] w5 (RetSto w.heap.size X5 s1 w5 (s1.put S.aliveY).1 (.int .i64 (s1.put S.aliveY).2))) :=
  Lib.hid (sput_any w.heap.size X5 s1 S.aliveY 16 none 0 none 0 w5 HS5.out HK1.out.fit (by decide) HK1.out.inv.up (by have:=HK1.out.len;omega) (fun p hp=>by have:=HK1.out.ids p hp;omega) (by have:=HK1.out.count;omega) HK1.out.inv.lens (fun p hp=>(HK1.out.inv.tab p hp).1) (by decide) (by decide) (by decide) (by decide) (Rd.nil _ _ _) (Rd.nil _ _ _) (HTB.out.below HB5.out).2.2)
 have hy:(s1.put S.aliveY).2=130:=by rw[← HE1.out];exact S.alive_y
 rw[hy]at HPY
 have HK2:=Lib.hid (HK1.out.put S.aliveY (by decide))
 obtain⟨x0,x1,x2,x3,x4,x5,x6,x7,x8⟩:=HY5.out.cells9
 clear hy
 go_wp2_with fail
 clear x0 x1 x2 x3 x4 x5 x6 x7 x8
 refine HPY.out.mono ?_
 rintro e w6 ⟨rfl,X6,hs6,hw6,hst6,_,_⟩
 have HB6:=Lib.hid (HB5.out.trans (hw6.under (fun k hk=>HS5.out.under hk) HB5.out.size))
 obtain⟨E,hE,hEk,hEs⟩:=S.alive_g
 rw[HE1.out]at hE
 have hEk2:E.k=⟨#[107]⟩:=D.L_inj hEk
 obtain⟨Ek,Ev,Es,Er,Em,Efs,Eb,Ea,Eg⟩:=E
 dsimp only at hEk2 hEs
 subst hEk2 hEs
 clear hEk
 have HGE:=Lib.hid (sget_any w.heap.size X6 _ ⟨#[107,10]⟩ 29 w6 hs6 HK2.out.fit (by decide) (fun p hp=>Nat.lt_of_lt_of_le (HK2.out.inv.tab p hp).1 HK2.out.inv.lens) (by decide) (HTB.out.below HB6.out))
 rw[hE]at HGE
 rw[← hst6]
 clear hs6 hw6 hst6 hE HPY HS5 HB5 HY5 HN5 HK1 HK2
 go_wp2_with fail
 refine HGE.out.mono ?_
 rintro e w7 ⟨A,c,Xb,dd,rfl,_,_,hb7⟩
 have HB7:=Lib.hid (below_then HB6.out.size HB6.out hb7)
 clear hb7 HGE HB6
 dsimp only[Option.getD_some,Option.isSome_some,entV]
 have HPA:=Lib.hid (fun u=>path_any 4095 u (by decide))
 rw[S.alive_path]at HPA
 go_wp2_with fail
 refine (HPA.out _).mono ?_
 rintro e w8 ⟨rfl,hb8⟩
 have HB8:=Lib.hid (below_then HB7.out.size HB7.out (below_then (by rw[World.size_alloc];omega) ((Below.refl _ w7).alloc (Nat.le_refl _) _) hb8))
 clear HPA HB7 hb8
 go_wp2
 go_ret
 exact⟨rfl,HB8.out⟩
end Go.Proofs.YtkempjcphpnocaaGreatDoor
namespace Go.Proofs.YtkempjcphpnocaaGreatDoor
open Go Go.RowKit Go.Maps
def EP.small (p:EP):Prop:=F.bulk p.E.fs+p.E.k.size+p.E.v.size+p.E.r.size+p.E.body.length≤1048576
theorem ep_len {p:EP} (h:EP.small p):p.E.fs.length≤1099511627776∧p.E.body.length≤1099511627776∧p.E.r.size≤1073741824∧F.bulk p.E.fs≤1073741824∧p.E.k.size≤1073741824∧p.E.v.size≤1073741824:=by
 unfold EP.small at h
 have:=F.len_le_bulk p.E.fs
 omega
theorem kcopy_any (p:EP) (w:World) (hp:EP.small p) (hx:ERd w p):Calls Tryz.prog 11 #[p.v] w (fun e w'=>∃ q:EP,q.E=p.E∧e=.returned q.v∧ERd w' q∧Below w.heap.size w w'):=by
 obtain⟨h1,h2,_⟩:=ep_len hp
 refine (copyEntry_any p.E.k p.E.v p.E.s p.E.r p.E.m p.A p.c p.E.fs p.X p.d p.E.body p.E.asked p.E.got w h1 h2 hx.1 hx.2).mono ?_
 rintro e w' ⟨A,c,X,d,rfl,r1,r2,hb⟩
 exact⟨⟨p.E,A,c,X,d⟩,rfl,rfl,⟨r1,r2⟩,hb⟩
theorem ent_small {E:O.Ent} (h:E.ok=true):E.fs.length≤1099511627776∧E.body.length≤1099511627776:=by
 unfold O.Ent.ok objOk at h
 obtain⟨h1,h2⟩:=of_decide_eq_true h
 unfold okE at h2
 have h3:=of_decide_eq_true h2
 refine⟨?_,by omega⟩
 unfold F.respE at h1
 split at h1
 ·cases h1
 ·split at h1
  ·cases h1
  ·unfold F.wholeE at h1
   split at h1
   ·rename_i hp
    unfold F.printE at hp
    split at hp
    ·split at hp
     ·cases hp
     ·omega
    ·cases hp
   ·rename_i hp
    exact absurd h1 hp
theorem get_small {s:S.Sto} {id:ByteArray} {E:O.Ent} (h:s.get id=some E):E.fs.length≤1099511627776∧E.body.length≤1099511627776:=by
 unfold S.Sto.get at h
 split at h
 ·cases h
 ·unfold S.read at h
  split at h
  ·cases h
  ·exact ent_small (O.dec_some h).1
theorem take60 (l:List (EP × ByteArray)):(l.take 60).length≤60:=by rw[List.length_take];omega
end Go.Proofs.YtkempjcphpnocaaGreatDoor
