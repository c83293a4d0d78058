/- The walk of the log's Rewrite. Conditions: what the disk's steps ask; Ids of at most 2^31 bytes; at most 2^19 records. -/
import Derived.Test.YtkempjcphpnocaaGreatDoorZ20
namespace Go.Proofs.YtkempjcphpnocaaGreatDoor
open Go Go.RowKit Go.Maps
theorem R.encAll_at {list:List R.Rc} {k:Nat} (h:k < list.length) (bs:List UInt8):R.encAll (list.drop k) k bs=if R.code { list[k] with seq:=k }≠0 then ([],R.code { list[k] with seq:=k }) else R.encAll (list.drop (k+1)) (k+1) (bs++R.enc { list[k] with seq:=k }):=by
 rw[List.drop_eq_getElem_cons h]
 rfl
theorem S.steps_le:∀ (ops:List (D.Dsk→D.Dsk × Int)) (d:D.Dsk),(S.steps d ops).2.1≤ops.length
 | [],_=>Nat.le_refl _
 | f::r,d=>by
  have:=S.steps_le r (f d).1
  unfold S.steps
  split
  ·exact Nat.zero_le _
  ·rw[List.length_cons]
   exact Nat.succ_le_succ this
set_option maxRecDepth 100000 in
set_option maxHeartbeats 4000000 in
theorem rewrite_any (B l:Nat) (M:DM) (d:D.Dsk) (count m:Nat) (list:List R.Rc) (A:Option Addr) (n c:Nat) (w:World) (h:LgAt B l M d count w) (hf:D.Fit m d) (hm:m≤134217000)
  (hl:list.length=n) (hn:n≤524288) (hi:∀ r∈list,r.id.size≤1048576) (hx:Rd w A n 4 (rcells list)) :
  Calls Tryz.prog 32 #[.pointer (some ⟨l,0,none⟩),.slice A n c] w (RetLog B l M d w (S.rewrite d count list)):=by
 have HD:=Lib.hid h
 have HF:=Lib.hid hf
 have HX:=Lib.hid hx
 have HL:=Lib.hid hl
 have HI:=Lib.hid hi
 have HE:=Lib.hid (fun (r:R.Rc) (u:World) (hr:r.id.size≤1048576)=>rencode_any r u (by omega))
 obtain⟨G,hG⟩:∃ G,S.rewrite d count list=G:=⟨_,rfl⟩
 have HG:Hid (G=if (R.encAll list 0 []).2≠0 then (d,count,(R.encAll list 0 []).2)
  else if (S.steps d (S.moves (R.encAll list 0 []).1)).2.1=4 then ((S.steps d (S.moves (R.encAll list 0 []).1)).1.syncNames.1,list.length,(S.steps d (S.moves (R.encAll list 0 []).1)).1.syncNames.2)
  else if (S.steps d (S.moves (R.encAll list 0 []).1)).2.1=0 then ((S.steps d (S.moves (R.encAll list 0 []).1)).1,count,(S.steps d (S.moves (R.encAll list 0 []).1)).2.2)
  else (((S.steps d (S.moves (R.encAll list 0 []).1)).1.remove S.newN).1,count,(S.steps d (S.moves (R.encAll list 0 []).1)).2.2)):=Lib.hid hG.symm
 rw[hG]
 obtain⟨W1,hW1⟩:∃ W1,(w.alloc (.cells #[.pointer (some ⟨l,0,none⟩)] 80)).alloc (.cells #[.slice none 0 0] 26)=W1:=⟨_,rfl⟩
 have hz1:W1.heap.size=w.heap.size+2:=by rw[← hW1];simp
 have hb1:Below w.heap.size w W1:=by rw[← hW1];exact ((Below.refl _ _).alloc (Nat.le_refl _) _).alloc (by simp) _
 have hbx:Blk W1 w.heap.size #[.pointer (some ⟨l,0,none⟩)] 80:=by rw[← hW1];exact (Blk.new w _ _).alloc _
 have hby:Blk W1 (w.heap.size+1) #[.slice none 0 0] 26:=by
  rw[← hW1]
  have:=Blk.new (w.alloc (.cells #[.pointer (some ⟨l,0,none⟩)] 80)) #[.slice none 0 0] 26
  simpa using this
 have HB1:=Lib.hid hb1
 have HBX:=Lib.hid hbx
 have HBY:=Lib.hid hby
 clear h hf hx hl hi hG hb1 hbx hby
 go_enter Tryz.func32,Tryz.ntmps32
 go_upto_region 3 with fail
 obtain⟨ENC,hENC⟩:∃ ENC,R.encAll list 0 []=ENC:=⟨_,rfl⟩
 have HENC:=Lib.hid hENC
 have HZ1:=Lib.hid hz1
 clear hW1 hz1
 rw[hENC]at HG
 clear hENC
 go_loopw [14] (fun i wr=>∃ (k:Nat) (A2:Option Addr) (c2:Nat) (bs:List UInt8),k≤n∧i=.int .i64 k∧R.encAll (list.drop k) k bs=ENC∧bs.length≤k * 2097152∧CRow wr W1.heap.size A2 bs.length c2 bs∧Blk wr w.heap.size #[.pointer (some ⟨l,0,none⟩)] 80∧Blk wr (w.heap.size+1) #[.slice A2 bs.length c2] 26∧Below w.heap.size w wr∧W1.heap.size≤wr.heap.size) (fun i _=>n - (intOf i).toNat)
 case atStart=>exact⟨0,none,0,[],Nat.zero_le _,rfl,HENC.out,Nat.zero_le _,CRow.none_ _ _,HBX.out,HBY.out,HB1.out,Nat.le_refl _⟩
 case round =>
  obtain⟨k,A2,c2,bs,hk,rfl,henc,hbl,hrow,hbx,hby,hbe,hze⟩:=hrel
  have HEN:=Lib.hid henc
  have HROW:=Lib.hid hrow
  have HBX2:=Lib.hid hbx
  have HBY2:=Lib.hid hby
  have HBE:=Lib.hid hbe
  have HZE:=Lib.hid hze
  clear henc hrow hbx hby hbe hze HBX HBY HB1 HENC
  by_cases hlt:k < n
  ·have hkl:k < list.length:=by rw[HL.out];exact hlt
   obtain⟨b,o,rfl,hblt,x0,x1,x2,x3⟩:=rd_rec4 (HX.out.below HBE.out) hlt HL.out
   have HST:Hid (ENC=_):=Lib.hid (HEN.out.symm.trans (R.encAll_at hkl bs))
   have hisz:=HI.out _ (List.getElem_mem hkl)
   generalize list[k]'hkl=r at *
   have HE1:=Lib.hid (fun u=>HE.out { r with seq:=(k:Int) } u hisz)
   dsimp only at HE1
   have hln:=enc_small { r with seq:=(k:Int) } (Nat.le_trans hisz (by decide))
   clear hkl hblt HEN
   go_wp2_with fail
   clear x0 x1 x2 x3
   refine (HE1.out _).mono ?_
   rintro e w2 ⟨A3,c3,rfl,hr3,hb3⟩
   have hb4:Below wr.heap.size wr w2:=below_then (by rw[World.size_alloc];omega) ((Below.refl _ _).alloc (Nat.le_refl _) _) hb3
   have HBX3:=Lib.hid (HBX2.out.below hb4)
   have HBY3:=Lib.hid (HBY2.out.below hb4)
   have HROW3:=Lib.hid (HROW.out.below hb4)
   have HB3:=Lib.hid (below_then HBE.out.size HBE.out hb4)
   have HZ3:Hid (W1.heap.size≤w2.heap.size):=Lib.hid (Nat.le_trans HZE.out hb4.size)
   have HR3:=Lib.hid hr3.rd
   clear hr3 hb3 hb4 HE1 HBX2 HBY2 HROW HBE HZE
   by_cases hcd:R.code { r with seq:=(k:Int) }=0
   rotate_left
   ·have hcb:(R.code { r with seq:=(k:Int) } != 0)=true:=by simpa using hcd
    have HEND:Hid (ENC=([],R.code { r with seq:=(k:Int) })):=Lib.hid (by rw[HST.out,if_pos hcd])
    have HGE:Hid (G=(d,count,R.code { r with seq:=(k:Int) })):=Lib.hid (by rw[HG.out,HEND.out,if_pos hcd])
    clear HST HG HEND hcd
    generalize R.code { r with seq:=(k:Int) }=code at *
    go_wp2
    go_ret
    exact⟨by rw[HGE.out]<;>rfl,M,by rw[HGE.out];exact HD.out.below HB3.out,by rw[HGE.out];exact Went.below HB3.out _,rfl⟩
   have HST2:Hid (ENC=R.encAll (list.drop (k+1)) (k+1) (bs++R.enc { r with seq:=(k:Int) })):=Lib.hid (by rw[HST.out,if_neg (by simpa using hcd)])
   have hln2:(R.enc { r with seq:=(k:Int) }).length≤2097152:=by rw[R.enc_len _ hcd];show r.id.size+15≤_;omega
   rw[hcd]
   clear HST hcd hln
   generalize R.enc { r with seq:=(k:Int) }=new at *
   have y0:=HBY3.out.cells1
   have hbn:bs.length+new.length≤(k+1) * 2097152:=by omega
   go_wp2_with (at_builtin;refine appC _ rfl _ _ rfl W1.heap.size A2 bs.length c2 bs rfl HROW3.out A3 new.length c3 new rfl HR3.out (by omega) HZ3.out ?_;intro A4 c4 w3 hr4 ha4;have hne4:∀ q,ownB A2 c2=some q→q≠w.heap.size+1:=fun q hq=>(by have:=(HROW3.out.lt q hq).1;have:=HZ1.out;omega);have hby4:=HBY3.out.app ha4 hne4;have z1:=hby4.cells1;have f1:=hby4.free 0;have HR4:=Lib.hid hr4;have HA4:=Lib.hid ha4;have HBY4:=Lib.hid hby4;clear hr4 ha4 hby4 hne4)
   have hg5:=grown_set w3 (w.heap.size+1) 0 (.slice A4 (bs.length+new.length:Nat) c4)
   have hw5:Went (fun q=>q=w.heap.size+1) w3 (fun q=>q=w.heap.size+1) (w3.setCell ⟨w.heap.size+1,0,none⟩ (.slice A4 (bs.length+new.length:Nat) c4)):=Went.grown hg5 (fun q e=>(by simpa using e.symm)) (fun q h=>.inl h)
   have hb4:=HA4.out.belowC HROW3.out HZ3.out
   have hzb:w.heap.size+2=W1.heap.size:=HZ1.out.symm
   have HB5:=Lib.hid (below_set (HB3.out.trans (hb4.mono (by omega))) (b:=w.heap.size+1) (by omega) 0 (.slice A4 (bs.length+new.length:Nat) c4))
   have HZ5:Hid (W1.heap.size≤(w3.setCell ⟨w.heap.size+1,0,none⟩ (.slice A4 (bs.length+new.length:Nat) c4)).heap.size):=Lib.hid (by rw[World.size_setCell];exact Nat.le_trans HZ3.out hb4.size)
   have HBX5:=Lib.hid (hw5.blk (HBX3.out.under hb4 (by omega)) (by omega))
   have HBY5:=Lib.hid (HBY4.out.set 0 (.slice A4 (bs.length+new.length:Nat) c4))
   have HR5:=Lib.hid (hw5.crow HR4.out (fun q hq e=>by have:=(HR4.out.lt q hq).1;omega))
   have hl5:(bs++new).length=bs.length+new.length:=List.length_append
   clear hg5 hw5 hb4 HB3 HZ3 HBX3 HBY3 HROW3 HR3 HR4 HA4 HBY4 y0 hzb
   go_wp2
   go_roundw
   case rel=>exact⟨k+1,A4,c4,bs++new,by omega,by go_num,HST2.out.symm,by rw[hl5];omega,by rw[hl5];exact HR5.out,HBX5.out,by rw[hl5];exact HBY5.out,HB5.out,HZ5.out⟩
   case measure=>simp [intOf];omega
  ·have hkn:k=n:=by omega
   have HEND:Hid (ENC=(bs,0)):=Lib.hid (by
    rw[← HEN.out,List.drop_eq_nil_of_le (by have:=HL.out;omega)]
    rfl)
   have HG2:Hid (G=if (S.steps d (S.moves bs)).2.1=4 then ((S.steps d (S.moves bs)).1.syncNames.1,list.length,(S.steps d (S.moves bs)).1.syncNames.2)
    else if (S.steps d (S.moves bs)).2.1=0 then ((S.steps d (S.moves bs)).1,count,(S.steps d (S.moves bs)).2.2)
    else (((S.steps d (S.moves bs)).1.remove S.newN).1,count,(S.steps d (S.moves bs)).2.2)):=Lib.hid (by rw[HG.out,HEND.out,if_neg (by simp)])
   have hbn:bs.length≤1099511627776:=by omega
   have hbe2:Below w.heap.size w (wr.alloc (.cells #[.func (.func 66) #[] #[.pointer (some ⟨w.heap.size,0,none⟩)],.func (.func 67) #[] #[.pointer (some ⟨w.heap.size,0,none⟩),.pointer (some ⟨w.heap.size+1,0,none⟩)],.func (.func 69) #[] #[.pointer (some ⟨w.heap.size,0,none⟩)],.func (.func 70) #[] #[.pointer (some ⟨w.heap.size,0,none⟩)]] 123)):=HBE.out.alloc HBE.out.size _
   have HD2:=Lib.hid (HD.out.below hbe2)
   have HW2:Hid (Went (lgFoot l M d) w (lgFoot l M d) (wr.alloc (.cells #[.func (.func 66) #[] #[.pointer (some ⟨w.heap.size,0,none⟩)],.func (.func 67) #[] #[.pointer (some ⟨w.heap.size,0,none⟩),.pointer (some ⟨w.heap.size+1,0,none⟩)],.func (.func 69) #[] #[.pointer (some ⟨w.heap.size,0,none⟩)],.func (.func 70) #[] #[.pointer (some ⟨w.heap.size,0,none⟩)]] 123))):=Lib.hid (Went.below hbe2 _)
   have HBX3:=Lib.hid (HBX2.out.alloc (.cells #[.func (.func 66) #[] #[.pointer (some ⟨w.heap.size,0,none⟩)],.func (.func 67) #[] #[.pointer (some ⟨w.heap.size,0,none⟩),.pointer (some ⟨w.heap.size+1,0,none⟩)],.func (.func 69) #[] #[.pointer (some ⟨w.heap.size,0,none⟩)],.func (.func 70) #[] #[.pointer (some ⟨w.heap.size,0,none⟩)]] 123))
   have HBY3:=Lib.hid (HBY2.out.alloc (.cells #[.func (.func 66) #[] #[.pointer (some ⟨w.heap.size,0,none⟩)],.func (.func 67) #[] #[.pointer (some ⟨w.heap.size,0,none⟩),.pointer (some ⟨w.heap.size+1,0,none⟩)],.func (.func 69) #[] #[.pointer (some ⟨w.heap.size,0,none⟩)],.func (.func 70) #[] #[.pointer (some ⟨w.heap.size,0,none⟩)]] 123))
   have HR3:=Lib.hid ((HROW.out.alloc (.cells #[.func (.func 66) #[] #[.pointer (some ⟨w.heap.size,0,none⟩)],.func (.func 67) #[] #[.pointer (some ⟨w.heap.size,0,none⟩),.pointer (some ⟨w.heap.size+1,0,none⟩)],.func (.func 69) #[] #[.pointer (some ⟨w.heap.size,0,none⟩)],.func (.func 70) #[] #[.pointer (some ⟨w.heap.size,0,none⟩)]] 123)))
   have hx2:Rd (wr.alloc (.cells #[.func (.func 66) #[] #[.pointer (some ⟨w.heap.size,0,none⟩)],.func (.func 67) #[] #[.pointer (some ⟨w.heap.size,0,none⟩),.pointer (some ⟨w.heap.size+1,0,none⟩)],.func (.func 69) #[] #[.pointer (some ⟨w.heap.size,0,none⟩)],.func (.func 70) #[] #[.pointer (some ⟨w.heap.size,0,none⟩)]] 123)) (some ⟨wr.heap.size,0,none⟩) 4 1 [.func (.func 66) #[] #[.pointer (some ⟨w.heap.size,0,none⟩)],.func (.func 67) #[] #[.pointer (some ⟨w.heap.size,0,none⟩),.pointer (some ⟨w.heap.size+1,0,none⟩)],.func (.func 69) #[] #[.pointer (some ⟨w.heap.size,0,none⟩)],.func (.func 70) #[] #[.pointer (some ⟨w.heap.size,0,none⟩)]]:=Rd.newRow wr 123 #[.func (.func 66) #[] #[.pointer (some ⟨w.heap.size,0,none⟩)],.func (.func 67) #[] #[.pointer (some ⟨w.heap.size,0,none⟩),.pointer (some ⟨w.heap.size+1,0,none⟩)],.func (.func 69) #[] #[.pointer (some ⟨w.heap.size,0,none⟩)],.func (.func 70) #[] #[.pointer (some ⟨w.heap.size,0,none⟩)]] 4 1 rfl
   have hofx:∀ q,w.heap.size≤q→¬ lgFoot l M d q:=fun q hq hf=>by
    rcases hf with hf | hf
    ·have:=HD.out.disk.lt hf;omega
    ·have:=HD.out.blk.lt;omega
   have HOF:=Lib.hid hofx
   have hA2:∀ a,(some ⟨wr.heap.size,0,none⟩:Option Addr)=some a→¬ lgFoot l M d a.block:=fun a ha=>(by cases ha;exact hofx _ HBE.out.size)
   have hAr:0 < bs.length→∀ a,A2=some a→¬ lgFoot l M d a.block:=crow_off HD.out HROW.out (by have:=HZ1.out;omega)
   have HFI:=Lib.hid (first4_any B l M d count m w.heap.size (w.heap.size+1) (some ⟨wr.heap.size,0,none⟩) 4 (fun d=>d.create S.newN) (fun d=>d.append S.newN bs) (fun d=>d.sync S.newN) (fun d=>d.rename S.newN S.logN) (wr.alloc (.cells #[.func (.func 66) #[] #[.pointer (some ⟨w.heap.size,0,none⟩)],.func (.func 67) #[] #[.pointer (some ⟨w.heap.size,0,none⟩),.pointer (some ⟨w.heap.size+1,0,none⟩)],.func (.func 69) #[] #[.pointer (some ⟨w.heap.size,0,none⟩)],.func (.func 70) #[] #[.pointer (some ⟨w.heap.size,0,none⟩)]] 123)) HD2.out HF.out
    (fun _ _ h=>h.create _) (fun _ _ h=>h.append _ _) (fun _ _ h=>h.sync _) (fun _ _ h=>h.rename _ _) hx2 hA2
    (fun M1 d1 u hl hw hm hf=>rw1_any B l M1 d1 count (m+0) w.heap.size u hl hf (by omega) (hw.blk HBX3.out (HOF.out _ (Nat.le_refl _))))
    (fun M1 d1 u hl hw hm hf=>rw2_any B l M1 d1 count (m+1) w.heap.size u (w.heap.size+1) A2 bs.length c2 bs hl hf (by omega) (hw.blk HBX3.out (HOF.out _ (Nat.le_refl _))) (hw.blk HBY3.out (HOF.out _ (Nat.le_succ _))) rfl hbn (hw.rd HR3.out.rd hAr) (went_off hw HR3.out.rd hAr))
    (fun M1 d1 u hl hw hm hf=>rw3_any B l M1 d1 count (m+2) w.heap.size u hl hf (by omega) (hw.blk HBX3.out (HOF.out _ (Nat.le_refl _))))
    (fun M1 d1 u hl hw hm hf=>rw4_any B l M1 d1 count (m+3) w.heap.size u hl hf (by omega) (hw.blk HBX3.out (HOF.out _ (Nat.le_refl _)))))
   clear hx2 hA2 hAr hofx hbe2 HROW HBX2 HBY2 HEN HEND HG HX HE HI
   go_wp2_with fail
   refine HFI.out.mono ?_
   rintro e w5 ⟨rfl,M5,hl5,hw5,hm5⟩
   have hmv:S.moves bs=[fun d=>d.create S.newN,fun d=>d.append S.newN bs,fun d=>d.sync S.newN,fun d=>d.rename S.newN S.logN]:=rfl
   have hft:=S.steps_fit (S.moves bs) (S.moves_fit bs) HF.out
   have hle:=S.steps_le (S.moves bs) d
   rw[hmv]at HG2 hft hle
   have HBX5:=Lib.hid (hw5.blk HBX3.out (HOF.out _ (Nat.le_refl _)))
   have HD5:=Lib.hid hl5
   have HW5:=Lib.hid (HW2.out.trans hw5)
   have HM5:=Lib.hid hm5
   have HFT:=Lib.hid hft
   clear hl5 hw5 hm5 hmv hft HFI HD2 HW2 HBX3 HBY3 HR3 HOF
   generalize S.steps d [fun d=>d.create S.newN,fun d=>d.append S.newN bs,fun d=>d.sync S.newN,fun d=>d.rename S.newN S.logN]=X5 at *
   obtain⟨d5,kk,e5⟩:=X5
   dsimp only at HG2 hle HD5 HW5 HFT ⊢
   simp only[List.length_cons,List.length_nil]at hle HFT
   have z0:=HBX5.out.cells1
   obtain⟨y0,y1⟩:=HD5.out.cells
   have HLN:=Lib.hid HL.out
   obtain rfl | rfl | rfl | rfl | rfl:kk=0∨kk=1∨kk=2∨kk=3∨kk=4:=by omega
   ·rw[if_neg (by decide),if_pos rfl]at HG2
    go_wp2
    go_ret
    exact⟨by rw[HG2.out]<;>rfl,M5,by rw[HG2.out];exact HD5.out,by rw[HG2.out];exact HW5.out,HM5.out⟩
   iterate 3
    ·rw[if_neg (by decide),if_neg (by decide)]at HG2
     have HRM:=Lib.hid (remove_any B M5 d5 S.newN w5 HD5.out.disk (HFT.out.sml (by omega)) log_small.2)
     go_wp2_with fail
     refine HRM.out.mono ?_
     rintro e w6 hr6
     obtain⟨rfl,M6,h6,hw6,hm6⟩:=RetStep.log HD5.out hr6
     have HD6:=Lib.hid h6
     have HW6:=Lib.hid (HW5.out.trans hw6)
     have HM6:=Lib.hid (hm6.trans HM5.out)
     clear hr6 h6 hw6 hm6 HRM y0 y1 z0
     go_wp2
     go_ret
     exact⟨by rw[HG2.out]<;>rfl,M6,by rw[HG2.out];exact HD6.out,by rw[HG2.out];exact HW6.out,HM6.out⟩
   ·rw[if_pos rfl]at HG2
    have f1:=HD5.out.blk.free 1
    obtain⟨hl6,hw6⟩:=HD5.out.counted n
    have HD6:=Lib.hid hl6
    have HW6:=Lib.hid (HW5.out.trans hw6)
    have HSY:=Lib.hid (syncNames_any B M5 d5 _ hl6.disk (HFT.out.sml (by omega)))
    have z6:(w5.setCell ⟨l,1,none⟩ (.int .i64 n)).cell? ⟨w.heap.size,0,none⟩=some (.pointer (some ⟨l,0,none⟩)):=(HBX5.out.far 1 (.int .i64 n) (by have:=HD.out.blk.lt;omega)).cells1
    obtain⟨x0,x1⟩:=hl6.cells
    clear hl6 hw6
    go_wp2_with fail
    refine HSY.out.mono ?_
    rintro e w7 hr7
    obtain⟨rfl,M7,h7,hw7,hm7⟩:=RetStep.log HD6.out hr7
    have HD7:=Lib.hid h7
    have HW7:=Lib.hid (HW6.out.trans hw7)
    have HM7:=Lib.hid (hm7.trans HM5.out)
    clear hr7 h7 hw7 hm7 HSY y0 y1 z0 z6 x0 x1 f1
    go_wp2
    go_ret
    exact⟨by rw[HG2.out]<;>rfl,M7,by rw[HG2.out,HLN.out];exact HD7.out,by rw[HG2.out];exact HW7.out,HM7.out⟩
end Go.Proofs.YtkempjcphpnocaaGreatDoor
