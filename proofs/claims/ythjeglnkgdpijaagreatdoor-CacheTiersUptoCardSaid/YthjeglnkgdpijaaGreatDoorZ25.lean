/- The walk of the log's Rewrite. The walks of slices.Contains at names, slices.Index at numbers' marks, and of the store's lay. The walks of the store's free and tidy. Conditions: as each theorem states them. -/
import Derived.Test.YthjeglnkgdpijaaGreatDoorZ24
set_option maxHeartbeats 4000000
set_option maxRecDepth 100000
namespace Go.Proofs.YthjeglnkgdpijaaGreatDoor
open Go Go.RowKit Go.Maps
theorem R.encAll_at {list:List R.Rc} {k:Nat} (h:k < list.length) (bs:List UInt8):R.bH (list.drop k) k bs=if R.code { list[k] with seq:=k }≠0 then ([],R.code { list[k] with seq:=k }) else R.bH (list.drop (k+1)) (k+1) (bs++R.enc { list[k] with seq:=k }):=by
 rw[List.drop_eq_getElem_cons h]
 rfl
theorem S.steps_le:∀ (ops:List (D.Dsk→D.Dsk × Int)) (d:D.Dsk),(S.steps d ops).2.1≤ops.length
 | [],_=>zA _
 | f::r,d=>by
  have:=S.steps_le r (f d).1
  unfold S.steps
  split
  ·exact zF _
  ·rw[List.length_cons]
   exact Nat.succ_le_succ this
theorem aCS (B l:Nat) (M:DM) (d:D.Dsk) (count m:Nat) (list:List R.Rc) (A:Option Addr) (n c:Nat) (w:World) (h:jM B l M d count w) (hf:D.Fit m d) (hm:m≤134217000)
  (hl:list.length=n) (hn:n≤524288) (hi:∀ r∈list,r.id.size≤1048576) (hx:Rd w A n 4 (dA list)) :
  Calls Tryz.prog 55 #[.pointer (some ⟨l,0,none⟩),.slice A n c] w (kU B l M d w (S.rewrite d count list)):=by
 have HD:=aH h
 have HF:=aH hf
 have HX:=aH hx
 have HL:=aH hl
 have HI:=aH hi
 have HE:=aH (fun (r:R.Rc) (u:World) (hr:r.id.size≤1048576)=>sF r u (by omega))
 obtain⟨G,hG⟩:∃ G,S.rewrite d count list=G:=⟨_,rfl⟩
 have HG:Hid (G=if (R.bH list 0 []).2≠0 then (d,count,(R.bH list 0 []).2)
  else if (S.steps d (S.moves (R.bH list 0 []).1)).2.1=4 then ((S.steps d (S.moves (R.bH list 0 []).1)).1.syncNames.1,list.length,(S.steps d (S.moves (R.bH list 0 []).1)).1.syncNames.2)
  else if (S.steps d (S.moves (R.bH list 0 []).1)).2.1=0 then ((S.steps d (S.moves (R.bH list 0 []).1)).1,count,(S.steps d (S.moves (R.bH list 0 []).1)).2.2)
  else (((S.steps d (S.moves (R.bH list 0 []).1)).1.remove S.dB).1,count,(S.steps d (S.moves (R.bH list 0 []).1)).2.2)):=aH hG.symm
 rw[hG]
 obtain⟨W1,hW1⟩:∃ W1,(w.alloc (.cells #[.pointer (some ⟨l,0,none⟩)] 102)).alloc (.cells #[.slice none 0 0] 39)=W1:=⟨_,rfl⟩
 have hz1:W1.heap.size=w.heap.size+2:=by rw[← hW1];simp
 have hb1:Below w.heap.size w W1:=by rw[← hW1];exact ((zB _ _).alloc (zA _) _).alloc (by simp) _
 have hbx:Blk W1 w.heap.size #[.pointer (some ⟨l,0,none⟩)] 102:=by rw[← hW1];exact (Blk.new w _ _).alloc _
 have hby:Blk W1 (w.heap.size+1) #[.slice none 0 0] 39:=by
  rw[← hW1]
  have:=Blk.new (w.alloc (.cells #[.pointer (some ⟨l,0,none⟩)] 102)) #[.slice none 0 0] 39
  simpa using this
 have HB1:=aH hb1
 have HBX:=aH hbx
 have HBY:=aH hby
 clear h hf hx hl hi hG hb1 hbx hby
 go_enter Tryz.func55,Tryz.ntmps55
 go_upto_region 3 with fail
 obtain⟨ENC,hENC⟩:∃ ENC,R.bH list 0 []=ENC:=⟨_,rfl⟩
 have HENC:=aH hENC
 have HZ1:=aH hz1
 clear hW1 hz1
 rw[hENC]at HG
 clear hENC
 go_loopw [14] (fun i wr=>∃ (k:Nat) (A2:Option Addr) (c2:Nat) (bs:List UInt8),k≤n∧i=.int .i64 k∧R.bH (list.drop k) k bs=ENC∧bs.length≤k * 2097152∧bQ wr W1.heap.size A2 bs.length c2 bs∧Blk wr w.heap.size #[.pointer (some ⟨l,0,none⟩)] 102∧Blk wr (w.heap.size+1) #[.slice A2 bs.length c2] 39∧Below w.heap.size w wr∧W1.heap.size≤wr.heap.size) (fun i _=>n - (intOf i).toNat)
 case atStart=>exact⟨0,none,0,[],zF _,rfl,HENC.out,zF _,bQ.none_ _ _,HBX.out,HBY.out,HB1.out,zA _⟩
 case round =>
  obtain⟨k,A2,c2,bs,hk,rfl,henc,hbl,hrow,hbx,hby,hbe,hze⟩:=hrel
  have HEN:=aH henc
  have HROW:=aH hrow
  have HBX2:=aH hbx
  have HBY2:=aH hby
  have HBE:=aH hbe
  have HZE:=aH hze
  clear henc hrow hbx hby hbe hze HBX HBY HB1 HENC
  by_cases hlt:k < n
  ·have hkl:k < list.length:=by rw[HL.out];exact hlt
   obtain⟨b,o,rfl,hblt,x0,x1,x2,x3⟩:=aOC (HX.out.below HBE.out) hlt HL.out
   have HST:Hid (ENC=_):=aH (HEN.out.symm.trans (R.encAll_at hkl bs))
   have hisz:=HI.out _ (List.getElem_mem hkl)
   generalize list[k]'hkl=r at *
   have HE1:=aH (fun u=>HE.out { r with seq:=(k:Int) } u hisz)
   dsimp only at HE1
   have hln:=aBT { r with seq:=(k:Int) } (bD hisz (by decide))
   clear hkl hblt HEN
   go_wp2_with fail
   clear x0 x1 x2 x3
   refine (HE1.out _).mono ?_
   rintro e w2 ⟨A3,c3,rfl,hr3,hb3⟩
   have hb4:Below wr.heap.size wr w2:=aA (by rw[bJ];omega) ((zB _ _).alloc (zA _) _) hb3
   have HBX3:=aH (HBX2.out.below hb4)
   have HBY3:=aH (HBY2.out.below hb4)
   have HROW3:=aH (HROW.out.below hb4)
   have HB3:=aH (aA HBE.out.size HBE.out hb4)
   have HZ3:Hid (W1.heap.size≤w2.heap.size):=aH (bD HZE.out hb4.size)
   have HR3:=aH hr3.rd
   clear hr3 hb3 hb4 HE1 HBX2 HBY2 HROW HBE HZE
   by_cases hcd:R.code { r with seq:=(k:Int) }=0
   rotate_left
   ·have hcb:(R.code { r with seq:=(k:Int) } != 0)=true:=by simpa using hcd
    have HEND:Hid (ENC=([],R.code { r with seq:=(k:Int) })):=aH (by rw[HST.out,if_pos hcd])
    have HGE:Hid (G=(d,count,R.code { r with seq:=(k:Int) })):=aH (by rw[HG.out,HEND.out,if_pos hcd])
    clear HST HG HEND hcd
    generalize R.code { r with seq:=(k:Int) }=code at *
    go_wp2
    go_ret
    exact⟨by rw[HGE.out]<;>rfl,M,by rw[HGE.out];exact HD.out.below HB3.out,by rw[HGE.out];exact aO.below HB3.out _,rfl⟩
   have HST2:Hid (ENC=R.bH (list.drop (k+1)) (k+1) (bs++R.enc { r with seq:=(k:Int) })):=aH (by rw[HST.out,if_neg (by simpa using hcd)])
   have hln2:(R.enc { r with seq:=(k:Int) }).length≤2097152:=by rw[R.zG _ hcd];show r.id.size+15≤_;omega
   rw[hcd]
   clear HST hcd hln
   generalize R.enc { r with seq:=(k:Int) }=new at *
   have y0:=HBY3.out.cells1
   have hbn:bs.length+new.length≤(k+1) * 2097152:=by omega
   go_wp2_with (at_builtin;refine appC _ rfl _ _ rfl W1.heap.size A2 bs.length c2 bs rfl HROW3.out A3 new.length c3 new rfl HR3.out (by omega) HZ3.out ?_;intro A4 c4 w3 hr4 ha4;have hne4:∀ q,ownB A2 c2=some q→q≠w.heap.size+1:=fun q hq=>(by have:=(HROW3.out.lt q hq).1;have:=HZ1.out;omega);have hby4:=HBY3.out.app ha4 hne4;have z1:=hby4.cells1;have f1:=hby4.free 0;have HR4:=aH hr4;have HA4:=aH ha4;have HBY4:=aH hby4;clear hr4 ha4 hby4 hne4)
   have hg5:=aT w3 (w.heap.size+1) 0 (.slice A4 (bs.length+new.length:Nat) c4)
   have hw5:aO (fun q=>q=w.heap.size+1) w3 (fun q=>q=w.heap.size+1) (w3.setCell ⟨w.heap.size+1,0,none⟩ (.slice A4 (bs.length+new.length:Nat) c4)):=aO.grown hg5 (fun q e=>(by simpa using e.symm)) (fun q h=>.inl h)
   have hb4:=HA4.out.belowC HROW3.out HZ3.out
   have hzb:w.heap.size+2=W1.heap.size:=HZ1.out.symm
   have HB5:=aH (aJ (HB3.out.trans (hb4.mono (by omega))) (b:=w.heap.size+1) (by omega) 0 (.slice A4 (bs.length+new.length:Nat) c4))
   have HZ5:Hid (W1.heap.size≤(w3.setCell ⟨w.heap.size+1,0,none⟩ (.slice A4 (bs.length+new.length:Nat) c4)).heap.size):=aH (by rw[World.size_setCell];exact bD HZ3.out hb4.size)
   have HBX5:=aH (hw5.blk (HBX3.out.under hb4 (by omega)) (by omega))
   have HBY5:=aH (HBY4.out.set 0 (.slice A4 (bs.length+new.length:Nat) c4))
   have HR5:=aH (hw5.crow HR4.out (fun q hq e=>by have:=(HR4.out.lt q hq).1;omega))
   have hl5:(bs++new).length=bs.length+new.length:=bC
   clear hg5 hw5 hb4 HB3 HZ3 HBX3 HBY3 HROW3 HR3 HR4 HA4 HBY4 y0 hzb
   go_wp2
   go_roundw
   case rel=>exact⟨k+1,A4,c4,bs++new,by omega,by go_num,HST2.out.symm,by rw[hl5];omega,by rw[hl5];exact HR5.out,HBX5.out,by rw[hl5];exact HBY5.out,HB5.out,HZ5.out⟩
   case measure=>simp [intOf];omega
  ·have hkn:k=n:=by omega
   have HEND:Hid (ENC=(bs,0)):=aH (by
    rw[← HEN.out,List.drop_eq_nil_of_le (by have:=HL.out;omega)]
    rfl)
   have HG2:Hid (G=if (S.steps d (S.moves bs)).2.1=4 then ((S.steps d (S.moves bs)).1.syncNames.1,list.length,(S.steps d (S.moves bs)).1.syncNames.2)
    else if (S.steps d (S.moves bs)).2.1=0 then ((S.steps d (S.moves bs)).1,count,(S.steps d (S.moves bs)).2.2)
    else (((S.steps d (S.moves bs)).1.remove S.dB).1,count,(S.steps d (S.moves bs)).2.2)):=aH (by rw[HG.out,HEND.out,if_neg (by simp)])
   have hbn:bs.length≤1099511627776:=by omega
   have hbe2:Below w.heap.size w (wr.alloc (.cells #[.func (.func 103) #[] #[.pointer (some ⟨w.heap.size,0,none⟩)],.func (.func 104) #[] #[.pointer (some ⟨w.heap.size,0,none⟩),.pointer (some ⟨w.heap.size+1,0,none⟩)],.func (.func 106) #[] #[.pointer (some ⟨w.heap.size,0,none⟩)],.func (.func 107) #[] #[.pointer (some ⟨w.heap.size,0,none⟩)]] 157)):=HBE.out.alloc HBE.out.size _
   have HD2:=aH (HD.out.below hbe2)
   have HW2:Hid (aO (aX l M d) w (aX l M d) (wr.alloc (.cells #[.func (.func 103) #[] #[.pointer (some ⟨w.heap.size,0,none⟩)],.func (.func 104) #[] #[.pointer (some ⟨w.heap.size,0,none⟩),.pointer (some ⟨w.heap.size+1,0,none⟩)],.func (.func 106) #[] #[.pointer (some ⟨w.heap.size,0,none⟩)],.func (.func 107) #[] #[.pointer (some ⟨w.heap.size,0,none⟩)]] 157))):=aH (aO.below hbe2 _)
   have HBX3:=aH (HBX2.out.alloc (.cells #[.func (.func 103) #[] #[.pointer (some ⟨w.heap.size,0,none⟩)],.func (.func 104) #[] #[.pointer (some ⟨w.heap.size,0,none⟩),.pointer (some ⟨w.heap.size+1,0,none⟩)],.func (.func 106) #[] #[.pointer (some ⟨w.heap.size,0,none⟩)],.func (.func 107) #[] #[.pointer (some ⟨w.heap.size,0,none⟩)]] 157))
   have HBY3:=aH (HBY2.out.alloc (.cells #[.func (.func 103) #[] #[.pointer (some ⟨w.heap.size,0,none⟩)],.func (.func 104) #[] #[.pointer (some ⟨w.heap.size,0,none⟩),.pointer (some ⟨w.heap.size+1,0,none⟩)],.func (.func 106) #[] #[.pointer (some ⟨w.heap.size,0,none⟩)],.func (.func 107) #[] #[.pointer (some ⟨w.heap.size,0,none⟩)]] 157))
   have HR3:=aH ((HROW.out.alloc (.cells #[.func (.func 103) #[] #[.pointer (some ⟨w.heap.size,0,none⟩)],.func (.func 104) #[] #[.pointer (some ⟨w.heap.size,0,none⟩),.pointer (some ⟨w.heap.size+1,0,none⟩)],.func (.func 106) #[] #[.pointer (some ⟨w.heap.size,0,none⟩)],.func (.func 107) #[] #[.pointer (some ⟨w.heap.size,0,none⟩)]] 157)))
   have hx2:Rd (wr.alloc (.cells #[.func (.func 103) #[] #[.pointer (some ⟨w.heap.size,0,none⟩)],.func (.func 104) #[] #[.pointer (some ⟨w.heap.size,0,none⟩),.pointer (some ⟨w.heap.size+1,0,none⟩)],.func (.func 106) #[] #[.pointer (some ⟨w.heap.size,0,none⟩)],.func (.func 107) #[] #[.pointer (some ⟨w.heap.size,0,none⟩)]] 157)) (some ⟨wr.heap.size,0,none⟩) 4 1 [.func (.func 103) #[] #[.pointer (some ⟨w.heap.size,0,none⟩)],.func (.func 104) #[] #[.pointer (some ⟨w.heap.size,0,none⟩),.pointer (some ⟨w.heap.size+1,0,none⟩)],.func (.func 106) #[] #[.pointer (some ⟨w.heap.size,0,none⟩)],.func (.func 107) #[] #[.pointer (some ⟨w.heap.size,0,none⟩)]]:=Rd.newRow wr 157 #[.func (.func 103) #[] #[.pointer (some ⟨w.heap.size,0,none⟩)],.func (.func 104) #[] #[.pointer (some ⟨w.heap.size,0,none⟩),.pointer (some ⟨w.heap.size+1,0,none⟩)],.func (.func 106) #[] #[.pointer (some ⟨w.heap.size,0,none⟩)],.func (.func 107) #[] #[.pointer (some ⟨w.heap.size,0,none⟩)]] 4 1 rfl
   have hofx:∀ q,w.heap.size≤q→¬ aX l M d q:=fun q hq hf=>by
    rcases hf with hf | hf
    ·have:=HD.out.disk.lt hf;omega
    ·have:=HD.out.blk.lt;omega
   have HOF:=aH hofx
   have hA2:∀ a,(some ⟨wr.heap.size,0,none⟩:Option Addr)=some a→¬ aX l M d a.block:=fun a ha=>(by cases ha;exact hofx _ HBE.out.size)
   have hAr:0 < bs.length→∀ a,A2=some a→¬ aX l M d a.block:=aE0 HD.out HROW.out (by have:=HZ1.out;omega)
   have HFI:=aH (aGS B l M d count m w.heap.size (w.heap.size+1) (some ⟨wr.heap.size,0,none⟩) 4 (fun d=>d.create S.dB) (fun d=>d.append S.dB bs) (fun d=>d.sync S.dB) (fun d=>d.rename S.dB S.bM) (wr.alloc (.cells #[.func (.func 103) #[] #[.pointer (some ⟨w.heap.size,0,none⟩)],.func (.func 104) #[] #[.pointer (some ⟨w.heap.size,0,none⟩),.pointer (some ⟨w.heap.size+1,0,none⟩)],.func (.func 106) #[] #[.pointer (some ⟨w.heap.size,0,none⟩)],.func (.func 107) #[] #[.pointer (some ⟨w.heap.size,0,none⟩)]] 157)) HD2.out HF.out
    (fun _ _ h=>h.create _) (fun _ _ h=>h.append _ _) (fun _ _ h=>h.sync _) (fun _ _ h=>h.rename _ _) hx2 hA2
    (fun M1 d1 u hl hw hm hf=>aN7 B l M1 d1 count (m+0) w.heap.size u hl hf (by omega) (hw.blk HBX3.out (HOF.out _ (zA _))))
    (fun M1 d1 u hl hw hm hf=>aN6 B l M1 d1 count (m+1) w.heap.size u (w.heap.size+1) A2 bs.length c2 bs hl hf (by omega) (hw.blk HBX3.out (HOF.out _ (zA _))) (hw.blk HBY3.out (HOF.out _ (Nat.le_succ _))) rfl hbn (hw.rd HR3.out.rd hAr) (lJ hw HR3.out.rd hAr))
    (fun M1 d1 u hl hw hm hf=>aN5 B l M1 d1 count (m+2) w.heap.size u hl hf (by omega) (hw.blk HBX3.out (HOF.out _ (zA _))))
    (fun M1 d1 u hl hw hm hf=>aN4 B l M1 d1 count (m+3) w.heap.size u hl hf (by omega) (hw.blk HBX3.out (HOF.out _ (zA _)))))
   clear hx2 hA2 hAr hofx hbe2 HROW HBX2 HBY2 HEN HEND HG HX HE HI
   go_wp2_with fail
   refine HFI.out.mono ?_
   rintro e w5 ⟨rfl,M5,hl5,hw5,hm5⟩
   have hmv:S.moves bs=[fun d=>d.create S.dB,fun d=>d.append S.dB bs,fun d=>d.sync S.dB,fun d=>d.rename S.dB S.bM]:=rfl
   have hft:=S.iE (S.moves bs) (S.aBB bs) HF.out
   have hle:=S.steps_le (S.moves bs) d
   rw[hmv]at HG2 hft hle
   have HBX5:=aH (hw5.blk HBX3.out (HOF.out _ (zA _)))
   have HD5:=aH hl5
   have HW5:=aH (HW2.out.trans hw5)
   have HM5:=aH hm5
   have HFT:=aH hft
   clear hl5 hw5 hm5 hmv hft HFI HD2 HW2 HBX3 HBY3 HR3 HOF
   generalize S.steps d [fun d=>d.create S.dB,fun d=>d.append S.dB bs,fun d=>d.sync S.dB,fun d=>d.rename S.dB S.bM]=X5 at *
   obtain⟨d5,kk,e5⟩:=X5
   dsimp only at HG2 hle HD5 HW5 HFT ⊢
   simp only[List.length_cons,List.length_nil]at hle HFT
   have z0:=HBX5.out.cells1
   obtain⟨y0,y1⟩:=HD5.out.cells
   have HLN:=aH HL.out
   obtain rfl | rfl | rfl | rfl | rfl:kk=0∨kk=1∨kk=2∨kk=3∨kk=4:=by omega
   ·rw[if_neg (by decide),if_pos rfl]at HG2
    go_wp2
    go_ret
    exact⟨by rw[HG2.out]<;>rfl,M5,by rw[HG2.out];exact HD5.out,by rw[HG2.out];exact HW5.out,HM5.out⟩
   iterate 3
    ·rw[if_neg (by decide),if_neg (by decide)]at HG2
     have HRM:=aH (kC B M5 d5 S.dB w5 HD5.out.disk (HFT.out.sml (by omega)) dH.2)
     go_wp2_with fail
     refine HRM.out.mono ?_
     rintro e w6 hr6
     obtain⟨rfl,M6,h6,hw6,hm6⟩:=aY.log HD5.out hr6
     have HD6:=aH h6
     have HW6:=aH (HW5.out.trans hw6)
     have HM6:=aH (hm6.trans HM5.out)
     clear hr6 h6 hw6 hm6 HRM y0 y1 z0
     go_wp2
     go_ret
     exact⟨by rw[HG2.out]<;>rfl,M6,by rw[HG2.out];exact HD6.out,by rw[HG2.out];exact HW6.out,HM6.out⟩
   ·rw[if_pos rfl]at HG2
    have f1:=HD5.out.blk.free 1
    obtain⟨hl6,hw6⟩:=HD5.out.counted n
    have HD6:=aH hl6
    have HW6:=aH (HW5.out.trans hw6)
    have HSY:=aH (iQ B M5 d5 _ hl6.disk (HFT.out.sml (by omega)))
    have z6:(w5.setCell ⟨l,1,none⟩ (.int .i64 n)).cell? ⟨w.heap.size,0,none⟩=some (.pointer (some ⟨l,0,none⟩)):=(HBX5.out.far 1 (.int .i64 n) (by have:=HD.out.blk.lt;omega)).cells1
    obtain⟨x0,x1⟩:=hl6.cells
    clear hl6 hw6
    go_wp2_with fail
    refine HSY.out.mono ?_
    rintro e w7 hr7
    obtain⟨rfl,M7,h7,hw7,hm7⟩:=aY.log HD6.out hr7
    have HD7:=aH h7
    have HW7:=aH (HW6.out.trans hw7)
    have HM7:=aH (hm7.trans HM5.out)
    clear hr7 h7 hw7 hm7 HSY y0 y1 z0 z6 x0 x1 f1
    go_wp2
    go_ret
    exact⟨by rw[HG2.out]<;>rfl,M7,by rw[HG2.out,HLN.out];exact HD7.out,by rw[HG2.out];exact HW7.out,HM7.out⟩
theorem tY (A:Option Addr) (n c:Nat) (ns:List ByteArray) (x:ByteArray) (w:World) (hl:ns.length=n) (hn:n≤1099511627776) (hx:Rd w A n 1 (aC ns)) :
  Calls Tryz.prog 67 #[.slice A n c,.string x] w (uY w (.bool (S.has ns x))):=by
 subst hl
 by_cases h0:ns.length=0
 ·have hns:ns=[]:=List.eq_nil_of_length_eq_zero h0
  subst hns
  exact (Tryz.slices_Contains_string_empty A c x w).mono fun e w' ⟨h1,h2⟩=>⟨h1,h2.symm⟩
 ·obtain⟨b,o,rfl,_,hc⟩:=hx.2 (by omega)
  refine (Tryz.slices_Contains_string b o ns.length c ns x w (zA _) (by omega) (fun j hj=>?_)).mono fun e w' ⟨h1,h2⟩=>⟨?_,h2.symm⟩
  ·refine hc j _ ?_
   unfold aC
   rw[List.getElem?_map,List.getElem?_eq_getElem hj]
   simp [List.getD,hj]
  ·rw[h1,List.take_length]
   congr 2
   rw[Bool.eq_iff_iff,Lib.containsS_iff,S.has_iff]
def S.idxF (bl:List Bool):Int:=match bl.findIdx? (fun x=>decide (x=false)) with | some k=>(k:Int) | none=>-1
theorem S.idxF_some {bl:List Bool} {k:Nat} (h:bl.findIdx? (fun x=>decide (x=false))=some k):S.idxF bl=k:=by unfold S.idxF;rw[h]
theorem S.idxF_none {bl:List Bool} (h:bl.findIdx? (fun x=>decide (x=false))=none):S.idxF bl=-1:=by unfold S.idxF;rw[h]
theorem aGF (A:Option Addr) (n c:Nat) (bl:List Bool) (w:World) (hn:n≤1099511627776) (hl:bl.length=n) (hx:Rd w A n 1 (S.bools bl)) :
  Calls Tryz.prog 73 #[.slice A n c,.bool false] w (uY w (.int .i64 (S.idxF bl))):=by
 have HX:=aH hx
 have HL:=aH hl
 obtain⟨G,hG⟩:∃ G:Int,S.idxF bl=G:=⟨_,rfl⟩
 have HG:=aH hG
 rw[hG]
 clear hx hl hG
 go_enter Tryz.func73,Tryz.ntmps73
 go_wp2
 go_loopw [8] (fun i wr=>∃ k:Nat,k≤n∧i=.int .i64 k∧wr=w∧∀ j,j < k→∀ h:j < bl.length,bl[j]=true) (fun i _=>n - (intOf i).toNat)
 case atStart=>exact⟨0,zF _,rfl,rfl,fun j hj=>absurd hj (Nat.not_lt_zero _)⟩
 case round =>
  obtain⟨k,hk,rfl,rfl,hno⟩:=hrel
  have HNO:=aH hno
  clear hno
  by_cases hlt:k < n
  ·obtain⟨b,o,u,rfl,hb,hu,hc⟩:=HX.out.at1 hlt
   have hkl:k < bl.length:=by rw[HL.out];exact hlt
   have hu2:u=.bool (bl[k]'hkl):=by
    unfold S.bools at hu
    rw[List.getElem?_map,List.getElem?_eq_getElem hkl]at hu
    exact (Option.some.inj hu).symm
   subst hu2
   have HK:=aH (rfl:bl[k]'hkl=bl[k]'hkl)
   cases hv:bl[k]'hkl
   ·rw[hv]at hc
    have HF:Hid (bl.findIdx? (fun x=>decide (x=false))=some k):=aH (by
     rw[List.findIdx?_eq_some_iff_getElem]
     exact⟨hkl,by rw[hv];rfl,fun j hj=>by rw[HNO.out j hj (by omega)];decide⟩)
    clear hu hv
    go_wp2
    go_ret
    exact⟨by rw[← HG.out,S.idxF_some HF.out]<;>rfl,rfl⟩
   ·rw[hv]at hc
    have HV:=aH hv
    clear hu hv
    go_wp2
    go_roundw
    case rel=>exact⟨k+1,by omega,by go_num,trivial,fun j hj h=>by
     rcases Nat.lt_succ_iff_lt_or_eq.1 hj with h1 | h1
     ·exact HNO.out j h1 h
     ·subst h1;exact HV.out⟩
    case measure=>simp [intOf];omega
  ·have hkn:k=n:=by omega
   have HF:Hid (bl.findIdx? (fun x=>decide (x=false))=none):=aH (by
    rw[List.findIdx?_eq_none_iff]
    intro x hx2
    obtain⟨j,hj,rfl⟩:=List.getElem_of_mem hx2
    rw[HNO.out j (by have:=HL.out;omega) hj]
    decide)
   clear hkn HNO
   go_wp2
   go_ret
   exact⟨by rw[← HG.out,S.idxF_none HF.out]<;>rfl,rfl⟩
def aQX (B:Nat) (X:SM) (s:S.Sto) (w:World) (x:D.Dsk × Bool × Int) (e:Ending) (w':World):Prop :=
 e=.returned (.tuple #[.bool x.2.1,.int .i64 x.2.2])∧∃ M',dU B { X with M:=M' } { s with d:=x.1 } w'∧aO (X.foot s) w (({ X with M:=M' }:SM).foot { s with d:=x.1 }) w'∧M'.d=X.M.d
theorem aY.sto {B:Nat} {X:SM} {s:S.Sto} {w:World} {x:D.Dsk × Int} {e:Ending} {w':World} (h:dU B X s w) (hr:aY B X.M s.d w x e w') :
  e=.returned (.int .i64 x.2)∧∃ M',dU B { X with M:=M' } { s with d:=x.1 } w'∧aO (X.foot s) w (({ X with M:=M' }:SM).foot { s with d:=x.1 }) w'∧M'.d=X.M.d:=by
 obtain⟨he,M',hd,hs⟩:=hr
 obtain⟨h1,h2⟩:=h.step hd hs
 exact⟨he,M',h1,h2,hs.same⟩
theorem aK3 (B:Nat) (X:SM) (s:S.Sto) (m:Nat) (p:ByteArray) (A:Option Addr) (n c:Nat) (bs:List UInt8) (w:World) (h:dU B X s w) (hf:D.Fit m s.d) (hm:m≤134217000) (hp:p.size≤1099511627776) (hl:bs.length=n) (hn:n≤1099511627776) (hx:Rd w A n 1 (aB bs)) (hA:0 < n→∀ a,A=some a→¬ X.foot s a.block) :
  Calls Tryz.prog 74 #[.pointer (some ⟨X.st,0,none⟩),.string p,.slice A n c] w (aQX B X s w (S.lay s.d p bs)):=by
 have HD:=aH h
 have HX:=aH hx
 have HA:=aH hA
 have HF:=aH hf
 have HLI:=aH (uC B X.M s.d w h.log.disk hf.ok (by have:=hf.now;omega))
 have HHN:=aH (fun (A:Option Addr) (c:Nat) (u:World) (hr:Rd u A s.d.list.length 1 (aC s.d.list))=>tY A s.d.list.length c s.d.list p u rfl (by
  have:=hf.now
  unfold D.Dsk.list
  split
  ·exact zF _
  ·rw[List.length_map];omega) hr)
 obtain⟨y0,y1,y2,y3⟩:=h.cells
 obtain⟨x,hxx⟩:∃ x,x=if S.has s.d.list p then s.d.remove p else (s.d,0):=⟨_,rfl⟩
 obtain⟨G,hG⟩:∃ G,S.lay s.d p bs=G:=⟨_,rfl⟩
 have HG:Hid (G=if x.2≠0 then (x.1,false,x.2) else if (x.1.create p).2≠0 then ((x.1.create p).1,false,(x.1.create p).2)
  else if ((x.1.create p).1.append p bs).2≠0 then (((x.1.create p).1.append p bs).1,true,((x.1.create p).1.append p bs).2)
  else if (((x.1.create p).1.append p bs).1.sync p).2≠0 then ((((x.1.create p).1.append p bs).1.sync p).1,true,(((x.1.create p).1.append p bs).1.sync p).2)
  else ((((x.1.create p).1.append p bs).1.sync p).1.syncNames.1,true,(((x.1.create p).1.append p bs).1.sync p).1.syncNames.2)):=aH (by rw[← hG,hxx];rfl)
 have HXX:=aH hxx
 have hfx:D.Fit (m+1) x.1:=by
  rw[hxx]
  split
  ·exact hf.remove _
  ·exact hf.mono (by omega)
 have HFX:=aH hfx
 rw[hG]
 clear h hx hA hf y1 y2 y3 hxx hG hfx
 go_enter Tryz.func74,Tryz.ntmps74
 go_wp2_with fail
 refine HLI.out.mono ?_
 rintro e w1 ⟨A1,c1,rfl,hr1,hb1⟩
 have HD1:=aH (HD.out.below hb1)
 have HB1:=aH hb1
 have HHN1:=aH (HHN.out A1 c1 w1 hr1.rd)
 clear hr1 hb1 HLI HHN HD y0
 obtain⟨y0,y1,y2,y3⟩:=HD1.out.cells
 clear y1 y2 y3
 go_wp2_with fail
 refine HHN1.out.mono ?_
 rintro e w2 ⟨rfl,rfl⟩
 clear HHN1
 go_upto_if 18 with fail
 go_cut [] (fun wx=>x.2=0∧∃ M',dU B { X with M:=M' } { s with d:=x.1 } wx∧aO (X.foot s) w (({ X with M:=M' }:SM).foot { s with d:=x.1 }) wx∧M'.d=X.M.d)
 case first =>
  cases hh:S.has s.d.list p
  ·have HX0:Hid (x=(s.d,0)):=aH (by rw[HXX.out,hh];rfl)
   go_wp2
   go_meet
   exact⟨by rw[HX0.out],X.M,by rw[HX0.out];exact HD1.out,by rw[HX0.out];exact aO.below HB1.out _,rfl⟩
  ·have HX0:Hid (x=s.d.remove p):=aH (by rw[HXX.out,hh];rfl)
   have HRM:=aH (kC B X.M s.d p w1 HD1.out.log.disk (HF.out.sml (by omega)) hp)
   rw[← HX0.out]at HRM
   go_wp2_with fail
   refine HRM.out.mono ?_
   rintro e w3 hr3
   obtain⟨rfl,M3,h3,hw3,hm3⟩:=aY.sto HD1.out hr3
   have HD3:=aH h3
   have HW3:=aH ((aO.below HB1.out (X.foot s)).trans hw3)
   clear hr3 h3 hw3 HRM y0
   by_cases h0:x.2=0
   ·have h0b:(x.2 != 0)=false:=by rw[h0];rfl
    go_wp2
    go_meet
    exact⟨h0,M3,HD3.out,HW3.out,hm3⟩
   ·have h0b:(x.2 != 0)=true:=by simpa using h0
    rw[if_pos h0]at HG
    go_wp2
    go_ret2
    exact⟨by rw[HG.out]<;>rfl,M3,by rw[HG.out];exact HD3.out,by rw[HG.out];exact HW3.out,hm3⟩
 case rest =>
  obtain⟨hx0,M2,hd2,hw2,hm2⟩:=hcut
  have HD2:=aH hd2
  have HW2:=aH hw2
  have HM2:=aH hm2
  rw[if_neg (by rw[hx0];decide)]at HG
  obtain⟨d2,hd2e⟩:∃ d2,d2=x.1:=⟨_,rfl⟩
  rw[← hd2e]at HD2 HW2 HG HFX
  clear hd2 hw2 hm2 hx0 hd2e HXX HD1 HB1 y0
  obtain⟨w2,rfl⟩:∃ w2:World,w2=wc:=⟨_,rfl⟩
  have HF2:=HFX
  have HO2:=aH (lJ HW2.out HX.out HA.out)
  obtain⟨Y3,hY3⟩:∃ Y,d2.create p=Y:=⟨_,rfl⟩
  have HC3:=aH (oH B M2 d2 p w2 HD2.out.log.disk (HF2.out.sml (by omega)) HF2.out.ok hp)
  have HFa3:=aH (HF2.out.create p)
  rw[hY3]at HC3 HG HFa3
  obtain⟨d3,e3⟩:=Y3
  dsimp only at HG HFa3
  obtain⟨y0,y1,y2,y3⟩:=HD2.out.cells
  dsimp only at y0
  clear y1 y2 y3 hY3
  go_wp2_with fail
  refine HC3.out.mono ?_
  rintro e w3 hr3
  obtain⟨rfl,M3,h3,hw3,hm3⟩:=aY.sto HD2.out hr3
  have HD3:Hid (dU B { X with M:=M3 } { s with d:=d3 } w3):=aH h3
  have HW3:Hid (aO (X.foot s) w (({ X with M:=M3 }:SM).foot { s with d:=d3 }) w3):=aH (HW2.out.trans hw3)
  have HM3:Hid (M3.d=X.M.d):=aH (hm3.trans HM2.out)
  have HF3:=HFa3
  have HO3:=aH (lJ HW3.out HX.out HA.out)
  clear hr3 h3 hw3 hm3 HC3 HFa3 y0 HD2 HW2 HF2 HO2
  dsimp only
  by_cases h0:e3=0
  rotate_left
  ·have h0b:(e3 != 0)=true:=by simpa using h0
   rw[if_pos h0]at HG
   go_wp2
   go_ret2
   exact⟨by rw[HG.out]<;>rfl,M3,by rw[HG.out];exact HD3.out,by rw[HG.out];exact HW3.out,HM3.out⟩
  subst h0
  rw[if_neg (by simp)]at HG
  obtain⟨Y4,hY4⟩:∃ Y,d3.append p bs=Y:=⟨_,rfl⟩
  have HC4:=aH (oP B M3 d3 p A n c bs w3 HD3.out.log.disk (HF3.out.sml (by omega)) HF3.out.ok (HF3.out.used (by omega)) (Fit.roomy HF3.out) hp hl hn (HW3.out.rd HX.out HA.out) (fun hn0 a ha hfo=>HO3.out hn0 a ha (.inl hfo)))
  have HFa4:=aH (HF3.out.append p bs)
  rw[hY4]at HC4 HG HFa4
  obtain⟨d4,e4⟩:=Y4
  dsimp only at HG HFa4
  obtain⟨y0,y1,y2,y3⟩:=HD3.out.cells
  dsimp only at y0
  clear y1 y2 y3 hY4
  go_wp2_with fail
  refine HC4.out.mono ?_
  rintro e w4 hr4
  obtain⟨rfl,M4,h4,hw4,hm4⟩:=aY.sto HD3.out hr4
  have HD4:Hid (dU B { X with M:=M4 } { s with d:=d4 } w4):=aH h4
  have HW4:Hid (aO (X.foot s) w (({ X with M:=M4 }:SM).foot { s with d:=d4 }) w4):=aH (HW3.out.trans hw4)
  have HM4:Hid (M4.d=X.M.d):=aH (hm4.trans HM3.out)
  have HF4:=HFa4
  have HO4:=aH (lJ HW4.out HX.out HA.out)
  clear hr4 h4 hw4 hm4 HC4 HFa4 y0 HD3 HW3 HF3 HO3
  dsimp only
  by_cases h0:e4=0
  rotate_left
  ·have h0b:(e4 != 0)=true:=by simpa using h0
   rw[if_pos h0]at HG
   go_wp2
   go_ret2
   exact⟨by rw[HG.out]<;>rfl,M4,by rw[HG.out];exact HD4.out,by rw[HG.out];exact HW4.out,HM4.out⟩
  subst h0
  rw[if_neg (by simp)]at HG
  obtain⟨Y5,hY5⟩:∃ Y,d4.sync p=Y:=⟨_,rfl⟩
  have HC5:=aH (lN B M4 d4 p w4 HD4.out.log.disk (HF4.out.sml (by omega)) HF4.out.ok hp)
  have HFa5:=aH (HF4.out.sync p)
  rw[hY5]at HC5 HG HFa5
  obtain⟨d5,e5⟩:=Y5
  dsimp only at HG HFa5
  obtain⟨y0,y1,y2,y3⟩:=HD4.out.cells
  dsimp only at y0
  clear y1 y2 y3 hY5
  go_wp2_with fail
  refine HC5.out.mono ?_
  rintro e w5 hr5
  obtain⟨rfl,M5,h5,hw5,hm5⟩:=aY.sto HD4.out hr5
  have HD5:Hid (dU B { X with M:=M5 } { s with d:=d5 } w5):=aH h5
  have HW5:Hid (aO (X.foot s) w (({ X with M:=M5 }:SM).foot { s with d:=d5 }) w5):=aH (HW4.out.trans hw5)
  have HM5:Hid (M5.d=X.M.d):=aH (hm5.trans HM4.out)
  have HF5:=HFa5
  have HO5:=aH (lJ HW5.out HX.out HA.out)
  clear hr5 h5 hw5 hm5 HC5 HFa5 y0 HD4 HW4 HF4 HO4
  dsimp only
  by_cases h0:e5=0
  rotate_left
  ·have h0b:(e5 != 0)=true:=by simpa using h0
   rw[if_pos h0]at HG
   go_wp2
   go_ret2
   exact⟨by rw[HG.out]<;>rfl,M5,by rw[HG.out];exact HD5.out,by rw[HG.out];exact HW5.out,HM5.out⟩
  subst h0
  rw[if_neg (by simp)]at HG
  have HC6:=aH (iQ B M5 d5 w5 HD5.out.log.disk (HF5.out.sml (by omega)))
  obtain⟨y0,y1,y2,y3⟩:=HD5.out.cells
  dsimp only at y0
  clear y1 y2 y3
  go_wp2_with fail
  refine HC6.out.mono ?_
  rintro e w6 hr6
  obtain⟨rfl,M6,h6,hw6,hm6⟩:=aY.sto HD5.out hr6
  have HD6:Hid (dU B { X with M:=M6 } { s with d:=d5.syncNames.1 } w6):=aH h6
  have HW6:Hid (aO (X.foot s) w (({ X with M:=M6 }:SM).foot { s with d:=d5.syncNames.1 }) w6):=aH (HW5.out.trans hw6)
  have HM6:Hid (M6.d=X.M.d):=aH (hm6.trans HM5.out)
  clear hr6 h6 hw6 hm6 HC6 y0
  go_wp2
  go_ret2
  exact⟨by rw[HG.out]<;>rfl,M6,by rw[HG.out];exact HD6.out,by rw[HG.out];exact HW6.out,HM6.out⟩
theorem nR (no:Nat):(S.path no).size≤1099511627776:=by
 unfold S.path
 split
 ·show 7≤_;decide
 ·show 0≤_;decide
theorem aEU (B:Nat) (X:SM) (s:S.Sto) (no m:Nat) (w:World) (h:dU B X s w) (hf:D.Fit m s.d) (hm:m≤134217000) (hn:no < s.used.length) (hn4:no < 4096) :
  Calls Tryz.prog 70 #[.pointer (some ⟨X.st,0,none⟩),.int .i64 no] w (xP B X s w (s.free no) (.tuple #[])):=by
 have HD:=aH h
 have HF:=aH hf
 have HP:=aH (fun u=>yL no u hn4)
 have hps:=nR no
 obtain⟨nm,hnm⟩:∃ nm,nm=S.path no:=⟨_,rfl⟩
 have HNM:=aH hnm
 rw[← hnm]at HP hps
 have HRM:=aH (fun (u:World) (hb:Below w.heap.size w u)=>kC B X.M s.d nm u (h.below hb).log.disk (hf.sml (by omega)) hps)
 clear h hf hnm
 have hS0:Below w.heap.size w w.drew:=(zB _ _).drew
 go_enter Tryz.func70,Tryz.ntmps70
 go_upto_region 0 with fail
 refine wp_region_noPanic ?_
 refine HT.begin (n:=6) (S:=(fun u=>Below w.heap.size w u)) (by kernel_rfl) hS0 ?_
 generalize w.drew=wd at *
 refine HT.take 0 (.pointer (some ⟨X.st,0,none⟩)) rfl (by kernel_rfl) (fun _ _ _ h=>h) (Or.inl ⟨by rfl,?_⟩) ?_
 ·intro u hu
  go_simp
 refine HT.take 1 (.pointer (some ⟨X.st,0,none⟩)) rfl (by kernel_rfl) (fun _ _ _ h=>h) (Or.inl ⟨by rfl,?_⟩) ?_
 ·intro u hu
  go_simp
 refine HT.take 2 (.pointer (some ⟨X.st,0,none⟩)) rfl (by kernel_rfl) (fun _ _ _ h=>h) (Or.inl ⟨by rfl,?_⟩) ?_
 ·intro u hu
  go_simp
 refine HT.take 3 (.pointer (some ⟨X.M.d,0,none⟩)) rfl (by kernel_rfl) (fun _ _ _ h=>h) (Or.inl ⟨by rfl,?_⟩) ?_
 ·intro u hu
  obtain⟨y0,y1,y2,y3⟩:=(HD.out.below hu).cells
  go_simp
 refine HT.take 4 (.int .i64 no) rfl (by kernel_rfl) (fun _ _ _ h=>h) (Or.inl ⟨by rfl,?_⟩) (?_:HT _ _ _ _ _ _ _ ⟨#[.pointer (some ⟨X.st,0,none⟩),.int .i64 no,_,_,.pointer (some ⟨X.st,0,none⟩),.pointer (some ⟨X.st,0,none⟩),.pointer (some ⟨X.st,0,none⟩),.pointer (some ⟨X.M.d,0,none⟩),.int .i64 no,_,_,_,_,_,_,_,_],[]⟩ _)
 ·intro u hu
  go_simp
 refine HT.step 5 rfl (by kernel_rfl) (fun hS K hK=>?_)
 go_simp
 refine (HP.out _).mono ?_
 rintro e w5 ⟨rfl,hb⟩
 refine hK.out _ _ (aA hS.size hS hb) ?_
 clear hK hS hb
 refine HT.tail _ rfl rfl (by kernel_rfl) (fun hS=>?_)
 have HB1:=aH hS
 clear hS hS0
 have HD1:=aH (HD.out.below HB1.out)
 go_wp2_with fail
 refine (HRM.out _ HB1.out).mono ?_
 rintro e w2 hr2
 obtain⟨rfl,M2,h2,hw2,hm2⟩:=aY.sto HD1.out hr2
 have HD2:=aH h2
 have HW2:=aH ((aO.below HB1.out (X.foot s)).trans hw2)
 have HM2:=aH hm2
 clear hr2 h2 hw2 hm2 HRM HD1 HP HB1 HD
 obtain⟨y0,y1,y2,y3⟩:=HD2.out.cells
 obtain⟨g,hU,hfr,hce,hd3,hw3⟩:=HD2.out.marked (no:=no) hn false
 have HD3:=aH hd3
 have HW3:=aH (HW2.out.trans hw3)
 dsimp only at y3 hU
 rw[hU]at y3
 have hni:(no:Int) < (s.used.length:Int):=by omega
 clear hd3 hw3 HD2 HW2 y0 y1 y2
 go_wp2
 refine NoPanic.normal ?_
 go_wp2
 go_end0
 refine⟨rfl,{ X with M:=M2 },?_,?_,rfl,HM2.out,rfl⟩
 ·unfold S.Sto.free
  rw[← HNM.out]
  exact HD3.out
 ·unfold S.Sto.free
  rw[← HNM.out]
  exact HW3.out
theorem xZ (B:Nat) (X:SM) (s:S.Sto) (m:Nat) (w:World) (h:dU B X s w) (hf:D.Fit m s.d) (hm:m≤134217000) (hu:D.Up s.tab) (hl:s.tab.length≤524288) (hz:∀ p∈s.tab,p.1.size≤1048576) (_hc:s.count≤1099511627776) :
  Calls Tryz.prog 60 #[.pointer (some ⟨X.st,0,none⟩)] w (xP B X s w s.tidy (.tuple #[])):=by
 have HD:=aH h
 have HCN:=aH (fun (u:World) (hb:Below w.heap.size w u)=>count_any B X.lg X.M s.d s.count u (h.below hb).log)
 have HRE:=aH (fun (u:World) (hb:Below w.heap.size w u)=>aCY B X s u (h.below hb) hu (by omega) (fun p hp=>by have:=hz p hp;omega))
 have hrl:(S.records s.tab).length=s.tab.length:=by unfold S.records;rw[List.length_map]
 have HRW:=aH (fun (A:Option Addr) (c:Nat) (u:World) (hb:Below w.heap.size w u) (hr:Rd u A (S.records s.tab).length 4 (dA (S.records s.tab)))=>aCS B X.lg X.M s.d s.count m (S.records s.tab) A (S.records s.tab).length c u (h.below hb).log hf (by omega) rfl (by rw[hrl];exact hl) (fun r hr=>by
  unfold S.records at hr
  obtain⟨p,hp,rfl⟩:=List.mem_map.1 hr
  exact hz p hp) hr)
 have HG:Hid (s.tidy=if s.count≤2 * s.tab.length+16 then s else s.rewrite.1):=aH rfl
 have hT:∀ u,Below w.heap.size w u→u.ownsMap Tryz.prog 9 S.wV X.tb s.tab.length (S.qU s.tab):=fun u hb=>(h.below hb).tab
 have HT1:=aH hT
 have hsz:Maps.size (S.qU s.tab)=s.tab.length:=by
  unfold S.qU D.datum
  rw[Maps.size_eq]
  simp
 have HSZ:=aH hsz
 clear h hf hz hrl hT hsz
 obtain⟨nt,hnt⟩:∃ nt,nt=s.tab.length:=⟨_,rfl⟩
 have hS0:Below w.heap.size w w.drew:=(zB _ _).drew
 go_enter Tryz.func60,Tryz.ntmps60
 go_upto_region 0 with fail
 refine wp_region_noPanic ?_
 refine HT.begin (n:=9) (S:=(fun u=>Below w.heap.size w u)) (by kernel_rfl) hS0 ?_
 generalize w.drew=wd at *
 refine HT.take 0 (.pointer (some ⟨X.st,0,none⟩)) rfl (by kernel_rfl) (fun _ _ _ h=>h) (Or.inl ⟨by rfl,?_⟩) ?_
 ·intro u hu
  go_simp
 refine HT.take 1 (.pointer (some ⟨X.st,0,none⟩)) rfl (by kernel_rfl) (fun _ _ _ h=>h) (Or.inl ⟨by rfl,?_⟩) ?_
 ·intro u hu
  go_simp
 refine HT.take 2 (.pointer (some ⟨X.st,1,none⟩)) rfl (by kernel_rfl) (fun _ _ _ h=>h) (Or.inl ⟨by rfl,?_⟩) ?_
 ·intro u hu
  go_simp
 refine HT.take 3 (.pointer (some ⟨X.lg,0,none⟩)) rfl (by kernel_rfl) (fun _ _ _ h=>h) (Or.inl ⟨by rfl,?_⟩) ?_
 ·intro u hu
  obtain⟨y0,y1,y2,y3⟩:=(HD.out.below hu).cells
  go_simp
 refine HT.take 5 (.pointer (some ⟨X.st,0,none⟩)) rfl (by kernel_rfl) (fun _ _ _ h=>h) (Or.inl ⟨by rfl,?_⟩) ?_
 ·intro u hu
  go_simp
 refine HT.take 6 (.pointer (some ⟨X.st,0,none⟩)) rfl (by kernel_rfl) (fun _ _ _ h=>h) (Or.inl ⟨by rfl,?_⟩) ?_
 ·intro u hu
  go_simp
 refine HT.take 7 (.pointer (some ⟨X.st,2,none⟩)) rfl (by kernel_rfl) (fun _ _ _ h=>h) (Or.inl ⟨by rfl,?_⟩) ?_
 ·intro u hu
  go_simp
 refine HT.take 8 (.map (some X.tb)) rfl (by kernel_rfl) (fun _ _ _ h=>h) (Or.inl ⟨by rfl,?_⟩) (?_:HT _ _ _ _ _ _ _ ⟨#[.pointer (some ⟨X.st,0,none⟩),_,.pointer (some ⟨X.st,0,none⟩),.pointer (some ⟨X.st,0,none⟩),.pointer (some ⟨X.st,1,none⟩),.pointer (some ⟨X.lg,0,none⟩),_,.pointer (some ⟨X.st,0,none⟩),.pointer (some ⟨X.st,0,none⟩),.pointer (some ⟨X.st,2,none⟩),.map (some X.tb),_,_,_,_,_,_,_,_,_,_,_],[]⟩ _)
 ·intro u hu
  obtain⟨y0,y1,y2,y3⟩:=(HD.out.below hu).cells
  go_simp
 refine HT.step 4 rfl (by kernel_rfl) (fun hS K hK=>?_)
 go_simp
 refine (HCN.out _ hS).mono ?_
 rintro e w5 ⟨rfl,rfl⟩
 refine hK.out _ _ hS ?_
 clear hK hS
 refine HT.tail _ rfl rfl (by kernel_rfl) (fun hS=>?_)
 have HB1:=aH hS
 clear hS hS0
 have hlen:=aCK (HT1.out _ HB1.out) 3
 rw[← hnt]at HG hlen
 have hnt2:nt≤524288:=by omega
 by_cases hle:s.count≤2 * nt+16
 ·rw[if_pos hle]at HG
  have hlei:(s.count:Int)≤2 * (nt:Int)+16:=by omega
  go_wp2
  refine NoPanic.normal ?_
  go_wp2
  go_end0
  exact⟨rfl,X,by rw[HG.out];exact HD.out.below HB1.out,by rw[HG.out];exact aO.below HB1.out _,rfl,rfl,rfl⟩
 rw[if_neg hle]at HG
 have hlei:¬ (s.count:Int)≤2 * (nt:Int)+16:=by omega
 go_wp2
 refine NoPanic.normal ?_
 go_upto_region 1 with fail
 have hS1:Below w.heap.size w wd.drew:=HB1.out.drew
 clear hlen HB1
 refine wp_region_noPanic ?_
 refine HT.begin (n:=6) (S:=(fun u=>Below w.heap.size w u)) (by kernel_rfl) hS1 ?_
 generalize wd.drew=we at *
 refine HT.take 0 (.pointer (some ⟨X.st,0,none⟩)) rfl (by kernel_rfl) (fun _ _ _ h=>h) (Or.inl ⟨by rfl,?_⟩) ?_
 ·intro u hu
  go_simp
 refine HT.take 1 (.pointer (some ⟨X.st,0,none⟩)) rfl (by kernel_rfl) (fun _ _ _ h=>h) (Or.inl ⟨by rfl,?_⟩) ?_
 ·intro u hu
  go_simp
 refine HT.take 2 (.pointer (some ⟨X.st,1,none⟩)) rfl (by kernel_rfl) (fun _ _ _ h=>h) (Or.inl ⟨by rfl,?_⟩) ?_
 ·intro u hu
  go_simp
 refine HT.take 3 (.pointer (some ⟨X.lg,0,none⟩)) rfl (by kernel_rfl) (fun _ _ _ h=>h) (Or.inl ⟨by rfl,?_⟩) ?_
 ·intro u hu
  obtain⟨y0,y1,y2,y3⟩:=(HD.out.below hu).cells
  go_simp
 refine HT.take 4 (.pointer (some ⟨X.st,0,none⟩)) rfl (by kernel_rfl) (fun _ _ _ h=>h) (Or.inl ⟨by rfl,?_⟩) (?_:HT _ _ _ _ _ _ _ ⟨#[.pointer (some ⟨X.st,0,none⟩),_,_,_,_,_,_,_,_,_,_,_,_,_,_,.pointer (some ⟨X.st,0,none⟩),.pointer (some ⟨X.st,0,none⟩),.pointer (some ⟨X.st,1,none⟩),.pointer (some ⟨X.lg,0,none⟩),.pointer (some ⟨X.st,0,none⟩),_,_],[]⟩ _)
 ·intro u hu
  go_simp
 refine HT.step 5 rfl (by kernel_rfl) (fun hS K hK=>?_)
 go_simp
 refine (HRE.out _ hS).mono ?_
 rintro e w5 ⟨A5,c5,rfl,hr5,hb⟩
 refine hK.out _ _ (aA hS.size hS hb) ?_
 have HR5:=aH hr5.rd
 clear hK hS hb hr5
 refine HT.tail _ rfl rfl (by kernel_rfl) (fun hS=>?_)
 have HB1:=aH hS
 clear hS hS1
 have HD1:=aH (HD.out.below HB1.out)
 go_wp2_with fail
 refine (HRW.out A5 c5 _ HB1.out HR5.out).mono ?_
 rintro e w6 ⟨rfl,M6,h6,hw6,hm6⟩
 obtain⟨h7,hw7⟩:=HD1.out.logged h6 hw6 hm6
 have HD7:=aH h7
 have HW7:=aH ((aO.below HB1.out (X.foot s)).trans hw7)
 have HM7:=aH hm6
 clear h6 hw6 hm6 h7 hw7 HRW HRE HR5 HD1
 go_wp2
 refine NoPanic.normal ?_
 go_wp2
 go_end0
 exact⟨rfl,{ X with M:=M6 },by rw[HG.out];exact HD7.out,by rw[HG.out];exact HW7.out,rfl,HM7.out,rfl⟩
end Go.Proofs.YthjeglnkgdpijaaGreatDoor
