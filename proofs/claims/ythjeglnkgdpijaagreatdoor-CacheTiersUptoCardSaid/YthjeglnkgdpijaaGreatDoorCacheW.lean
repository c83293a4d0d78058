/- The walk of CacheTiers. Conditions: a script of at most 2^20 bytes; the tables of the library. -/
import Derived.Test.YthjeglnkgdpijaaGreatDoorZ11
set_option maxHeartbeats 16000000
set_option maxRecDepth 100000
namespace Go.Proofs.YthjeglnkgdpijaaGreatDoor
open Go Go.RowKit Go.Maps
section
variable {P:Program} {ops:Array Oper} {Q:Exit→Act→World→Prop} {S:World→Prop}
theorem HT.two {n fuel:Nat} {listed:Array Bool} {a:Act} {w:World} (i j:Nat) {oi oj:Oper} (hi:ops[i]?=some oi) (hj:ops[j]?=some oj)
  (hr:(decide (Region.ready .any ops listed=[i,j])&&decide (i < n)&&decide (j < n))=true)
  (h1:S w→∀ K':Act→World→Prop,Shut (∀ a w,S w→HT P ops Q S n fuel (listed.setIfInBounds i true) a w→K' a w)→if Region.wanted oi (yielded ops a.tmps)=true then Oper.wp P oi a w K' Q else K' (a.put oi.dst undef) w)
  (h2:S w→∀ K':Act→World→Prop,Shut (∀ a w,S w→HT P ops Q S n fuel (listed.setIfInBounds j true) a w→K' a w)→if Region.wanted oj (yielded ops a.tmps)=true then Oper.wp P oj a w K' Q else K' (a.put oj.dst undef) w) :
  HT P ops Q S n (fuel+1) listed a w:=by
 intro inv hS
 simp only[Bool.and_eq_true,decide_eq_true_eq]at hr
 obtain⟨⟨hr,hin⟩,hjn⟩:=hr
 have hmi:i∈Region.ready .any ops listed:=by rw[hr];simp
 have hmj:j∈Region.ready .any ops listed:=by rw[hr];simp
 refine⟨fun h0=>(by rw[h0]at hr;cases hr),fun k hk=>?_⟩
 rw[hr]at hk
 rcases List.mem_cons.1 hk with rfl | hk
 ·exact wpOp_step hi (fun K' hK=>h1 hS K' (fun a w hS' hW=>hK a w ⟨fun _=>hS',hW (inv.set hmi hin) hS'⟩))
 ·obtain rfl:k=j:=by simpa using hk
  exact wpOp_step hj (fun K' hK=>h2 hS K' (fun a w hS' hW=>hK a w ⟨fun _=>hS',hW (inv.set hmj hjn) hS'⟩))
theorem HT.lay {n fuel f2:Nat} {listed:Array Bool} {a:Act} {w:World} {α:Type} (l2:Array Bool) (H:α→Act→Act) (pre:α→World→Prop) (h:∀ x u,pre x u→HT P ops Q S n f2 l2 (H x a) u)
  (k:Hid (∀ x u,pre x u→HT P ops Q S n f2 l2 (H x a) u)→HT P ops Q S n fuel listed a w):HT P ops Q S n fuel listed a w:=k (aH h)
theorem HT.to {n fuel:Nat} {listed listed':Array Bool} {a:Act} {w:World} (e:listed=listed') (h:HT P ops Q S n fuel listed' a w):HT P ops Q S n fuel listed a w:=e ▸ h
end
theorem rd_frontQ {w:World} {A:Option Addr} {n m:Nat} {l:List SQ} (h:Rd w A n 12 (dR l)) (hl:l.length=n) (hm:m≤n):Rd w A m 12 (dR (l.take m)):=by
 refine⟨by rw[iV,List.length_take];congr 1;omega,fun h0=>?_⟩
 obtain⟨b,o,rfl,hb,hc⟩:=h.2 (by omega)
 refine⟨b,o,rfl,hb,fun j u hu=>hc j u ?_⟩
 have e:dR l=dR (l.take m)++dR (l.drop m):=by
  have h1:l.flatMap SQ.c=(l.take m++l.drop m).flatMap SQ.c:=by rw[List.take_append_drop]
  rw[List.flatMap_append]at h1
  exact h1
 rw[e,List.getElem?_append_left (List.getElem?_eq_some_iff.1 hu).1]
 exact hu
namespace C
def aHC (j:Nat) (s:S.Sto):Prop:=Snd 4096 j s (abs ⟨some s,[],[]⟩)
theorem aHC.snd0 {j:Nat} {s:S.Sto} (h:aHC j s) (hj:j≤100):bV s (abs ⟨some s,[],[]⟩):=Snd.s0 h hj
theorem aHC.of {j:Nat} {s:S.Sto} (hk:S.bG 4096 j (j * 521100) s) (hf:D.Fit (3+13 * j) s.d):aHC j s:=⟨rfl,hk,hf,rfl,fun _ _ h=>by cases h⟩
theorem aHC.puts {j:Nat} {s s2:S.Sto} {E:O.Ent} {cd:Int} (h:aHC j s) (hj:j+1≤100) (hp:s.put E=(s2,cd)):Base s2∧(cd=0→(s2.get (S.aV E)=some E∧∀ x F,x≠S.aV E→s.get x=some F→s2.get x=some F)∧aHC (j+1) s2)∧s2.tab.length≤s.tab.length+1:=by
 obtain⟨h1,h2⟩:=Snd.puts h hj E
 have h3:=S.aH5 s E
 rw[hp]at h1 h2 h3
 dsimp only at h1 h2 h3
 refine⟨h1,fun h0=>?_,h3⟩
 obtain⟨k1,k2,k3⟩:=h2 h0
 refine⟨⟨by rw[k3,if_pos rfl],fun x F hx hg=>by rw[k3,if_neg hx];exact hg⟩,aHC.of k1 k2⟩
theorem aJB {s:S.Sto} {v:Vw} (h:bV s v) (key:ByteArray) (ask:List FD) {E:O.Ent} (hE:E=((fnd s key ask).map (·.2)).getD O.Ent.zero):E.fs.length≤1099511627776∧E.body.length≤1099511627776:=by
 subst hE
 unfold fnd
 rcases sK ⟨some s,[],[]⟩ key ask (aU (C.ids ⟨some s,[],[]⟩) key) with ⟨h0,_⟩ | ⟨id,_,E,h0,⟨h1,_⟩,_⟩
 ·rw[h0]
  exact⟨by decide,by decide⟩
 ·rw[h0]
  show E.fs.length≤_∧E.body.length≤_
  rw[h.bare.entry2]at h1
  obtain⟨q1,_,_,_,q5⟩:=aBR (h.base.encs id E h1).1
  have:=F.dI E.fs
  omega
end C
theorem vN (A:Option Addr) (n c:Nat) (l:List SQ) (a b:Int) (w:World) (hl:l.length=n) (hnc:n≤c) (hx:Rd w A n 12 (dR l)) (hq:∀ q∈l,ERd w q.p∧Rd w q.Y q.ask.length 2 (aI q.ask)) (hs:∀ q∈l,q.bulk≤1048576) (ht:Tabs w) :
  Calls Tryz.prog 4 #[.slice A n c,.int .i64 a,.int .i64 b] w (pR w true):=by
 have HAL:=aH (vO w ht)
 have HTB:=aH ht
 obtain⟨m,hm⟩:∃ m,min n 50=m:=⟨_,rfl⟩
 have hmn:m≤n:=by omega
 have hm50:m≤50:=by omega
 have HM:=aH hm
 obtain⟨l2,hl2⟩:∃ l2,l.take m=l2:=⟨_,rfl⟩
 have HL:Hid (l2.length=m):=aH (by rw[← hl2,List.length_take];omega)
 have HX:Hid (Rd w A m 12 (dR l2)):=aH (by rw[← hl2];exact rd_frontQ hx hl hmn)
 have HQ:Hid (∀ q∈l2,(ERd w q.p∧Rd w q.Y q.ask.length 2 (aI q.ask))∧q.bulk≤1048576):=aH (fun q h=>by
  rw[← hl2]at h
  exact⟨hq q (List.mem_of_mem_take h),hs q (List.mem_of_mem_take h)⟩)
 clear hx hq hs ht hl hm hl2
 go_enter Tryz.func4,Tryz.ntmps4
 go_wp2_with fail
 refine HAL.out.mono ?_
 rintro e w1 ⟨rfl,hb1⟩
 have hgs:=C.aDH (n:=4096) (by decide)
 change C.start 1073741824 [] (-1) 4096=_ at hgs
 have hbg:=jS 1073741824 none 0 [] (-1) 4096 a w1 (by decide) (Rd.nil _ _ _)
 have hbg2:=fun u=>jS 1073741824 none 0 [] (-1) 4096 b u (by decide) (Rd.nil _ _ _)
 rw[hgs]at hbg hbg2
 obtain⟨hgk,hgf⟩:=C.lC (n:=4096) (by decide)
 have hgt:(C.great 4096).tab.length=0:=rfl
 have hok:C.aHC 0 (C.great 4096):=C.aHC.of hgk hgf
 obtain⟨g,hg⟩:∃ g,C.great 4096=g:=⟨_,rfl⟩
 rw[hg]at hbg hbg2 hgt hok
 have HBG:=aH hbg
 have HBG2:=aH hbg2
 dsimp only[List.length_nil]at HBG HBG2
 have HB1:=aH hb1
 have HOK:=aH hok
 have HGT:=aH hgt
 clear hbg hbg2 hgs hb1 HAL hgk hgf hok hgt hg
 go_wp2_with fail
 refine HBG.out.mono ?_
 rintro e w2 ⟨B1,Z1,pd,rfl,hc2,hB1,hB1',hb2,-⟩
 have HC2:=aH hc2
 have HB2:=aH (aA HB1.out.size HB1.out hb2)
 have HBB:Hid (w.heap.size≤B1∧B1≤w2.heap.size):=aH ⟨bD HB1.out.size hB1,hB1'⟩
 clear hc2 hB1 hB1' hb2 HBG HB1
 go_wp2_with fail
 refine (HBG2.out w2).mono ?_
 rintro e w3 ⟨B2,Z2,pd2,rfl,hc3,hB2,hB2',hb3,-⟩
 have hsn:=HOK.out.snd0 (by decide)
 have HTI:Hid (jL B1 (Lr.roomOf a) Z1.c B2 (Lr.roomOf b) Z2.c (C.bV g) (C.bV g) (fun _=>False) w3):=aH ⟨bD HBB.out.2 hb3.size,hB2',Z1,_,Z2,_,rfl,rfl,HC2.out.below hb3,hc3,⟨fun k h1 h2=>(by have:=HC2.out.lt h1;have:=hc3.under h2;omega),fun x h=>(by cases h),fun x h=>(by cases h)⟩,hsn,hsn,fun _ h=>h.elim⟩
 have HBZ:Hid (w.heap.size≤B1∧w.heap.size≤B2):=aH ⟨HBB.out.1,bD HB2.out.size hB2⟩
 have HB3:=aH (aA HB2.out.size HB2.out hb3)
 obtain⟨c1,hc1⟩:∃ c1,Z1.c=c1:=⟨_,rfl⟩
 obtain⟨c2,hc2⟩:∃ c2,Z2.c=c2:=⟨_,rfl⟩
 obtain⟨r1,hr1⟩:∃ r,Lr.roomOf a=r:=⟨_,rfl⟩
 obtain⟨r2,hr2⟩:∃ r,Lr.roomOf b=r:=⟨_,rfl⟩
 rw[hc1,hc2,hr1,hr2]at HTI
 rw[hc1,hc2]
 have HFE:=aH (aJF A m c l2 ⟨#[]⟩ w3 HL.out (by omega) (HX.out.below HB3.out) (fun q h=>by have:=(HQ.out q h).2;unfold SQ.bulk EP.bulk at this;omega) (by decide))
 have HCU:=aH (aGA A n c w3 hnc)
 rw[HM.out]at HCU
 clear hc3 hB2 hB2' hb3 HBG2 HBB HB2 HC2 hsn hc1 hc2 hr1 hr2 Z1 Z2
 go_wp2_with fail
 refine HCU.out.mono ?_
 rintro e w4 ⟨rfl,rfl⟩
 go_wp2_with fail
 refine HFE.out.mono ?_
 rintro e w5 ⟨t,rfl,hb5,-⟩
 have HB5:=aH (aA HB3.out.size HB3.out hb5)
 have HT5:=aH (HTI.out.below hb5)
 clear hb5 HFE HCU HTI HB3
 cases t with
 | true =>
  go_wp2
  go_ret
  exact⟨rfl,HB5.out⟩
 | false =>
  go_wp2
  go_loopw [9,13,14,15,16,17,18,19,20,21,22,68,69,85,116] (fun _ i _ _ _ _ _ _ _ _ _ _ _ _ _ wr=>∃ (k j:Nat) (s:S.Sto),k≤m∧i=.int .i64 k∧C.aHC j s∧j+s.tab.length≤2 * k∧jL B1 r1 c1 B2 r2 c2 (C.bV s) (C.bV s) (fun _=>False) wr∧Below w.heap.size w wr) (fun _ i _ _ _ _ _ _ _ _ _ _ _ _ _ _=>m - (intOf i).toNat)
  case atStart=>exact⟨0,0,g,zF _,rfl,HOK.out,by have:=HGT.out;omega,HT5.out,HB5.out⟩
  case round =>
   obtain⟨k,j,s,hkm,rfl,hok,hjt,hti,hbe⟩:=hrel
   have HOJ:=aH hok
   have HTI:=aH hti
   have HBE:=aH hbe
   have HTA:Hid (∀ u,Below w.heap.size w u→∀ u',(Below B1 u u'∨Below B2 u u')→Tabs u'):=aH (fun u hu u' h=>h.elim (kV HTB.out hu HBZ.out.1 u') (kV HTB.out hu HBZ.out.2 u'))
   clear hok hti hbe HT5 HB5 HOK HGT
   obtain⟨wo,rfl⟩:∃ wo:World,wo=wr:=⟨_,rfl⟩
   by_cases hlt:k < m
   ·have hki:k < l2.length:=by rw[HL.out];exact hlt
    obtain⟨bq,o,rfl,hb,hat⟩:=rd_q (HX.out.below HBE.out) hki HL.out
    obtain⟨⟨hpe,hpy⟩,hps⟩:=HQ.out _ (List.getElem_mem hki)
    obtain⟨q,hq⟩:∃ q,l2[k]'hki=q:=⟨_,rfl⟩
    rw[hq]at hat hpe hpy hps
    obtain⟨what,p,key,Y,cy,ask⟩:=q
    unfold SQ.bulk EP.bulk at hps
    dsimp only at hpe hpy hps
    have y0:wo.cell? ⟨bq,o+k * 12,none⟩=some (.int .i64 what):=hat 0 _ rfl
    have y1:wo.cell? ⟨bq,o+k * 12+1,none⟩=some (.string p.E.k):=hat 1 _ rfl
    have y2:wo.cell? ⟨bq,o+k * 12+2,none⟩=some (.string p.E.v):=hat 2 _ rfl
    have y3:wo.cell? ⟨bq,o+k * 12+3,none⟩=some (.int .i64 p.E.s):=hat 3 _ rfl
    have y4:wo.cell? ⟨bq,o+k * 12+4,none⟩=some (.string p.E.r):=hat 4 _ rfl
    have y5:wo.cell? ⟨bq,o+k * 12+5,none⟩=some (.int .i64 p.E.m):=hat 5 _ rfl
    have y6:wo.cell? ⟨bq,o+k * 12+6,none⟩=some (.slice p.A p.E.fs.length p.c):=hat 6 _ rfl
    have y7:wo.cell? ⟨bq,o+k * 12+7,none⟩=some (.slice p.X p.E.body.length p.d):=hat 7 _ rfl
    have y8:wo.cell? ⟨bq,o+k * 12+8,none⟩=some (.int .i64 p.E.asked):=hat 8 _ rfl
    have y9:wo.cell? ⟨bq,o+k * 12+9,none⟩=some (.int .i64 p.E.got):=hat 9 _ rfl
    have y10:wo.cell? ⟨bq,o+k * 12+10,none⟩=some (.string key):=hat 10 _ rfl
    have y11:wo.cell? ⟨bq,o+k * 12+11,none⟩=some (.slice Y ask.length cy):=hat 11 _ rfl
    obtain⟨w4,hw4⟩:∃ w4,wo.alloc (.cells #[.int .i64 0,.string ⟨#[]⟩,.string ⟨#[]⟩,.int .i64 0,.string ⟨#[]⟩,.int .i64 0,.slice none 0 0,.slice none 0 0,.int .i64 0,.int .i64 0,.string ⟨#[]⟩,.slice none 0 0] 43)=w4:=⟨_,rfl⟩
    have hb4:Below wo.heap.size wo w4:=by rw[← hw4];exact (zB _ _).alloc (zA _) _
    have hk4:Blk w4 wo.heap.size #[.int .i64 0,.string ⟨#[]⟩,.string ⟨#[]⟩,.int .i64 0,.string ⟨#[]⟩,.int .i64 0,.slice none 0 0,.slice none 0 0,.int .i64 0,.int .i64 0,.string ⟨#[]⟩,.slice none 0 0] 43:=by rw[← hw4];exact Blk.new wo _ _
    have z0:=hk4.cell 0 rfl
    have g0:=hk4.free 0
    have z1:=hk4.cell 1 rfl
    have g1:=hk4.free 1
    have z2:=hk4.cell 2 rfl
    have g2:=hk4.free 2
    have z3:=hk4.cell 3 rfl
    have g3:=hk4.free 3
    have z4:=hk4.cell 4 rfl
    have g4:=hk4.free 4
    have z5:=hk4.cell 5 rfl
    have g5:=hk4.free 5
    have z6:=hk4.cell 6 rfl
    have g6:=hk4.free 6
    have z7:=hk4.cell 7 rfl
    have g7:=hk4.free 7
    have z8:=hk4.cell 8 rfl
    have g8:=hk4.free 8
    have z9:=hk4.cell 9 rfl
    have g9:=hk4.free 9
    have z10:=hk4.cell 10 rfl
    have g10:=hk4.free 10
    have z11:=hk4.cell 11 rfl
    have g11:=hk4.free 11
    have HK5:Hid (Blk (puts w4 wo.heap.size 0 [.int .i64 what,.string p.E.k,.string p.E.v,.int .i64 p.E.s,.string p.E.r,.int .i64 p.E.m,.slice p.A p.E.fs.length p.c,.slice p.X p.E.body.length p.d,.int .i64 p.E.asked,.int .i64 p.E.got,.string key,.slice Y ask.length cy]) wo.heap.size #[.int .i64 what,.string p.E.k,.string p.E.v,.int .i64 p.E.s,.string p.E.r,.int .i64 p.E.m,.slice p.A p.E.fs.length p.c,.slice p.X p.E.body.length p.d,.int .i64 p.E.asked,.int .i64 p.E.got,.string key,.slice Y ask.length cy] 43):=aH (Blk.puts [.int .i64 what,.string p.E.k,.string p.E.v,.int .i64 p.E.s,.string p.E.r,.int .i64 p.E.m,.slice p.A p.E.fs.length p.c,.slice p.X p.E.body.length p.d,.int .i64 p.E.asked,.int .i64 p.E.got,.string key,.slice Y ask.length cy] [] [.int .i64 0,.string ⟨#[]⟩,.string ⟨#[]⟩,.int .i64 0,.string ⟨#[]⟩,.int .i64 0,.slice none 0 0,.slice none 0 0,.int .i64 0,.int .i64 0,.string ⟨#[]⟩,.slice none 0 0] hk4 rfl)
    have HB45:=aH (xM (zA wo.heap.size) [.int .i64 what,.string p.E.k,.string p.E.v,.int .i64 p.E.s,.string p.E.r,.int .i64 p.E.m,.slice p.A p.E.fs.length p.c,.slice p.X p.E.body.length p.d,.int .i64 p.E.asked,.int .i64 p.E.got,.string key,.slice Y ask.length cy] 0 hb4)
    have HPE:=aH hpe
    have HPY:=aH hpy
    have HPS:=aH hps
    clear hat hpe hpy hq hk4 hb4
    go_upto_region 14 with fail
    obtain⟨w5,hw5⟩:∃ w5,((((((((((((w4.setCell ⟨wo.heap.size,0,none⟩ (.int .i64 what)).setCell ⟨wo.heap.size,1,none⟩ (.string p.E.k)).setCell ⟨wo.heap.size,2,none⟩ (.string p.E.v)).setCell ⟨wo.heap.size,3,none⟩ (.int .i64 p.E.s)).setCell ⟨wo.heap.size,4,none⟩ (.string p.E.r)).setCell ⟨wo.heap.size,5,none⟩ (.int .i64 p.E.m)).setCell ⟨wo.heap.size,6,none⟩ (.slice p.A p.E.fs.length p.c)).setCell ⟨wo.heap.size,7,none⟩ (.slice p.X p.E.body.length p.d)).setCell ⟨wo.heap.size,8,none⟩ (.int .i64 p.E.asked)).setCell ⟨wo.heap.size,9,none⟩ (.int .i64 p.E.got)).setCell ⟨wo.heap.size,10,none⟩ (.string key)).setCell ⟨wo.heap.size,11,none⟩ (.slice Y ask.length cy))=w5:=⟨_,rfl⟩
    rw[show puts w4 wo.heap.size 0 [.int .i64 what,.string p.E.k,.string p.E.v,.int .i64 p.E.s,.string p.E.r,.int .i64 p.E.m,.slice p.A p.E.fs.length p.c,.slice p.X p.E.body.length p.d,.int .i64 p.E.asked,.int .i64 p.E.got,.string key,.slice Y ask.length cy]=w5 from hw5]at HK5 HB45
    rw[hw5]
    have HB5:=aH (aA HBE.out.size HBE.out HB45.out)
    have HT5:=aH (HTI.out.below HB45.out)
    have HPE5:=aH (HPE.out.below HB5.out)
    have HPY5:=aH (HPY.out.below HB5.out)
    clear hw4 hw5 z0 g0 y0 z1 g1 y1 z2 g2 y2 z3 g3 y3 z4 g4 y4 z5 g5 y5 z6 g6 y6 z7 g7 y7 z8 g8 y8 z9 g9 y9 z10 g10 y10 z11 g11 y11 HB45 HTI HBE
    generalize wo.heap.size=bx at *
    by_cases h1:what=1
    ·subst h1
     have hlb:=F.dI p.E.fs
     have HCE:=aH (uF p w5 (by have:=HPS.out;omega) (by have:=HPS.out;omega) HPE5.out)
     unfold EP.v kK at HCE
     obtain⟨s2,code,hsp⟩:∃ s2 code,s.put p.E=(s2,code):=⟨_,_,rfl⟩
     have HPU:=aH (HOJ.out.puts (by omega) hsp)
     have HSP:=aH hsp
     clear hsp
     have x0:=HK5.out.cell 0 rfl
     have x1:=HK5.out.cell 1 rfl
     have x2:=HK5.out.cell 2 rfl
     have x3:=HK5.out.cell 3 rfl
     have x4:=HK5.out.cell 4 rfl
     have x5:=HK5.out.cell 5 rfl
     have x6:=HK5.out.cell 6 rfl
     have x7:=HK5.out.cell 7 rfl
     have x8:=HK5.out.cell 8 rfl
     have x9:=HK5.out.cell 9 rfl
     have x10:=HK5.out.cell 10 rfl
     have x11:=HK5.out.cell 11 rfl
     go_wp2_with fail
     clear x0 x1 x2 x3 x4 x5 x6 x7 x8 x9 x10 x11
     refine HCE.out.mono ?_
     rintro e w6 ⟨p1,rfl,hpE,hpO,hpB⟩
     have hsv:=wC p1 HT5.out hpB hpO (by rw[hpE,HSP.out];exact HPU.out.1) (fun h0=>(by rw[hpE,HSP.out]at h0 ⊢;exact (HPU.out.2.1 h0).1)) (by unfold EP.lim;rw[hpE];have:=HPS.out;omega) (fun u hu=>HTA.out w6 (aA HB5.out.size HB5.out hpB) u (.inl hu))
     rw[hpE,HSP.out]at hsv
     dsimp only at hsv
     have HSV:=aH hsv
     have HK6:=aH (HK5.out.below hpB)
     have HB6:=aH (aA HB5.out.size HB5.out hpB)
     clear hpE hpO hpB hsv HCE
     go_wp2_with fail
     refine HSV.out.mono ?_
     rintro e w7 ⟨rfl,ht7,hst7,hb7⟩
     have HK7:=aH (hst7 _ _ _ (.inl rfl) HK6.out)
     have HT7:=aH ht7.swap
     have HB7:=aH (HB6.out.trans (hb7.mono HBZ.out.1))
     have HCE:=aH (uF p w7 (by have:=HPS.out;omega) (by have:=HPS.out;omega) (HPE.out.below HB7.out))
     unfold EP.v kK at HCE
     have x0:=HK7.out.cell 0 rfl
     have x1:=HK7.out.cell 1 rfl
     have x2:=HK7.out.cell 2 rfl
     have x3:=HK7.out.cell 3 rfl
     have x4:=HK7.out.cell 4 rfl
     have x5:=HK7.out.cell 5 rfl
     have x6:=HK7.out.cell 6 rfl
     have x7:=HK7.out.cell 7 rfl
     have x8:=HK7.out.cell 8 rfl
     have x9:=HK7.out.cell 9 rfl
     have x10:=HK7.out.cell 10 rfl
     have x11:=HK7.out.cell 11 rfl
     clear ht7 hst7 hb7 HSV HK6 HB6 HT5 HK5 HB5
     go_wp2_with fail
     clear x0 x1 x2 x3 x4 x5 x6 x7 x8 x9 x10 x11
     refine HCE.out.mono ?_
     rintro e w8 ⟨p2,rfl,hpE,hpO,hpB⟩
     have hsv:=wC p2 HT7.out hpB hpO (by rw[hpE,HSP.out];exact HPU.out.1) (fun h0=>(by rw[hpE,HSP.out]at h0 ⊢;exact (HPU.out.2.1 h0).1)) (by unfold EP.lim;rw[hpE];have:=HPS.out;omega) (fun u hu=>HTA.out w8 (aA HB7.out.size HB7.out hpB) u (.inr hu))
     rw[hpE,HSP.out]at hsv
     dsimp only at hsv
     have HSV:=aH hsv
     have HB8:=aH (aA HB7.out.size HB7.out hpB)
     have hcc:(code != code)=false:=by simp
     clear hpE hpO hpB hsv HCE
     go_wp2_with fail
     refine HSV.out.mono ?_
     rintro e w9 ⟨rfl,ht9,hst9,hb9⟩
     have HT9:=aH ht9
     have HB9:=aH (HB8.out.trans (hb9.mono HBZ.out.2))
     clear ht9 hst9 hb9 HSV HB8 HT7 HK7 HB7
     by_cases h0:code=0
     ·subst h0
      clear hcc
      go_wp2
      go_roundw
      case rel=>exact⟨k+1,j+1,s2,by omega,by go_num,(HPU.out.2.1 (by trivial)).2,by have:=HPU.out.2.2;omega,((HT9.out.imp (P1':=C.bV s2) (fun v h=>h (by trivial)) (fun _ h=>h)).swap).imp (fun v h=>h (by trivial)) (fun _ h=>h),HB9.out⟩
      case measure=>simp [intOf];omega
     ·have h0b:(code != 0)=true:=bne_iff_ne.2 h0
      go_wp2
      go_ret
      exact⟨rfl,HB9.out⟩
    by_cases h2:what=2
    ·subst h2
     clear h1
     obtain⟨na,hna⟩:∃ na,ask.length=na:=⟨_,rfl⟩
     have HNA:=aH hna
     have HCF:=aH (fun u (hu:Below w.heap.size w u)=>kS Y na cy ask u (by have:=F.dI ask;have:=HPS.out;omega) (by have:=HPY.out.below hu;rw[hna]at this;exact this))
     obtain⟨ok,hok⟩:∃ ok,(C.fnd s key ask).isSome=ok:=⟨_,rfl⟩
     have HOKF:=aH hok
     have HFND:=aH (fun (E:O.Ent) (hE:E=((C.fnd s key ask).map (·.2)).getD O.Ent.zero)=>C.aJB (HOJ.out.snd0 (by omega)) key ask hE)
     rw[hna]at HK5
     clear hok hna
     obtain⟨x0,xk,xa⟩:w5.cell? ⟨bx,0,none⟩=some (.int .i64 2)∧w5.cell? ⟨bx,10,none⟩=some (.string key)∧w5.cell? ⟨bx,11,none⟩=some (.slice Y na cy):=⟨HK5.out.cell 0 rfl,HK5.out.cell 10 rfl,HK5.out.cell 11 rfl⟩
     go_upto_region 22 with fail
     clear x0 xk xa
     have hS0:Blk w5.drew bx #[.int .i64 2,.string p.E.k,.string p.E.v,.int .i64 p.E.s,.string p.E.r,.int .i64 p.E.m,.slice p.A p.E.fs.length p.c,.slice p.X p.E.body.length p.d,.int .i64 p.E.asked,.int .i64 p.E.got,.string key,.slice Y na cy] 43∧True∧(∃ Q,(∀ q,(fun _=>False) q→Q q)∧jL B1 r1 c1 B2 r2 c2 (C.bV s) (C.bV s) Q w5.drew)∧Below w.heap.size w w5.drew:=⟨HK5.out.below (zB _ _).drew,trivial,⟨_,fun _ h=>h,HT5.out.below (zB _ _).drew⟩,HB5.out.drew⟩
     refine wp_region_noPanic ?_
     refine HT.begin (n:=12) (S:=(fun u=>Blk u bx #[.int .i64 2,.string p.E.k,.string p.E.v,.int .i64 p.E.s,.string p.E.r,.int .i64 p.E.m,.slice p.A p.E.fs.length p.c,.slice p.X p.E.body.length p.d,.int .i64 p.E.asked,.int .i64 p.E.got,.string key,.slice Y na cy] 43∧True∧(∃ Q,(∀ q,(fun _=>False) q→Q q)∧jL B1 r1 c1 B2 r2 c2 (C.bV s) (C.bV s) Q u)∧Below w.heap.size w u)) (by kernel_rfl) hS0 ?_
     generalize w5.drew=v1 at *
     clear HK5 HT5 HB5
     refine HT.take 0 (.pointer (some ⟨c1,0,none⟩)) rfl (by kernel_rfl) (fun _ _ _ h=>h) (Or.inl ⟨by rfl,?_⟩) ?_
     ·intro u hu
      go_simp
     refine HT.take 1 (.pointer (some ⟨bx,10,none⟩)) rfl (by kernel_rfl) (fun _ _ _ h=>h) (Or.inl ⟨by rfl,?_⟩) ?_
     ·intro u hu
      go_simp
     refine HT.take 2 (.string key) rfl (by kernel_rfl) (fun _ _ _ h=>h) (Or.inl ⟨by rfl,?_⟩) ?_
     ·intro u hu
      have x10:=hu.1.cell 10 rfl
      go_simp
     refine HT.take 3 (.pointer (some ⟨bx,11,none⟩)) rfl (by kernel_rfl) (fun _ _ _ h=>h) (Or.inl ⟨by rfl,?_⟩) ?_
     ·intro u hu
      go_simp
     refine HT.take 4 (.slice Y na cy) rfl (by kernel_rfl) (fun _ _ _ h=>h) (Or.inl ⟨by rfl,?_⟩) (?_:HT _ _ _ _ _ _ _ ⟨#[_,_,_,_,_,_,_,.pointer (some ⟨c1,0,none⟩),_,_,.pointer (some ⟨c2,0,none⟩),_,_,_,.pointer (some ⟨bx,0,none⟩),_,_,_,_,_,_,_,_,_,_,_,_,_,_,_,_,_,_,_,_,_,_,_,_,_,_,_,_,_,_,_,_,_,_,_,_,_,_,_,_,_,_,_,_,_,_,_,_,_,_,_,_,_,_,_,_,_,_,_,_,_,_,_,_,_,_,_,_,_,_,_,_,_,.pointer (some ⟨c1,0,none⟩),.pointer (some ⟨bx,10,none⟩),.string key,.pointer (some ⟨bx,11,none⟩),.slice Y na cy,_,_,_,_,_,_,_,_,_,_,_,_,_,_,_,_,_,_,_,_,_,_,_,_,_,_,_,_,_,_,_,_,_,_,_,_,_,_,_,_,_,_,_,_,_,_,_,_,_,_,_,_],[]⟩ _)
     ·intro u hu
      have x11:=hu.1.cell 11 rfl
      go_simp
     refine HT.lay (f2:=2) (α:=Nat × EP × Option Addr × Nat) #[true,true,true,true,true,true,true,true,true,true,true,false,false] (fun x a=>((((((a.put (some 93) (.slice x.2.2.1 na x.2.2.2)).put (some 94) (.tuple #[.agg #[.string x.2.1.E.k,.string x.2.1.E.v,.int .i64 x.2.1.E.s,.string x.2.1.E.r,.int .i64 x.2.1.E.m,.slice x.2.1.A x.2.1.E.fs.length x.2.1.c,.slice x.2.1.X x.2.1.E.body.length x.2.1.d,.int .i64 x.2.1.E.asked,.int .i64 x.2.1.E.got],.bool ok])).put (some 87) (.tuple #[.agg #[.string x.2.1.E.k,.string x.2.1.E.v,.int .i64 x.2.1.E.s,.string x.2.1.E.r,.int .i64 x.2.1.E.m,.slice x.2.1.A x.2.1.E.fs.length x.2.1.c,.slice x.2.1.X x.2.1.E.body.length x.2.1.d,.int .i64 x.2.1.E.asked,.int .i64 x.2.1.E.got],.bool ok])).put (some 95) (.agg #[.string x.2.1.E.k,.string x.2.1.E.v,.int .i64 x.2.1.E.s,.string x.2.1.E.r,.int .i64 x.2.1.E.m,.slice x.2.1.A x.2.1.E.fs.length x.2.1.c,.slice x.2.1.X x.2.1.E.body.length x.2.1.d,.int .i64 x.2.1.E.asked,.int .i64 x.2.1.E.got])).put (some 96) (.bool ok)).put (some 15) (.pointer (some ⟨x.1,0,none⟩)))) (fun x w7=>(w.heap.size≤x.1)∧Blk w7 x.1 #[.string ⟨#[]⟩,.string ⟨#[]⟩,.int .i64 0,.string ⟨#[]⟩,.int .i64 0,.slice none 0 0,.slice none 0 0,.int .i64 0,.int .i64 0] 41∧Blk w7 bx #[.int .i64 2,.string p.E.k,.string p.E.v,.int .i64 p.E.s,.string p.E.r,.int .i64 p.E.m,.slice p.A p.E.fs.length p.c,.slice p.X p.E.body.length p.d,.int .i64 p.E.asked,.int .i64 p.E.got,.string key,.slice Y na cy] 43∧True∧Below w.heap.size w w7∧x.2.1.E=((C.fnd s key ask).map (·.2)).getD O.Ent.zero∧jL B1 r1 c1 B2 r2 c2 (C.bV s) (C.bV s) (fun y=>(fun _=>False) y∨y=x.2.1) w7) ?_ (fun HFIN=>?_)
     ·rintro⟨b15,q1,Y1,cy1⟩ w7 ⟨hzb,hkb,hkx,hheld,hbw,hqE,htf⟩
      dsimp only at hzb hkb hqE htf
      have HQE1:=aH hqE
      clear hqE
      refine (?_:HT _ _ _ _ _ _ _ ⟨#[_,_,_,_,_,_,_,.pointer (some ⟨c1,0,none⟩),_,_,.pointer (some ⟨c2,0,none⟩),_,_,_,.pointer (some ⟨bx,0,none⟩),.pointer (some ⟨b15,0,none⟩),_,_,_,_,_,_,_,_,_,_,_,_,_,_,_,_,_,_,_,_,_,_,_,_,_,_,_,_,_,_,_,_,_,_,_,_,_,_,_,_,_,_,_,_,_,_,_,_,_,_,_,_,_,_,_,_,_,_,_,_,_,_,_,_,_,_,_,_,_,_,_,.tuple #[.agg #[.string q1.E.k,.string q1.E.v,.int .i64 q1.E.s,.string q1.E.r,.int .i64 q1.E.m,.slice q1.A q1.E.fs.length q1.c,.slice q1.X q1.E.body.length q1.d,.int .i64 q1.E.asked,.int .i64 q1.E.got],.bool ok],.pointer (some ⟨c1,0,none⟩),.pointer (some ⟨bx,10,none⟩),.string key,.pointer (some ⟨bx,11,none⟩),.slice Y na cy,.slice Y1 na cy1,.tuple #[.agg #[.string q1.E.k,.string q1.E.v,.int .i64 q1.E.s,.string q1.E.r,.int .i64 q1.E.m,.slice q1.A q1.E.fs.length q1.c,.slice q1.X q1.E.body.length q1.d,.int .i64 q1.E.asked,.int .i64 q1.E.got],.bool ok],.agg #[.string q1.E.k,.string q1.E.v,.int .i64 q1.E.s,.string q1.E.r,.int .i64 q1.E.m,.slice q1.A q1.E.fs.length q1.c,.slice q1.X q1.E.body.length q1.d,.int .i64 q1.E.asked,.int .i64 q1.E.got],.bool ok,_,_,_,_,_,_,_,_,_,_,_,_,_,_,_,_,_,_,_,_,_,_,_,_,_,_,_,_,_,_,_,_,_,_,_,_,_,_,_,_,_,_,_,_,_,_,_,_],[]⟩ _)
      refine HT.step 11 rfl (by kernel_rfl) (fun hS K hK=>?_)
      go_simp
      have HKB:=aH hkb
      have HTG:=aH (htf.nine hkb (.string q1.E.k) (.string q1.E.v) (.int .i64 q1.E.s) (.string q1.E.r) (.int .i64 q1.E.m) (.slice q1.A q1.E.fs.length q1.c) (.slice q1.X q1.E.body.length q1.d) (.int .i64 q1.E.asked) (.int .i64 q1.E.got))
      have HKC:=aH (hkb.set9 (.string q1.E.k) (.string q1.E.v) (.int .i64 q1.E.s) (.string q1.E.r) (.int .i64 q1.E.m) (.slice q1.A q1.E.fs.length q1.c) (.slice q1.X q1.E.body.length q1.d) (.int .i64 q1.E.asked) (.int .i64 q1.E.got))
      have HKY:=aH (hkx.nine_far (hkx.tag.ne hkb.tag (by decide)) (.string q1.E.k) (.string q1.E.v) (.int .i64 q1.E.s) (.string q1.E.r) (.int .i64 q1.E.m) (.slice q1.A q1.E.fs.length q1.c) (.slice q1.X q1.E.body.length q1.d) (.int .i64 q1.E.asked) (.int .i64 q1.E.got))
      have HBV:Hid (Below w.heap.size w (nine w7 b15 (.string q1.E.k) (.string q1.E.v) (.int .i64 q1.E.s) (.string q1.E.r) (.int .i64 q1.E.m) (.slice q1.A q1.E.fs.length q1.c) (.slice q1.X q1.E.body.length q1.d) (.int .i64 q1.E.asked) (.int .i64 q1.E.got))):=aH (aK hbw hzb (.string q1.E.k) (.string q1.E.v) (.int .i64 q1.E.s) (.string q1.E.r) (.int .i64 q1.E.m) (.slice q1.A q1.E.fs.length q1.c) (.slice q1.X q1.E.body.length q1.d) (.int .i64 q1.E.asked) (.int .i64 q1.E.got))
      have HLE:Hid True:=aH trivial
      obtain⟨z0,z1,z2,z3,z4,z5,z6,z7,z8⟩:=HKB.out.cells9
      obtain⟨g0,g1,g2,g3,g4,g5,g6,g7,g8⟩:=HKB.out.free9
      unfold nine at HTG HKC HKY HBV
      clear hkb hkx hbw htf hheld
      go_simp
      refine hK.out _ _ ⟨HKY.out,HLE.out,⟨_,fun x hx=>.inl hx,HTG.out⟩,HBV.out⟩ ?_
      clear hK hS z0 z1 z2 z3 z4 z5 z6 z7 z8 g0 g1 g2 g3 g4 g5 g6 g7 g8 HKB
      refine HT.tail _ rfl rfl (by kernel_rfl) (fun hS=>?_)
      clear hS
      obtain⟨u1,hu1⟩:∃ u1,(((((((((w7.setCell ⟨b15,0,none⟩ (.string q1.E.k)).setCell ⟨b15,1,none⟩ (.string q1.E.v)).setCell ⟨b15,2,none⟩ (.int .i64 q1.E.s)).setCell ⟨b15,3,none⟩ (.string q1.E.r)).setCell ⟨b15,4,none⟩ (.int .i64 q1.E.m)).setCell ⟨b15,5,none⟩ (.slice q1.A q1.E.fs.length q1.c)).setCell ⟨b15,6,none⟩ (.slice q1.X q1.E.body.length q1.d)).setCell ⟨b15,7,none⟩ (.int .i64 q1.E.asked)).setCell ⟨b15,8,none⟩ (.int .i64 q1.E.got))=u1:=⟨_,rfl⟩
      rw[hu1]at HTG HKC HKY HBV ⊢
      clear hu1
      go_wp2
      refine NoPanic.normal ?_
      go_upto_region 23 with fail
      have hS0:Blk u1.drew bx #[.int .i64 2,.string p.E.k,.string p.E.v,.int .i64 p.E.s,.string p.E.r,.int .i64 p.E.m,.slice p.A p.E.fs.length p.c,.slice p.X p.E.body.length p.d,.int .i64 p.E.asked,.int .i64 p.E.got,.string key,.slice Y na cy] 43∧Blk u1.drew b15 #[.string q1.E.k,.string q1.E.v,.int .i64 q1.E.s,.string q1.E.r,.int .i64 q1.E.m,.slice q1.A q1.E.fs.length q1.c,.slice q1.X q1.E.body.length q1.d,.int .i64 q1.E.asked,.int .i64 q1.E.got] 41∧(∃ Q,(∀ q,(fun y=>(fun _=>False) y∨y=q1) q→Q q)∧jL B2 r2 c2 B1 r1 c1 (C.bV s) (C.bV s) Q u1.drew)∧Below w.heap.size w u1.drew:=⟨HKY.out.below (zB _ _).drew,HKC.out.below (zB _ _).drew,⟨_,fun _ h=>h,HTG.out.swap.below (zB _ _).drew⟩,HBV.out.drew⟩
      refine wp_region_noPanic ?_
      refine HT.begin (n:=12) (S:=(fun u=>Blk u bx #[.int .i64 2,.string p.E.k,.string p.E.v,.int .i64 p.E.s,.string p.E.r,.int .i64 p.E.m,.slice p.A p.E.fs.length p.c,.slice p.X p.E.body.length p.d,.int .i64 p.E.asked,.int .i64 p.E.got,.string key,.slice Y na cy] 43∧Blk u b15 #[.string q1.E.k,.string q1.E.v,.int .i64 q1.E.s,.string q1.E.r,.int .i64 q1.E.m,.slice q1.A q1.E.fs.length q1.c,.slice q1.X q1.E.body.length q1.d,.int .i64 q1.E.asked,.int .i64 q1.E.got] 41∧(∃ Q,(∀ q,(fun y=>(fun _=>False) y∨y=q1) q→Q q)∧jL B2 r2 c2 B1 r1 c1 (C.bV s) (C.bV s) Q u)∧Below w.heap.size w u)) (by kernel_rfl) hS0 ?_
      generalize u1.drew=v2 at *
      clear HKY HTG HBV HKC HLE
      refine HT.take 0 (.pointer (some ⟨c2,0,none⟩)) rfl (by kernel_rfl) (fun _ _ _ h=>h) (Or.inl ⟨by rfl,?_⟩) ?_
      ·intro u hu
       go_simp
      refine HT.take 1 (.pointer (some ⟨bx,10,none⟩)) rfl (by kernel_rfl) (fun _ _ _ h=>h) (Or.inl ⟨by rfl,?_⟩) ?_
      ·intro u hu
       go_simp
      refine HT.take 2 (.string key) rfl (by kernel_rfl) (fun _ _ _ h=>h) (Or.inl ⟨by rfl,?_⟩) ?_
      ·intro u hu
       have x10:=hu.1.cell 10 rfl
       go_simp
      refine HT.take 3 (.pointer (some ⟨bx,11,none⟩)) rfl (by kernel_rfl) (fun _ _ _ h=>h) (Or.inl ⟨by rfl,?_⟩) ?_
      ·intro u hu
       go_simp
      refine HT.take 4 (.slice Y na cy) rfl (by kernel_rfl) (fun _ _ _ h=>h) (Or.inl ⟨by rfl,?_⟩) (?_:HT _ _ _ _ _ _ _ ⟨#[_,_,_,_,_,_,_,.pointer (some ⟨c1,0,none⟩),_,_,.pointer (some ⟨c2,0,none⟩),_,_,_,.pointer (some ⟨bx,0,none⟩),_,_,_,_,_,_,_,_,_,_,_,_,_,_,_,_,_,_,_,_,_,_,_,_,_,_,_,_,_,_,_,_,_,_,_,_,_,_,_,_,_,_,_,_,_,_,_,_,_,_,_,_,_,_,_,_,_,_,_,_,_,_,_,_,_,_,_,_,_,_,_,_,_,_,_,_,_,_,_,_,_,_,_,.pointer (some ⟨c2,0,none⟩),.pointer (some ⟨bx,10,none⟩),.string key,.pointer (some ⟨bx,11,none⟩),.slice Y na cy,_,_,_,_,_,_,_,_,_,_,_,_,_,_,_,_,_,_,_,_,_,_,_,_,_,_,_,_,_,_,_,_,_,_,_,_,_,_,_,_,_,_],[]⟩ _)
      ·intro u hu
       have x11:=hu.1.cell 11 rfl
       go_simp
      refine HT.lay (f2:=2) (α:=Nat × EP × Option Addr × Nat) #[true,true,true,true,true,true,true,true,true,true,true,false,false] (fun x a=>((((((a.put (some 103) (.slice x.2.2.1 na x.2.2.2)).put (some 104) (.tuple #[.agg #[.string x.2.1.E.k,.string x.2.1.E.v,.int .i64 x.2.1.E.s,.string x.2.1.E.r,.int .i64 x.2.1.E.m,.slice x.2.1.A x.2.1.E.fs.length x.2.1.c,.slice x.2.1.X x.2.1.E.body.length x.2.1.d,.int .i64 x.2.1.E.asked,.int .i64 x.2.1.E.got],.bool ok])).put (some 97) (.tuple #[.agg #[.string x.2.1.E.k,.string x.2.1.E.v,.int .i64 x.2.1.E.s,.string x.2.1.E.r,.int .i64 x.2.1.E.m,.slice x.2.1.A x.2.1.E.fs.length x.2.1.c,.slice x.2.1.X x.2.1.E.body.length x.2.1.d,.int .i64 x.2.1.E.asked,.int .i64 x.2.1.E.got],.bool ok])).put (some 105) (.agg #[.string x.2.1.E.k,.string x.2.1.E.v,.int .i64 x.2.1.E.s,.string x.2.1.E.r,.int .i64 x.2.1.E.m,.slice x.2.1.A x.2.1.E.fs.length x.2.1.c,.slice x.2.1.X x.2.1.E.body.length x.2.1.d,.int .i64 x.2.1.E.asked,.int .i64 x.2.1.E.got])).put (some 106) (.bool ok)).put (some 17) (.pointer (some ⟨x.1,0,none⟩)))) (fun x w8=>(w.heap.size≤x.1∧b15 < x.1)∧Blk w8 x.1 #[.string ⟨#[]⟩,.string ⟨#[]⟩,.int .i64 0,.string ⟨#[]⟩,.int .i64 0,.slice none 0 0,.slice none 0 0,.int .i64 0,.int .i64 0] 41∧Blk w8 bx #[.int .i64 2,.string p.E.k,.string p.E.v,.int .i64 p.E.s,.string p.E.r,.int .i64 p.E.m,.slice p.A p.E.fs.length p.c,.slice p.X p.E.body.length p.d,.int .i64 p.E.asked,.int .i64 p.E.got,.string key,.slice Y na cy] 43∧Blk w8 b15 #[.string q1.E.k,.string q1.E.v,.int .i64 q1.E.s,.string q1.E.r,.int .i64 q1.E.m,.slice q1.A q1.E.fs.length q1.c,.slice q1.X q1.E.body.length q1.d,.int .i64 q1.E.asked,.int .i64 q1.E.got] 41∧Below w.heap.size w w8∧x.2.1.E=((C.fnd s key ask).map (·.2)).getD O.Ent.zero∧jL B2 r2 c2 B1 r1 c1 (C.bV s) (C.bV s) (fun y=>(fun y=>(fun _=>False) y∨y=q1) y∨y=x.2.1) w8) ?_ (fun HFIN=>?_)
      ·rintro⟨b17,q2,Y1,cy1⟩ w8 ⟨hzb,hkb,hkx,hheld,hbw,hqE,htf⟩
       dsimp only at hzb hkb hqE htf
       have HQE2:=aH hqE
       clear hqE
       refine (?_:HT _ _ _ _ _ _ _ ⟨#[_,_,_,_,_,_,_,.pointer (some ⟨c1,0,none⟩),_,_,.pointer (some ⟨c2,0,none⟩),_,_,_,.pointer (some ⟨bx,0,none⟩),_,_,.pointer (some ⟨b17,0,none⟩),_,_,_,_,_,_,_,_,_,_,_,_,_,_,_,_,_,_,_,_,_,_,_,_,_,_,_,_,_,_,_,_,_,_,_,_,_,_,_,_,_,_,_,_,_,_,_,_,_,_,_,_,_,_,_,_,_,_,_,_,_,_,_,_,_,_,_,_,_,_,_,_,_,_,_,_,_,_,_,.tuple #[.agg #[.string q2.E.k,.string q2.E.v,.int .i64 q2.E.s,.string q2.E.r,.int .i64 q2.E.m,.slice q2.A q2.E.fs.length q2.c,.slice q2.X q2.E.body.length q2.d,.int .i64 q2.E.asked,.int .i64 q2.E.got],.bool ok],.pointer (some ⟨c2,0,none⟩),.pointer (some ⟨bx,10,none⟩),.string key,.pointer (some ⟨bx,11,none⟩),.slice Y na cy,.slice Y1 na cy1,.tuple #[.agg #[.string q2.E.k,.string q2.E.v,.int .i64 q2.E.s,.string q2.E.r,.int .i64 q2.E.m,.slice q2.A q2.E.fs.length q2.c,.slice q2.X q2.E.body.length q2.d,.int .i64 q2.E.asked,.int .i64 q2.E.got],.bool ok],.agg #[.string q2.E.k,.string q2.E.v,.int .i64 q2.E.s,.string q2.E.r,.int .i64 q2.E.m,.slice q2.A q2.E.fs.length q2.c,.slice q2.X q2.E.body.length q2.d,.int .i64 q2.E.asked,.int .i64 q2.E.got],.bool ok,_,_,_,_,_,_,_,_,_,_,_,_,_,_,_,_,_,_,_,_,_,_,_,_,_,_,_,_,_,_,_,_,_,_,_,_,_,_],[]⟩ _)
       refine HT.step 11 rfl (by kernel_rfl) (fun hS K hK=>?_)
       go_simp
       have HKB:=aH hkb
       have HTG:=aH (htf.nine hkb (.string q2.E.k) (.string q2.E.v) (.int .i64 q2.E.s) (.string q2.E.r) (.int .i64 q2.E.m) (.slice q2.A q2.E.fs.length q2.c) (.slice q2.X q2.E.body.length q2.d) (.int .i64 q2.E.asked) (.int .i64 q2.E.got))
       have HKC:=aH (hkb.set9 (.string q2.E.k) (.string q2.E.v) (.int .i64 q2.E.s) (.string q2.E.r) (.int .i64 q2.E.m) (.slice q2.A q2.E.fs.length q2.c) (.slice q2.X q2.E.body.length q2.d) (.int .i64 q2.E.asked) (.int .i64 q2.E.got))
       have HKY:=aH (hkx.nine_far (hkx.tag.ne hkb.tag (by decide)) (.string q2.E.k) (.string q2.E.v) (.int .i64 q2.E.s) (.string q2.E.r) (.int .i64 q2.E.m) (.slice q2.A q2.E.fs.length q2.c) (.slice q2.X q2.E.body.length q2.d) (.int .i64 q2.E.asked) (.int .i64 q2.E.got))
       have HBV:Hid (Below w.heap.size w (nine w8 b17 (.string q2.E.k) (.string q2.E.v) (.int .i64 q2.E.s) (.string q2.E.r) (.int .i64 q2.E.m) (.slice q2.A q2.E.fs.length q2.c) (.slice q2.X q2.E.body.length q2.d) (.int .i64 q2.E.asked) (.int .i64 q2.E.got))):=aH (aK hbw hzb.1 (.string q2.E.k) (.string q2.E.v) (.int .i64 q2.E.s) (.string q2.E.r) (.int .i64 q2.E.m) (.slice q2.A q2.E.fs.length q2.c) (.slice q2.X q2.E.body.length q2.d) (.int .i64 q2.E.asked) (.int .i64 q2.E.got))
       have HLE:=aH (hheld.nine_far (Nat.ne_of_lt hzb.2) (.string q2.E.k) (.string q2.E.v) (.int .i64 q2.E.s) (.string q2.E.r) (.int .i64 q2.E.m) (.slice q2.A q2.E.fs.length q2.c) (.slice q2.X q2.E.body.length q2.d) (.int .i64 q2.E.asked) (.int .i64 q2.E.got))
       obtain⟨z0,z1,z2,z3,z4,z5,z6,z7,z8⟩:=HKB.out.cells9
       obtain⟨g0,g1,g2,g3,g4,g5,g6,g7,g8⟩:=HKB.out.free9
       unfold nine at HTG HKC HKY HBV HLE
       clear hkb hkx hbw htf hheld
       go_simp
       refine hK.out _ _ ⟨HKY.out,HLE.out,⟨_,fun x hx=>.inl hx,HTG.out⟩,HBV.out⟩ ?_
       clear hK hS z0 z1 z2 z3 z4 z5 z6 z7 z8 g0 g1 g2 g3 g4 g5 g6 g7 g8 HKB
       refine HT.tail _ rfl rfl (by kernel_rfl) (fun hS=>?_)
       clear hS
       obtain⟨u2,hu2⟩:∃ u2,(((((((((w8.setCell ⟨b17,0,none⟩ (.string q2.E.k)).setCell ⟨b17,1,none⟩ (.string q2.E.v)).setCell ⟨b17,2,none⟩ (.int .i64 q2.E.s)).setCell ⟨b17,3,none⟩ (.string q2.E.r)).setCell ⟨b17,4,none⟩ (.int .i64 q2.E.m)).setCell ⟨b17,5,none⟩ (.slice q2.A q2.E.fs.length q2.c)).setCell ⟨b17,6,none⟩ (.slice q2.X q2.E.body.length q2.d)).setCell ⟨b17,7,none⟩ (.int .i64 q2.E.asked)).setCell ⟨b17,8,none⟩ (.int .i64 q2.E.got))=u2:=⟨_,rfl⟩
       rw[hu2]at HTG HKC HKY HBV HLE ⊢
       clear hu2
       go_wp2
       refine NoPanic.normal ?_
       obtain⟨-,-,_,_,_,_,-,-,-,-,-,-,-,hout⟩:=HTG.out
       have hr1:=(hout q1 (.inl (.inr rfl))).own.rd
       have hr2:=(hout q2 (.inr rfl)).own.rd
       have hs1:=HFND.out _ HQE1.out
       obtain⟨E,qA,qc,qX,qd⟩:=q1
       obtain⟨E2,rA,rc,rX,rd⟩:=q2
       obtain rfl:E2=E:=HQE2.out.trans HQE1.out.symm
       unfold ERd at hr1 hr2
       dsimp only at hr1 hr2 hs1 HKC HLE
       have HSE:=aH (yD E2.k E2.v E2.s E2.r E2.m qA qc E2.fs qX qd E2.body E2.asked E2.got rA rc rX rd u2 hs1.1 hs1.2 hr1.1 hr2.1 hr1.2 hr2.2)
       obtain⟨x0,x1,x2,x3,x4,x5,x6,x7,x8⟩:=HLE.out.cells9
       obtain⟨y0,y1,y2,y3,y4,y5,y6,y7,y8⟩:=HKC.out.cells9
       have hoo:(ok != ok)=false:=by cases ok<;>rfl
       clear hout hr1 hr2 hs1
       go_wp2_with fail
       clear x0 x1 x2 x3 x4 x5 x6 x7 x8 y0 y1 y2 y3 y4 y5 y6 y7 y8
       refine HSE.out.mono ?_
       rintro e w10 ⟨rfl,hb10⟩
       have HTX:=aH ((HTG.out.below hb10).swap.imp (fun _ h=>h) (Q':=(fun _=>False)) (fun _ h=>h.elim))
       have HBX:=aH (aA HBV.out.size HBV.out hb10)
       clear hb10 HSE
       go_wp2
       go_roundw
       case rel=>exact⟨k+1,j,s,by omega,by go_num,HOJ.out,by omega,HTX.out,HBX.out⟩
       case measure=>simp [intOf];omega
      have hSB:∀ u u',Below u.heap.size u u'→(Blk u bx #[.int .i64 2,.string p.E.k,.string p.E.v,.int .i64 p.E.s,.string p.E.r,.int .i64 p.E.m,.slice p.A p.E.fs.length p.c,.slice p.X p.E.body.length p.d,.int .i64 p.E.asked,.int .i64 p.E.got,.string key,.slice Y na cy] 43∧Blk u b15 #[.string q1.E.k,.string q1.E.v,.int .i64 q1.E.s,.string q1.E.r,.int .i64 q1.E.m,.slice q1.A q1.E.fs.length q1.c,.slice q1.X q1.E.body.length q1.d,.int .i64 q1.E.asked,.int .i64 q1.E.got] 41∧(∃ Q,(∀ q,(fun y=>(fun _=>False) y∨y=q1) q→Q q)∧jL B2 r2 c2 B1 r1 c1 (C.bV s) (C.bV s) Q u)∧Below w.heap.size w u)→Blk u' bx #[.int .i64 2,.string p.E.k,.string p.E.v,.int .i64 p.E.s,.string p.E.r,.int .i64 p.E.m,.slice p.A p.E.fs.length p.c,.slice p.X p.E.body.length p.d,.int .i64 p.E.asked,.int .i64 p.E.got,.string key,.slice Y na cy] 43∧Blk u' b15 #[.string q1.E.k,.string q1.E.v,.int .i64 q1.E.s,.string q1.E.r,.int .i64 q1.E.m,.slice q1.A q1.E.fs.length q1.c,.slice q1.X q1.E.body.length q1.d,.int .i64 q1.E.asked,.int .i64 q1.E.got] 41∧(∃ Q,(∀ q,(fun y=>(fun _=>False) y∨y=q1) q→Q q)∧jL B2 r2 c2 B1 r1 c1 (C.bV s) (C.bV s) Q u')∧Below w.heap.size w u':=fun u u' hb h=>⟨h.1.below hb,h.2.1.below hb,h.2.2.1.imp (fun Q h=>⟨h.1,h.2.below hb⟩),aA h.2.2.2.size h.2.2.2 hb⟩
      refine HT.lay (f2:=6) (α:=Nat × Option Addr × Nat) #[true,true,true,true,true,true,false,false,false,false,true,false,false] (fun x a=>((a.put (some 103) (.slice x.2.1 na x.2.2)).put (some 17) (.pointer (some ⟨x.1,0,none⟩)))) (fun x u=>(w.heap.size≤x.1∧b15 < x.1)∧Blk u x.1 #[.string ⟨#[]⟩,.string ⟨#[]⟩,.int .i64 0,.string ⟨#[]⟩,.int .i64 0,.slice none 0 0,.slice none 0 0,.int .i64 0,.int .i64 0] 41∧Rd u x.2.1 na 2 (aI ask)) ?_ (fun HMID=>?_)
      ·rintro⟨b17,Y1,cy1⟩ u ⟨hzb,hkb,hry⟩
       dsimp only at hzb hkb hry
       refine (?_:HT _ _ _ _ _ _ _ ⟨#[_,_,_,_,_,_,_,.pointer (some ⟨c1,0,none⟩),_,_,.pointer (some ⟨c2,0,none⟩),_,_,_,.pointer (some ⟨bx,0,none⟩),_,_,.pointer (some ⟨b17,0,none⟩),_,_,_,_,_,_,_,_,_,_,_,_,_,_,_,_,_,_,_,_,_,_,_,_,_,_,_,_,_,_,_,_,_,_,_,_,_,_,_,_,_,_,_,_,_,_,_,_,_,_,_,_,_,_,_,_,_,_,_,_,_,_,_,_,_,_,_,_,_,_,_,_,_,_,_,_,_,_,_,_,.pointer (some ⟨c2,0,none⟩),.pointer (some ⟨bx,10,none⟩),.string key,.pointer (some ⟨bx,11,none⟩),.slice Y na cy,.slice Y1 na cy1,_,_,_,_,_,_,_,_,_,_,_,_,_,_,_,_,_,_,_,_,_,_,_,_,_,_,_,_,_,_,_,_,_,_,_,_,_,_,_,_,_],[]⟩ _)
       refine HT.step 6 rfl (by kernel_rfl) (fun hS K hK=>?_)
       go_simp
       obtain⟨hkx,hheld,⟨Q,hQ,htq⟩,hbw⟩:=hS
       have hfi:=jZ key Y1 cy1 ask htq (by have:=HPS.out;omega) (by have:=HPS.out;omega) (by rw[HNA.out];exact hry) (fun u' hu'=>HTA.out u hbw u' (.inr hu'))
       rw[HNA.out,HOKF.out]at hfi
       have HFI:=aH hfi
       clear hfi
       go_simp
       refine HFI.out.mono ?_
       rintro e w8 ⟨q2,rfl,hqE,htf,hstf,hbf⟩
       have HQF:=aH hqE
       clear hqE
       have hkb:=hstf _ _ _ (.inr rfl) hkb
       have hkx:=hstf _ _ _ (.inl rfl) hkx
       have hbw:=hbw.trans (hbf.mono HBZ.out.2)
       have hheld:=hstf _ _ _ (.inr rfl) hheld
       have htf2:=htf.imp (Q':=(fun x=>(fun y=>(fun _=>False) y∨y=q1) x∨x=q2)) (fun _ h=>h) (fun x hx=>hx.imp (hQ x) id)
       unfold EP.v kK
       refine hK.out _ _ ⟨hkx,hheld,⟨_,fun x hx=>.inl hx,htf2⟩,hbw⟩ ?_
       clear hK htf htq hQ hstf hbf HFI Q
       refine HT.take 7 (.tuple #[.agg #[.string q2.E.k,.string q2.E.v,.int .i64 q2.E.s,.string q2.E.r,.int .i64 q2.E.m,.slice q2.A q2.E.fs.length q2.c,.slice q2.X q2.E.body.length q2.d,.int .i64 q2.E.asked,.int .i64 q2.E.got],.bool ok]) rfl (by kernel_rfl) (fun _ _ _ h=>h) (Or.inl ⟨by rfl,?_⟩) ?_
       ·intro u hu
        go_simp
       refine HT.take 8 (.agg #[.string q2.E.k,.string q2.E.v,.int .i64 q2.E.s,.string q2.E.r,.int .i64 q2.E.m,.slice q2.A q2.E.fs.length q2.c,.slice q2.X q2.E.body.length q2.d,.int .i64 q2.E.asked,.int .i64 q2.E.got]) rfl (by kernel_rfl) (fun _ _ _ h=>h) (Or.inl ⟨by rfl,?_⟩) ?_
       ·intro u hu
        go_simp
       refine HT.take 9 (.bool ok) rfl (by kernel_rfl) (fun _ _ _ h=>h) (Or.inl ⟨by rfl,?_⟩) (?_:HT _ _ _ _ _ _ _ ⟨#[_,_,_,_,_,_,_,.pointer (some ⟨c1,0,none⟩),_,_,.pointer (some ⟨c2,0,none⟩),_,_,_,.pointer (some ⟨bx,0,none⟩),_,_,.pointer (some ⟨b17,0,none⟩),_,_,_,_,_,_,_,_,_,_,_,_,_,_,_,_,_,_,_,_,_,_,_,_,_,_,_,_,_,_,_,_,_,_,_,_,_,_,_,_,_,_,_,_,_,_,_,_,_,_,_,_,_,_,_,_,_,_,_,_,_,_,_,_,_,_,_,_,_,_,_,_,_,_,_,_,_,_,_,.tuple #[.agg #[.string q2.E.k,.string q2.E.v,.int .i64 q2.E.s,.string q2.E.r,.int .i64 q2.E.m,.slice q2.A q2.E.fs.length q2.c,.slice q2.X q2.E.body.length q2.d,.int .i64 q2.E.asked,.int .i64 q2.E.got],.bool ok],.pointer (some ⟨c2,0,none⟩),.pointer (some ⟨bx,10,none⟩),.string key,.pointer (some ⟨bx,11,none⟩),.slice Y na cy,.slice Y1 na cy1,.tuple #[.agg #[.string q2.E.k,.string q2.E.v,.int .i64 q2.E.s,.string q2.E.r,.int .i64 q2.E.m,.slice q2.A q2.E.fs.length q2.c,.slice q2.X q2.E.body.length q2.d,.int .i64 q2.E.asked,.int .i64 q2.E.got],.bool ok],.agg #[.string q2.E.k,.string q2.E.v,.int .i64 q2.E.s,.string q2.E.r,.int .i64 q2.E.m,.slice q2.A q2.E.fs.length q2.c,.slice q2.X q2.E.body.length q2.d,.int .i64 q2.E.asked,.int .i64 q2.E.got],.bool ok,_,_,_,_,_,_,_,_,_,_,_,_,_,_,_,_,_,_,_,_,_,_,_,_,_,_,_,_,_,_,_,_,_,_,_,_,_,_],[]⟩ _)
       ·intro u hu
        go_simp
       exact HT.to (by kernel_rfl) (HFIN.out (b17,q2,Y1,cy1) w8 ⟨hzb,hkb,hkx,hheld,hbw,HQF.out,htf2⟩)
      refine HT.two 5 10 rfl rfl (by kernel_rfl) (fun hS K hK=>?_) (fun hS K hK=>?_)
      ·skip
       go_simp
       refine (HCF.out v2 hS.2.2.2).mono ?_
       rintro e w6 ⟨Y1,cy1,rfl,hry,hb6⟩
       have hS6:=hSB _ _ hb6 hS
       have hry:=hry.rd
       refine hK.out _ _ hS6 ?_
       clear hK hS hb6
       refine HT.two 6 10 rfl rfl (by kernel_rfl) (fun hS K hK=>?_) (fun hS K hK=>?_)
       ·skip
        obtain⟨hkx,hheld,⟨Q,hQ,htq⟩,hbw⟩:=hS
        have hfi:=jZ key Y1 cy1 ask htq (by have:=HPS.out;omega) (by have:=HPS.out;omega) (by rw[HNA.out];exact hry) (fun u' hu'=>HTA.out w6 hbw u' (.inr hu'))
        rw[HNA.out,HOKF.out]at hfi
        have HFI:=aH hfi
        clear hfi
        go_simp
        refine HFI.out.mono ?_
        rintro e w8 ⟨q2,rfl,hqE,htf,hstf,hbf⟩
        have HQF:=aH hqE
        clear hqE
        have hkx:=hstf _ _ _ (.inl rfl) hkx
        have hbw:=hbw.trans (hbf.mono HBZ.out.2)
        have hheld:=hstf _ _ _ (.inr rfl) hheld
        have htf2:=htf.imp (Q':=(fun x=>(fun y=>(fun _=>False) y∨y=q1) x∨x=q2)) (fun _ h=>h) (fun x hx=>hx.imp (hQ x) id)
        unfold EP.v kK
        refine hK.out _ _ ⟨hkx,hheld,⟨_,fun x hx=>.inl hx,htf2⟩,hbw⟩ ?_
        clear hK htf htq hQ hstf hbf HFI Q
        refine HT.take 7 (.tuple #[.agg #[.string q2.E.k,.string q2.E.v,.int .i64 q2.E.s,.string q2.E.r,.int .i64 q2.E.m,.slice q2.A q2.E.fs.length q2.c,.slice q2.X q2.E.body.length q2.d,.int .i64 q2.E.asked,.int .i64 q2.E.got],.bool ok]) rfl (by kernel_rfl) (fun _ _ _ h=>h) (Or.inl ⟨by rfl,?_⟩) ?_
        ·intro u hu
         go_simp
        refine HT.take 8 (.agg #[.string q2.E.k,.string q2.E.v,.int .i64 q2.E.s,.string q2.E.r,.int .i64 q2.E.m,.slice q2.A q2.E.fs.length q2.c,.slice q2.X q2.E.body.length q2.d,.int .i64 q2.E.asked,.int .i64 q2.E.got]) rfl (by kernel_rfl) (fun _ _ _ h=>h) (Or.inl ⟨by rfl,?_⟩) ?_
        ·intro u hu
         go_simp
        refine HT.take 9 (.bool ok) rfl (by kernel_rfl) (fun _ _ _ h=>h) (Or.inl ⟨by rfl,?_⟩) (?_:HT _ _ _ _ _ _ _ ⟨#[_,_,_,_,_,_,_,.pointer (some ⟨c1,0,none⟩),_,_,.pointer (some ⟨c2,0,none⟩),_,_,_,.pointer (some ⟨bx,0,none⟩),_,_,_,_,_,_,_,_,_,_,_,_,_,_,_,_,_,_,_,_,_,_,_,_,_,_,_,_,_,_,_,_,_,_,_,_,_,_,_,_,_,_,_,_,_,_,_,_,_,_,_,_,_,_,_,_,_,_,_,_,_,_,_,_,_,_,_,_,_,_,_,_,_,_,_,_,_,_,_,_,_,_,.tuple #[.agg #[.string q2.E.k,.string q2.E.v,.int .i64 q2.E.s,.string q2.E.r,.int .i64 q2.E.m,.slice q2.A q2.E.fs.length q2.c,.slice q2.X q2.E.body.length q2.d,.int .i64 q2.E.asked,.int .i64 q2.E.got],.bool ok],.pointer (some ⟨c2,0,none⟩),.pointer (some ⟨bx,10,none⟩),.string key,.pointer (some ⟨bx,11,none⟩),.slice Y na cy,.slice Y1 na cy1,.tuple #[.agg #[.string q2.E.k,.string q2.E.v,.int .i64 q2.E.s,.string q2.E.r,.int .i64 q2.E.m,.slice q2.A q2.E.fs.length q2.c,.slice q2.X q2.E.body.length q2.d,.int .i64 q2.E.asked,.int .i64 q2.E.got],.bool ok],.agg #[.string q2.E.k,.string q2.E.v,.int .i64 q2.E.s,.string q2.E.r,.int .i64 q2.E.m,.slice q2.A q2.E.fs.length q2.c,.slice q2.X q2.E.body.length q2.d,.int .i64 q2.E.asked,.int .i64 q2.E.got],.bool ok,_,_,_,_,_,_,_,_,_,_,_,_,_,_,_,_,_,_,_,_,_,_,_,_,_,_,_,_,_,_,_,_,_,_,_,_,_,_],[]⟩ _)
        ·intro u hu
         go_simp
        refine HT.step 10 rfl (by kernel_rfl) (fun hS K hK=>?_)
        have hkb:=Blk.new w8 #[.string ⟨#[]⟩,.string ⟨#[]⟩,.int .i64 0,.string ⟨#[]⟩,.int .i64 0,.slice none 0 0,.slice none 0 0,.int .i64 0,.int .i64 0] 41
        have hba:Below w8.heap.size w8 (w8.alloc (.cells #[.string ⟨#[]⟩,.string ⟨#[]⟩,.int .i64 0,.string ⟨#[]⟩,.int .i64 0,.slice none 0 0,.slice none 0 0,.int .i64 0,.int .i64 0] 41)):=(zB _ _).alloc (zA _) _
        have hSA:=hSB _ _ hba hS
        go_simp
        refine hK.out _ _ hSA ?_
        exact HT.to (by kernel_rfl) (HFIN.out (w8.heap.size,q2,Y1,cy1) _ ⟨⟨hbw.size,hheld.lt⟩,hkb,hkx.below hba,hheld.below hba,aA hbw.size hbw hba,HQF.out,htf2.below hba⟩)
       ·skip
        have hkb:=Blk.new w6 #[.string ⟨#[]⟩,.string ⟨#[]⟩,.int .i64 0,.string ⟨#[]⟩,.int .i64 0,.slice none 0 0,.slice none 0 0,.int .i64 0,.int .i64 0] 41
        have hzb:w.heap.size≤w6.heap.size∧b15 < w6.heap.size:=⟨hS.2.2.2.size,hS.2.1.lt⟩
        have hba:Below w6.heap.size w6 (w6.alloc (.cells #[.string ⟨#[]⟩,.string ⟨#[]⟩,.int .i64 0,.string ⟨#[]⟩,.int .i64 0,.slice none 0 0,.slice none 0 0,.int .i64 0,.int .i64 0] 41)):=(zB _ _).alloc (zA _) _
        have hSA:=hSB _ _ hba hS
        go_simp
        refine hK.out _ _ hSA ?_
        exact HT.to (by kernel_rfl) (HMID.out (w6.heap.size,Y1,cy1) _ ⟨hzb,hkb,hry.below hba⟩)
      ·skip
       have hkb:=Blk.new v2 #[.string ⟨#[]⟩,.string ⟨#[]⟩,.int .i64 0,.string ⟨#[]⟩,.int .i64 0,.slice none 0 0,.slice none 0 0,.int .i64 0,.int .i64 0] 41
       have hzb:w.heap.size≤v2.heap.size∧b15 < v2.heap.size:=⟨hS.2.2.2.size,hS.2.1.lt⟩
       have hba:Below v2.heap.size v2 (v2.alloc (.cells #[.string ⟨#[]⟩,.string ⟨#[]⟩,.int .i64 0,.string ⟨#[]⟩,.int .i64 0,.slice none 0 0,.slice none 0 0,.int .i64 0,.int .i64 0] 41)):=(zB _ _).alloc (zA _) _
       have hSA:=hSB _ _ hba hS
       go_simp
       refine hK.out _ _ hSA ?_
       clear hK hS
       refine HT.step 5 rfl (by kernel_rfl) (fun hS K hK=>?_)
       go_simp
       refine (HCF.out _ hS.2.2.2).mono ?_
       rintro e w6 ⟨Y1,cy1,rfl,hry,hb6⟩
       have hS6:=hSB _ _ hb6 hS
       have hry:=hry.rd
       have hkb:=hkb.below hb6
       refine hK.out _ _ hS6 ?_
       clear hK hS hb6
       exact HT.to (by kernel_rfl) (HMID.out (v2.heap.size,Y1,cy1) _ ⟨hzb,hkb,hry⟩)
     have hSB:∀ u u',Below u.heap.size u u'→(Blk u bx #[.int .i64 2,.string p.E.k,.string p.E.v,.int .i64 p.E.s,.string p.E.r,.int .i64 p.E.m,.slice p.A p.E.fs.length p.c,.slice p.X p.E.body.length p.d,.int .i64 p.E.asked,.int .i64 p.E.got,.string key,.slice Y na cy] 43∧True∧(∃ Q,(∀ q,(fun _=>False) q→Q q)∧jL B1 r1 c1 B2 r2 c2 (C.bV s) (C.bV s) Q u)∧Below w.heap.size w u)→Blk u' bx #[.int .i64 2,.string p.E.k,.string p.E.v,.int .i64 p.E.s,.string p.E.r,.int .i64 p.E.m,.slice p.A p.E.fs.length p.c,.slice p.X p.E.body.length p.d,.int .i64 p.E.asked,.int .i64 p.E.got,.string key,.slice Y na cy] 43∧True∧(∃ Q,(∀ q,(fun _=>False) q→Q q)∧jL B1 r1 c1 B2 r2 c2 (C.bV s) (C.bV s) Q u')∧Below w.heap.size w u':=fun u u' hb h=>⟨h.1.below hb,trivial,h.2.2.1.imp (fun Q h=>⟨h.1,h.2.below hb⟩),aA h.2.2.2.size h.2.2.2 hb⟩
     refine HT.lay (f2:=6) (α:=Nat × Option Addr × Nat) #[true,true,true,true,true,true,false,false,false,false,true,false,false] (fun x a=>((a.put (some 93) (.slice x.2.1 na x.2.2)).put (some 15) (.pointer (some ⟨x.1,0,none⟩)))) (fun x u=>(w.heap.size≤x.1)∧Blk u x.1 #[.string ⟨#[]⟩,.string ⟨#[]⟩,.int .i64 0,.string ⟨#[]⟩,.int .i64 0,.slice none 0 0,.slice none 0 0,.int .i64 0,.int .i64 0] 41∧Rd u x.2.1 na 2 (aI ask)) ?_ (fun HMID=>?_)
     ·rintro⟨b15,Y1,cy1⟩ u ⟨hzb,hkb,hry⟩
      dsimp only at hzb hkb hry
      refine (?_:HT _ _ _ _ _ _ _ ⟨#[_,_,_,_,_,_,_,.pointer (some ⟨c1,0,none⟩),_,_,.pointer (some ⟨c2,0,none⟩),_,_,_,.pointer (some ⟨bx,0,none⟩),.pointer (some ⟨b15,0,none⟩),_,_,_,_,_,_,_,_,_,_,_,_,_,_,_,_,_,_,_,_,_,_,_,_,_,_,_,_,_,_,_,_,_,_,_,_,_,_,_,_,_,_,_,_,_,_,_,_,_,_,_,_,_,_,_,_,_,_,_,_,_,_,_,_,_,_,_,_,_,_,_,_,.pointer (some ⟨c1,0,none⟩),.pointer (some ⟨bx,10,none⟩),.string key,.pointer (some ⟨bx,11,none⟩),.slice Y na cy,.slice Y1 na cy1,_,_,_,_,_,_,_,_,_,_,_,_,_,_,_,_,_,_,_,_,_,_,_,_,_,_,_,_,_,_,_,_,_,_,_,_,_,_,_,_,_,_,_,_,_,_,_,_,_,_,_],[]⟩ _)
      refine HT.step 6 rfl (by kernel_rfl) (fun hS K hK=>?_)
      go_simp
      obtain⟨hkx,hheld,⟨Q,hQ,htq⟩,hbw⟩:=hS
      have hfi:=jZ key Y1 cy1 ask htq (by have:=HPS.out;omega) (by have:=HPS.out;omega) (by rw[HNA.out];exact hry) (fun u' hu'=>HTA.out u hbw u' (.inl hu'))
      rw[HNA.out,HOKF.out]at hfi
      have HFI:=aH hfi
      clear hfi
      go_simp
      refine HFI.out.mono ?_
      rintro e w7 ⟨q1,rfl,hqE,htf,hstf,hbf⟩
      have HQF:=aH hqE
      clear hqE
      have hkb:=hstf _ _ _ (.inr rfl) hkb
      have hkx:=hstf _ _ _ (.inl rfl) hkx
      have hbw:=hbw.trans (hbf.mono HBZ.out.1)
      have hheld:True:=trivial
      have htf2:=htf.imp (Q':=(fun x=>(fun _=>False) x∨x=q1)) (fun _ h=>h) (fun x hx=>hx.imp (hQ x) id)
      unfold EP.v kK
      refine hK.out _ _ ⟨hkx,hheld,⟨_,fun x hx=>.inl hx,htf2⟩,hbw⟩ ?_
      clear hK htf htq hQ hstf hbf HFI Q
      refine HT.take 7 (.tuple #[.agg #[.string q1.E.k,.string q1.E.v,.int .i64 q1.E.s,.string q1.E.r,.int .i64 q1.E.m,.slice q1.A q1.E.fs.length q1.c,.slice q1.X q1.E.body.length q1.d,.int .i64 q1.E.asked,.int .i64 q1.E.got],.bool ok]) rfl (by kernel_rfl) (fun _ _ _ h=>h) (Or.inl ⟨by rfl,?_⟩) ?_
      ·intro u hu
       go_simp
      refine HT.take 8 (.agg #[.string q1.E.k,.string q1.E.v,.int .i64 q1.E.s,.string q1.E.r,.int .i64 q1.E.m,.slice q1.A q1.E.fs.length q1.c,.slice q1.X q1.E.body.length q1.d,.int .i64 q1.E.asked,.int .i64 q1.E.got]) rfl (by kernel_rfl) (fun _ _ _ h=>h) (Or.inl ⟨by rfl,?_⟩) ?_
      ·intro u hu
       go_simp
      refine HT.take 9 (.bool ok) rfl (by kernel_rfl) (fun _ _ _ h=>h) (Or.inl ⟨by rfl,?_⟩) (?_:HT _ _ _ _ _ _ _ ⟨#[_,_,_,_,_,_,_,.pointer (some ⟨c1,0,none⟩),_,_,.pointer (some ⟨c2,0,none⟩),_,_,_,.pointer (some ⟨bx,0,none⟩),.pointer (some ⟨b15,0,none⟩),_,_,_,_,_,_,_,_,_,_,_,_,_,_,_,_,_,_,_,_,_,_,_,_,_,_,_,_,_,_,_,_,_,_,_,_,_,_,_,_,_,_,_,_,_,_,_,_,_,_,_,_,_,_,_,_,_,_,_,_,_,_,_,_,_,_,_,_,_,_,_,.tuple #[.agg #[.string q1.E.k,.string q1.E.v,.int .i64 q1.E.s,.string q1.E.r,.int .i64 q1.E.m,.slice q1.A q1.E.fs.length q1.c,.slice q1.X q1.E.body.length q1.d,.int .i64 q1.E.asked,.int .i64 q1.E.got],.bool ok],.pointer (some ⟨c1,0,none⟩),.pointer (some ⟨bx,10,none⟩),.string key,.pointer (some ⟨bx,11,none⟩),.slice Y na cy,.slice Y1 na cy1,.tuple #[.agg #[.string q1.E.k,.string q1.E.v,.int .i64 q1.E.s,.string q1.E.r,.int .i64 q1.E.m,.slice q1.A q1.E.fs.length q1.c,.slice q1.X q1.E.body.length q1.d,.int .i64 q1.E.asked,.int .i64 q1.E.got],.bool ok],.agg #[.string q1.E.k,.string q1.E.v,.int .i64 q1.E.s,.string q1.E.r,.int .i64 q1.E.m,.slice q1.A q1.E.fs.length q1.c,.slice q1.X q1.E.body.length q1.d,.int .i64 q1.E.asked,.int .i64 q1.E.got],.bool ok,_,_,_,_,_,_,_,_,_,_,_,_,_,_,_,_,_,_,_,_,_,_,_,_,_,_,_,_,_,_,_,_,_,_,_,_,_,_,_,_,_,_,_,_,_,_,_,_],[]⟩ _)
      ·intro u hu
       go_simp
      exact HT.to (by kernel_rfl) (HFIN.out (b15,q1,Y1,cy1) w7 ⟨hzb,hkb,hkx,hheld,hbw,HQF.out,htf2⟩)
     refine HT.two 5 10 rfl rfl (by kernel_rfl) (fun hS K hK=>?_) (fun hS K hK=>?_)
     ·skip
      go_simp
      refine (HCF.out v1 hS.2.2.2).mono ?_
      rintro e w6 ⟨Y1,cy1,rfl,hry,hb6⟩
      have hS6:=hSB _ _ hb6 hS
      have hry:=hry.rd
      refine hK.out _ _ hS6 ?_
      clear hK hS hb6
      refine HT.two 6 10 rfl rfl (by kernel_rfl) (fun hS K hK=>?_) (fun hS K hK=>?_)
      ·skip
       obtain⟨hkx,hheld,⟨Q,hQ,htq⟩,hbw⟩:=hS
       have hfi:=jZ key Y1 cy1 ask htq (by have:=HPS.out;omega) (by have:=HPS.out;omega) (by rw[HNA.out];exact hry) (fun u' hu'=>HTA.out w6 hbw u' (.inl hu'))
       rw[HNA.out,HOKF.out]at hfi
       have HFI:=aH hfi
       clear hfi
       go_simp
       refine HFI.out.mono ?_
       rintro e w7 ⟨q1,rfl,hqE,htf,hstf,hbf⟩
       have HQF:=aH hqE
       clear hqE
       have hkx:=hstf _ _ _ (.inl rfl) hkx
       have hbw:=hbw.trans (hbf.mono HBZ.out.1)
       have hheld:True:=trivial
       have htf2:=htf.imp (Q':=(fun x=>(fun _=>False) x∨x=q1)) (fun _ h=>h) (fun x hx=>hx.imp (hQ x) id)
       unfold EP.v kK
       refine hK.out _ _ ⟨hkx,hheld,⟨_,fun x hx=>.inl hx,htf2⟩,hbw⟩ ?_
       clear hK htf htq hQ hstf hbf HFI Q
       refine HT.take 7 (.tuple #[.agg #[.string q1.E.k,.string q1.E.v,.int .i64 q1.E.s,.string q1.E.r,.int .i64 q1.E.m,.slice q1.A q1.E.fs.length q1.c,.slice q1.X q1.E.body.length q1.d,.int .i64 q1.E.asked,.int .i64 q1.E.got],.bool ok]) rfl (by kernel_rfl) (fun _ _ _ h=>h) (Or.inl ⟨by rfl,?_⟩) ?_
       ·intro u hu
        go_simp
       refine HT.take 8 (.agg #[.string q1.E.k,.string q1.E.v,.int .i64 q1.E.s,.string q1.E.r,.int .i64 q1.E.m,.slice q1.A q1.E.fs.length q1.c,.slice q1.X q1.E.body.length q1.d,.int .i64 q1.E.asked,.int .i64 q1.E.got]) rfl (by kernel_rfl) (fun _ _ _ h=>h) (Or.inl ⟨by rfl,?_⟩) ?_
       ·intro u hu
        go_simp
       refine HT.take 9 (.bool ok) rfl (by kernel_rfl) (fun _ _ _ h=>h) (Or.inl ⟨by rfl,?_⟩) (?_:HT _ _ _ _ _ _ _ ⟨#[_,_,_,_,_,_,_,.pointer (some ⟨c1,0,none⟩),_,_,.pointer (some ⟨c2,0,none⟩),_,_,_,.pointer (some ⟨bx,0,none⟩),_,_,_,_,_,_,_,_,_,_,_,_,_,_,_,_,_,_,_,_,_,_,_,_,_,_,_,_,_,_,_,_,_,_,_,_,_,_,_,_,_,_,_,_,_,_,_,_,_,_,_,_,_,_,_,_,_,_,_,_,_,_,_,_,_,_,_,_,_,_,_,_,.tuple #[.agg #[.string q1.E.k,.string q1.E.v,.int .i64 q1.E.s,.string q1.E.r,.int .i64 q1.E.m,.slice q1.A q1.E.fs.length q1.c,.slice q1.X q1.E.body.length q1.d,.int .i64 q1.E.asked,.int .i64 q1.E.got],.bool ok],.pointer (some ⟨c1,0,none⟩),.pointer (some ⟨bx,10,none⟩),.string key,.pointer (some ⟨bx,11,none⟩),.slice Y na cy,.slice Y1 na cy1,.tuple #[.agg #[.string q1.E.k,.string q1.E.v,.int .i64 q1.E.s,.string q1.E.r,.int .i64 q1.E.m,.slice q1.A q1.E.fs.length q1.c,.slice q1.X q1.E.body.length q1.d,.int .i64 q1.E.asked,.int .i64 q1.E.got],.bool ok],.agg #[.string q1.E.k,.string q1.E.v,.int .i64 q1.E.s,.string q1.E.r,.int .i64 q1.E.m,.slice q1.A q1.E.fs.length q1.c,.slice q1.X q1.E.body.length q1.d,.int .i64 q1.E.asked,.int .i64 q1.E.got],.bool ok,_,_,_,_,_,_,_,_,_,_,_,_,_,_,_,_,_,_,_,_,_,_,_,_,_,_,_,_,_,_,_,_,_,_,_,_,_,_,_,_,_,_,_,_,_,_,_,_],[]⟩ _)
       ·intro u hu
        go_simp
       refine HT.step 10 rfl (by kernel_rfl) (fun hS K hK=>?_)
       have hkb:=Blk.new w7 #[.string ⟨#[]⟩,.string ⟨#[]⟩,.int .i64 0,.string ⟨#[]⟩,.int .i64 0,.slice none 0 0,.slice none 0 0,.int .i64 0,.int .i64 0] 41
       have hba:Below w7.heap.size w7 (w7.alloc (.cells #[.string ⟨#[]⟩,.string ⟨#[]⟩,.int .i64 0,.string ⟨#[]⟩,.int .i64 0,.slice none 0 0,.slice none 0 0,.int .i64 0,.int .i64 0] 41)):=(zB _ _).alloc (zA _) _
       have hSA:=hSB _ _ hba hS
       go_simp
       refine hK.out _ _ hSA ?_
       exact HT.to (by kernel_rfl) (HFIN.out (w7.heap.size,q1,Y1,cy1) _ ⟨hbw.size,hkb,hkx.below hba,trivial,aA hbw.size hbw hba,HQF.out,htf2.below hba⟩)
      ·skip
       have hkb:=Blk.new w6 #[.string ⟨#[]⟩,.string ⟨#[]⟩,.int .i64 0,.string ⟨#[]⟩,.int .i64 0,.slice none 0 0,.slice none 0 0,.int .i64 0,.int .i64 0] 41
       have hzb:w.heap.size≤w6.heap.size:=hS.2.2.2.size
       have hba:Below w6.heap.size w6 (w6.alloc (.cells #[.string ⟨#[]⟩,.string ⟨#[]⟩,.int .i64 0,.string ⟨#[]⟩,.int .i64 0,.slice none 0 0,.slice none 0 0,.int .i64 0,.int .i64 0] 41)):=(zB _ _).alloc (zA _) _
       have hSA:=hSB _ _ hba hS
       go_simp
       refine hK.out _ _ hSA ?_
       exact HT.to (by kernel_rfl) (HMID.out (w6.heap.size,Y1,cy1) _ ⟨hzb,hkb,hry.below hba⟩)
     ·skip
      have hkb:=Blk.new v1 #[.string ⟨#[]⟩,.string ⟨#[]⟩,.int .i64 0,.string ⟨#[]⟩,.int .i64 0,.slice none 0 0,.slice none 0 0,.int .i64 0,.int .i64 0] 41
      have hzb:w.heap.size≤v1.heap.size:=hS.2.2.2.size
      have hba:Below v1.heap.size v1 (v1.alloc (.cells #[.string ⟨#[]⟩,.string ⟨#[]⟩,.int .i64 0,.string ⟨#[]⟩,.int .i64 0,.slice none 0 0,.slice none 0 0,.int .i64 0,.int .i64 0] 41)):=(zB _ _).alloc (zA _) _
      have hSA:=hSB _ _ hba hS
      go_simp
      refine hK.out _ _ hSA ?_
      clear hK hS
      refine HT.step 5 rfl (by kernel_rfl) (fun hS K hK=>?_)
      go_simp
      refine (HCF.out _ hS.2.2.2).mono ?_
      rintro e w6 ⟨Y1,cy1,rfl,hry,hb6⟩
      have hS6:=hSB _ _ hb6 hS
      have hry:=hry.rd
      have hkb:=hkb.below hb6
      refine hK.out _ _ hS6 ?_
      clear hK hS hb6
      exact HT.to (by kernel_rfl) (HMID.out (v1.heap.size,Y1,cy1) _ ⟨hzb,hkb,hry⟩)
    ·by_cases h3:what=3
     ·subst h3
      clear h1 h2
      obtain⟨s',j',q1,q2,q3,q4⟩:=C.Snd.prg HOJ.out (by omega) key
      have HQ4:=aH q4
      have HOQ:=aH (C.aHC.of q1 q2)
      have hpu:=rJ key HT5.out HOJ.out (by omega) q4 (by have:=HPS.out;omega) (fun u hu=>HTA.out w5 HB5.out u (.inl hu))
      obtain⟨⟨pv,cnt,cd⟩,hpg⟩:∃ r,C.prg s key=r:=⟨_,rfl⟩
      have HPG:=aH hpg
      rw[hpg]at hpu
      dsimp only at hpu
      have HPU:=aH hpu
      have x0:=HK5.out.cell 0 rfl
      have x1:=HK5.out.cell 1 rfl
      have x2:=HK5.out.cell 2 rfl
      have x3:=HK5.out.cell 3 rfl
      have x4:=HK5.out.cell 4 rfl
      have x5:=HK5.out.cell 5 rfl
      have x6:=HK5.out.cell 6 rfl
      have x7:=HK5.out.cell 7 rfl
      have x8:=HK5.out.cell 8 rfl
      have x9:=HK5.out.cell 9 rfl
      have x10:=HK5.out.cell 10 rfl
      have x11:=HK5.out.cell 11 rfl
      clear q1 q2 q4 hpg hpu
      go_wp2_with fail
      clear x0 x1 x2 x3 x4 x5 x6 x7 x8 x9 x10 x11
      refine HPU.out.mono ?_
      rintro e w6 ⟨rfl,ht6,hst6,hb6⟩
      have HK6:=aH (hst6 _ _ _ (.inl rfl) HK5.out)
      have HB6:=aH (HB5.out.trans (hb6.mono HBZ.out.1))
      have hpu:=rJ key ht6.swap HOJ.out (by omega) HQ4.out (by have:=HPS.out;omega) (fun u hu=>HTA.out w6 HB6.out u (.inr hu))
      rw[HPG.out]at hpu
      dsimp only at hpu
      have HPU:=aH hpu
      have x0:=HK6.out.cell 0 rfl
      have x1:=HK6.out.cell 1 rfl
      have x2:=HK6.out.cell 2 rfl
      have x3:=HK6.out.cell 3 rfl
      have x4:=HK6.out.cell 4 rfl
      have x5:=HK6.out.cell 5 rfl
      have x6:=HK6.out.cell 6 rfl
      have x7:=HK6.out.cell 7 rfl
      have x8:=HK6.out.cell 8 rfl
      have x9:=HK6.out.cell 9 rfl
      have x10:=HK6.out.cell 10 rfl
      have x11:=HK6.out.cell 11 rfl
      clear ht6 hst6 hb6 hpu HT5 HK5 HB5
      go_wp2_with fail
      clear x0 x1 x2 x3 x4 x5 x6 x7 x8 x9 x10 x11
      refine HPU.out.mono ?_
      rintro e w7 ⟨rfl,ht7,-,hb7⟩
      have HT7:=aH ht7.swap
      have HB7:=aH (HB6.out.trans (hb7.mono HBZ.out.2))
      have e1:(((cnt:Int)) != (cnt:Int))=false:=by simp
      have e2:(cd != cd)=false:=by simp
      clear ht7 hb7 HPU HK6 HB6
      go_wp2
      go_roundw
      case rel=>exact⟨k+1,j',s',by omega,by go_num,HOQ.out,by omega,HT7.out,HB7.out⟩
      case measure=>simp [intOf];omega
     ·have e1:(what==1)=false:=beq_false_of_ne h1
      have e2:(what==2)=false:=beq_false_of_ne h2
      have e3:(what==3)=false:=beq_false_of_ne h3
      have x0:=HK5.out.cell 0 rfl
      go_wp2
      go_roundw
      case rel=>exact⟨k+1,j,s,by omega,by go_num,HOJ.out,by omega,HT5.out,HB5.out⟩
      case measure=>simp [intOf];omega
   ·have HI1:=aH (aAF HTI.out)
    go_wp2_with fail
    refine HI1.out.mono ?_
    rintro e w6 ⟨A6,c6,rfl,hr6,hb6⟩
    have HI2:=aH (aAF (HTI.out.below hb6).swap)
    have HR6:=aH hr6.rd
    have HB6:=aH (aA HBE.out.size HBE.out hb6)
    clear hr6 hb6 HI1
    go_wp2_with fail
    refine HI2.out.mono ?_
    rintro e w7 ⟨A7,c7,rfl,hr7,hb7⟩
    have hlen:(setB s.ids).length≤1099511627776:=(by
     have h1:(setB s.ids).length≤s.ids.length:=by unfold setB;exact bD (lF _) (by rw[lT];exact zA _)
     have h2:s.ids.length=s.tab.length:=by unfold S.Sto.ids;exact List.length_map ..
     omega)
    have HSM:=aH (lV A6 A7 (setB s.ids).length c6 c7 (setB s.ids) w7 rfl hlen (HR6.out.below hb7) hr7.rd)
    have HB7:=aH (aA HB6.out.size HB6.out hb7)
    clear hr7 hb7 hlen HI2 HR6
    go_wp2_with fail
    refine HSM.out.mono ?_
    rintro e w8 ⟨rfl,hb8⟩
    have HB8:=aH (aA HB7.out.size HB7.out hb8)
    clear hb8 HSM HB7
    go_wp2
    go_ret
    exact⟨rfl,HB8.out⟩
end Go.Proofs.YthjeglnkgdpijaaGreatDoor
