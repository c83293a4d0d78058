/- The walk of CacheFinds. Conditions: texts of at most 2^20 bytes; the tables of the library. -/
import Derived.Test.YthjeglnkgdpijaaGreatDoorZ12
set_option maxHeartbeats 16000000
set_option maxRecDepth 100000
namespace Go.Proofs.YthjeglnkgdpijaaGreatDoor
open Go Go.RowKit Go.Maps
theorem aMB {w:World} {A:Option Addr} {n m:Nat} {l:List SQ} (h:Rd w A n 12 (eG l)) (hl:l.length=n) (hm:m≤n):Rd w A m 12 (eG (l.take m)):=by
 refine⟨by rw[jI,List.length_take];congr 1;omega,fun h0=>?_⟩
 obtain⟨b,o,rfl,hb,hc⟩:=h.2 (by omega)
 refine⟨b,o,rfl,hb,fun j u hu=>hc j u ?_⟩
 have e:eG l=eG (l.take m)++eG (l.drop m):=by
  have h1:l.flatMap SQ.c=(l.take m++l.drop m).flatMap SQ.c:=by rw[List.take_append_drop]
  rw[List.flatMap_append]at h1
  exact h1
 rw[e,List.getElem?_append_left (List.getElem?_eq_some_iff.1 hu).1]
 exact hu
namespace C
theorem last_at {l:List O.Ent} {x:ByteArray} {t:Nat} (ht:t < l.length) (h1:S.aU l[t]=x) (h2:∀ t' (h:t' < l.length),t < t'→S.aU l[t']≠x):last l x=some l[t]:=by
 have e:l.reverse=(l.drop (t+1)).reverse++l[t]::(l.take t).reverse:=by
  have h3:l=l.take t++l[t]::l.drop (t+1):=by simp
  have h4:=congrArg List.reverse h3
  rw[List.reverse_append,List.reverse_cons,List.append_assoc]at h4
  exact h4
 unfold last
 rw[e,List.find?_append,List.find?_eq_none.2 (fun y hy=>by
  obtain⟨i,hi,rfl⟩:=List.getElem_of_mem (List.mem_reverse.1 hy)
  rw[List.length_drop]at hi
  rw[List.getElem_drop]
  simpa using h2 (t+1+i) (by omega) (by omega)),List.find?_cons,decide_eq_true h1]
 rfl
end C
def aN7 (w:World) (L:List EP):Prop:=∀ p∈L,ERd w p∧p.bulk≤1048576∧S.gU p.E=0∧yP p.E.k
def aIB (key:ByteArray) (L:List EP):List EP:=L.filter fun p=>decide (p.E.k≠key)
theorem aNO (key:ByteArray) (L:List EP):(aIB key L).map (·.E)=(L.map (·.E)).filter fun E=>decide (E.k≠key):=by
 unfold aIB
 rw[List.filter_map]
 rfl
theorem aKO (key:ByteArray) (L:List EP) (t:Nat) (h:t < L.length):aIB key (L.take (t+1))=if L[t].E.k=key then aIB key (L.take t) else aIB key (L.take t)++[L[t]]:=by
 unfold aIB
 rw[bI h,List.filter_append]
 by_cases hk:L[t].E.k=key
 ·rw[if_pos hk];simp [hk]
 ·rw[if_neg hk];simp [hk]
theorem aKP (key:ByteArray) (L:List EP):(aIB key L).length≤L.length:=List.length_filter_le _ _
theorem aN7.cut {w:World} {L:List EP} (h:aN7 w L) (key:ByteArray):aN7 w (aIB key L):=fun p hp=>h p (List.mem_filter.1 hp).1
theorem aN7.encs {w:World} {L:List EP} (h:aN7 w L):∀ E∈L.map (·.E),S.gU E=0:=fun E hE=>by
 obtain⟨p,hp,rfl⟩:=List.mem_map.1 hE
 exact (h p hp).2.2.1
theorem aN7.nls {w:World} {L:List EP} (h:aN7 w L):∀ E∈L.map (·.E),yP E.k:=fun E hE=>by
 obtain⟨p,hp,rfl⟩:=List.mem_map.1 hE
 exact (h p hp).2.2.2
theorem EAt.below {w w':World} {b o:Nat} {q:EP} (h:EAt w b o q) (hlt:b < w.heap.size) (hb:Below w.heap.size w w'):EAt w' b o q:=by
 obtain⟨h0,h1,h2,h3,h4,h5,h6,h7,h8⟩:=h
 have e:∀ k,w'.cell? ⟨b,k,none⟩=w.cell? ⟨b,k,none⟩:=fun k=>hb.cell (p:=⟨b,k,none⟩) hlt
 exact⟨(e _).trans h0,(e _).trans h1,(e _).trans h2,(e _).trans h3,(e _).trans h4,(e _).trans h5,(e _).trans h6,(e _).trans h7,(e _).trans h8⟩
theorem wL (FA:Option Addr) (fn fc:Nat) (space:Int) (PA:Option Addr) (pn pc:Nat) (fails:List Int) (power slots mem:Int) (A:Option Addr) (n c:Nat) (l:List SQ) (key:ByteArray) (Y:Option Addr) (an cy:Nat) (ask:List FD) (w:World)
  (hpl:fails.length=pn) (hfl:pn≤1099511627776) (hfx:Rd w PA pn 1 (dS fails)) (hl:l.length=n) (hnc:n≤c) (hx:Rd w A n 12 (eG l)) (hq:∀ q∈l,ERd w q.p∧Rd w q.Y q.ask.length 2 (aJ q.ask)) (hs:∀ q∈l,q.bulk≤1048576) (hk:key.size≤1048576) (hal:ask.length=an) (hy:Rd w Y an 2 (aJ ask)) (hab:F.bulk ask≤1048576) (ht:Tabs w) :
  Calls Tryz.prog 3 #[.agg #[.slice FA fn fc,.int .i64 space,.slice PA pn pc,.int .i64 power,.int .i64 slots,.int .i64 mem],.slice A n c,.string key,.slice Y an cy] w (qP w true):=by
 obtain⟨m,hm⟩:∃ m,min n 50=m:=⟨_,rfl⟩
 have hmn:m≤n:=by omega
 have hm50:m≤50:=by omega
 have HM:=aH hm
 obtain⟨l2,hl2⟩:∃ l2,l.take m=l2:=⟨_,rfl⟩
 have HL:Hid (l2.length=m):=aH (by rw[← hl2,List.length_take];omega)
 have HX:Hid (Rd w A m 12 (eG l2)):=aH (by rw[← hl2];exact aMB hx hl hmn)
 have HQ:Hid (∀ q∈l2,(ERd w q.p∧Rd w q.Y q.ask.length 2 (aJ q.ask))∧q.bulk≤1048576):=aH (fun q h=>by
  rw[← hl2]at h
  exact⟨hq q (List.mem_of_mem_take h),hs q (List.mem_of_mem_take h)⟩)
 have HTB:=aH ht
 have HPL:=aH hpl
 have HFX:=aH hfx
 have HALN:=aH hal
 have HY:=aH hy
 have han:an≤1048576:=by rw[← hal];exact bD (F.bU ask) hab
 obtain⟨w0,hw0⟩:∃ w0,w.alloc (.cells #[.slice FA fn fc,.int .i64 space,.slice PA pn pc,.int .i64 power,.int .i64 slots,.int .i64 mem] 25)=w0:=⟨_,rfl⟩
 have hb0:Below w.heap.size w w0:=by rw[← hw0];exact (zB _ _).alloc (zA _) _
 have HK0:Hid (Blk w0 w.heap.size #[.slice FA fn fc,.int .i64 space,.slice PA pn pc,.int .i64 power,.int .i64 slots,.int .i64 mem] 25):=aH (by rw[← hw0];exact Blk.new w _ _)
 have HAL:=aH (wM w0 (ht.below hb0))
 have HB0:=aH hb0
 clear hq hs ht hl hm hl2 hpl hfx hal hy hx hb0
 go_enter Tryz.func3,Tryz.ntmps3
 go_wp2_with fail
 clear hw0
 refine HAL.out.mono ?_
 rintro e w1 ⟨rfl,hb1⟩
 have hk1:=HK0.out.below hb1
 have HB1:=aH (aA HB0.out.size HB0.out hb1)
 have z0:=hk1.cell 0 rfl
 have g0:=hk1.free 0
 have HK2:Hid (Blk (puts w1 w.heap.size 0 [.slice none 0 0]) w.heap.size #[.slice none 0 0,.int .i64 space,.slice PA pn pc,.int .i64 power,.int .i64 slots,.int .i64 mem] 25):=aH (by
  unfold puts puts
  exact hk1.set 0 _)
 have HB2:=aH (pJ (zA w.heap.size) [.slice none 0 0] 0 HB1.out)
 clear hk1 hb1 HK0 HB0 HAL HB1
 go_upto_region 4 with fail
 obtain⟨w2,hw2⟩:∃ w2,w1.setCell ⟨w.heap.size,0,none⟩ (.slice none 0 0)=w2:=⟨_,rfl⟩
 rw[show puts w1 w.heap.size 0 [.slice none 0 0]=w2 from hw2]at HK2 HB2
 rw[hw2]
 clear hw2 z0 g0
 have x0:=HK2.out.cell 0 rfl
 have x1:=HK2.out.cell 1 rfl
 have x2:=HK2.out.cell 2 rfl
 have x3:=HK2.out.cell 3 rfl
 have x4:=HK2.out.cell 4 rfl
 have x5:=HK2.out.cell 5 rfl
 have hbg:=qF space PA pc fails power slots mem w2 (by rw[HPL.out];exact hfl) (by rw[HPL.out];exact HFX.out.below HB2.out)
 rw[HPL.out]at hbg
 have hsw:=fun so=>C.aGG (space:=space) (fails:=fails) (power:=power) (slots:=slots) (so:=so) (by rw[HPL.out];exact hfl)
 obtain⟨so1,hso1⟩:∃ o,C.start space fails power slots=o:=⟨_,rfl⟩
 rw[hso1]at hbg hsw
 have HBG:=aH hbg
 have HSW:=aH hsw
 clear hbg hsw hso1 HPL HFX
 go_wp2_with fail
 clear x0 x1 x2 x3 x4 x5
 refine HBG.out.mono ?_
 rintro e w3 hret
 clear HBG
 cases so1 with
 | none =>
  obtain⟨code,hc,rfl,hb3⟩:=hret
  have e1:(code != 0)=true:=by simpa using hc
  have HB3:=aH (aA HB2.out.size HB2.out hb3)
  clear hb3 hc HSW
  go_wp2
  go_ret
  exact⟨rfl,HB3.out⟩
 | some so =>
  obtain⟨B,Z,pd,rfl,hc3,hB,hB',hb3,-⟩:=hret
  obtain⟨n0,hwk⟩:=HSW.out so rfl
  have HB3:=aH (aA HB2.out.size HB2.out hb3)
  have HBZ:Hid (w.heap.size≤B):=aH (bD HB2.out.size hB)
  obtain⟨rm,hrm⟩:∃ r,Lr.roomOf mem=r:=⟨_,rfl⟩
  obtain⟨zc,hzc⟩:∃ z,Z.c=z:=⟨_,rfl⟩
  have HWK:Hid (Wk B rm zc n0 0 0 [] w3):=aH ⟨hB',Z,_,hzc,by rw[← hrm];exact hc3,hwk⟩
  rw[hzc]
  have HFE:=aH (aKC A m c l2 key w3 HL.out (by omega) (HX.out.below HB3.out) (fun q h=>by have:=(HQ.out q h).2;unfold SQ.bulk EP.bulk at this;omega) (by omega))
  have HCU:=aH (aG9 A n c w3 hnc)
  rw[HM.out]at HCU
  clear hc3 hB hB' hb3 hwk HSW HB2 hzc hrm HM
  go_wp2_with fail
  refine HCU.out.mono ?_
  rintro e w4 ⟨rfl,rfl⟩
  go_wp2_with fail
  refine HFE.out.mono ?_
  rintro e w5 ⟨t,rfl,hb5,hft⟩
  have HB5:=aH (aA HB3.out.size HB3.out hb5)
  have HWK5:=aH (HWK.out.below hb5)
  have HFT:=aH hft
  clear hb5 HFE HCU HWK HB3 hft
  cases t with
  | true =>
   go_wp2
   go_ret
   exact⟨rfl,HB5.out⟩
  | false =>
   have HNO:=aH (HFT.out rfl)
   have hba:Below w5.heap.size w5 (w5.alloc (.cells #[] 41)):=(zB _ _).alloc (zA _) _
   have HB6:=aH (aA HB5.out.size HB5.out hba)
   have HWK6:=aH (HWK5.out.below hba)
   clear hba HFT HB5 HWK5
   go_wp2
   go_loopw [12,13,14,15,16,17] (fun sv i _ _ _ _ wr=>∃ (k is:Nat) (A1:Option Addr) (c1:Nat) (L:List EP),k≤m∧i=.int .i64 k∧sv=.slice A1 L.length c1∧L.length≤k∧is≤51 * k∧Row wr w.heap.size 41 9 A1 L.length c1 (dC L)∧aN7 w L∧Wk B rm zc n0 is k (L.map (·.E)) wr∧Below w.heap.size w wr) (fun _ i _ _ _ _ _=>m - (intOf i).toNat)
   case atStart=>exact⟨0,0,_,0,[],zF _,rfl,rfl,zA _,zA _,Row.empty _ _ _ _ _,fun _ h=>(by cases h),HWK6.out,HB6.out⟩
   case round =>
    obtain⟨k,is,A1,c1,L,hkm,rfl,rfl,hLk,his,hrow,hsv,hwk,hbe⟩:=hrel
    have HRW:=aH hrow
    have HSV:=aH hsv
    have HWK:=aH hwk
    have HBE:=aH hbe
    have HTA:Hid (∀ u,Below w.heap.size w u→∀ u',Below B u u'→Tabs u'):=aH (fun u hu u' h=>nY HTB.out hu HBZ.out u' h)
    have HLK:=aH hLk
    clear hrow hsv hwk hbe HWK6 HB6
    obtain⟨wo,rfl⟩:∃ wo:World,wo=wr:=⟨_,rfl⟩
    by_cases hlt:k < m
    ·have hki:k < l2.length:=by rw[HL.out];exact hlt
     obtain⟨bq,o,rfl,hb,hat⟩:=rd_q (HX.out.below HBE.out) hki HL.out
     obtain⟨⟨hpe,hpy⟩,hps⟩:=HQ.out _ (List.getElem_mem hki)
     obtain⟨hnp,hnk⟩:=HNO.out.1 _ (List.getElem_mem hki)
     obtain⟨q,hq⟩:∃ q,l2[k]'hki=q:=⟨_,rfl⟩
     rw[hq]at hat hpe hpy hps hnp hnk
     obtain⟨what,p,kx,Yx,cx,ax⟩:=q
     unfold SQ.bulk at hps
     dsimp only at hpe hpy hps hnp hnk
     have y0:wo.cell? ⟨bq,o+k * 12,none⟩=some (.int .i64 what):=hat 0 _ rfl
     have y1:wo.cell? ⟨bq,o+k * 12+1,none⟩=some (.string p.E.k):=hat 1 _ rfl
     have y2:wo.cell? ⟨bq,o+k * 12+2,none⟩=some (.string p.E.v):=hat 2 _ rfl
     have y3:wo.cell? ⟨bq,o+k * 12+3,none⟩=some (.int .i64 p.E.s):=hat 3 _ rfl
     have y4:wo.cell? ⟨bq,o+k * 12+4,none⟩=some (.string p.E.r):=hat 4 _ rfl
     have y5:wo.cell? ⟨bq,o+k * 12+5,none⟩=some (.int .i64 p.E.m):=hat 5 _ rfl
     have y6:wo.cell? ⟨bq,o+k * 12+6,none⟩=some (.slice p.A p.E.fs.length p.c):=hat 6 _ rfl
     have y7:wo.cell? ⟨bq,o+k * 12+7,none⟩=some (.slice p.X p.E.body.length p.d):=hat 7 _ rfl
     have y8:wo.cell? ⟨bq,o+k * 12+8,none⟩=some (.int .i64 p.E.asked):=hat 8 _ rfl
     have y9:wo.cell? ⟨bq,o+k * 12+9,none⟩=some (.int .i64 p.E.got):=hat 9 _ rfl
     have y10:wo.cell? ⟨bq,o+k * 12+10,none⟩=some (.string kx):=hat 10 _ rfl
     have y11:wo.cell? ⟨bq,o+k * 12+11,none⟩=some (.slice Yx ax.length cx):=hat 11 _ rfl
     obtain⟨w4,hw4⟩:∃ w4,wo.alloc (.cells #[.int .i64 0,.string ⟨#[]⟩,.string ⟨#[]⟩,.int .i64 0,.string ⟨#[]⟩,.int .i64 0,.slice none 0 0,.slice none 0 0,.int .i64 0,.int .i64 0,.string ⟨#[]⟩,.slice none 0 0] 43)=w4:=⟨_,rfl⟩
     have hb4:Below wo.heap.size wo w4:=by rw[← hw4];exact (zB _ _).alloc (zA _) _
     have hk4:Blk w4 wo.heap.size #[.int .i64 0,.string ⟨#[]⟩,.string ⟨#[]⟩,.int .i64 0,.string ⟨#[]⟩,.int .i64 0,.slice none 0 0,.slice none 0 0,.int .i64 0,.int .i64 0,.string ⟨#[]⟩,.slice none 0 0] 43:=by rw[← hw4];exact Blk.new wo _ _
     have z0:=hk4.cell 0 rfl
     have g0:=hk4.free 0
     have z1:=hk4.cell 1 rfl
     have g1:=hk4.free 1
     have z2:=hk4.cell 2 rfl
     have g2:=hk4.free 2
     have z3:=hk4.cell 3 rfl
     have g3:=hk4.free 3
     have z4:=hk4.cell 4 rfl
     have g4:=hk4.free 4
     have z5:=hk4.cell 5 rfl
     have g5:=hk4.free 5
     have z6:=hk4.cell 6 rfl
     have g6:=hk4.free 6
     have z7:=hk4.cell 7 rfl
     have g7:=hk4.free 7
     have z8:=hk4.cell 8 rfl
     have g8:=hk4.free 8
     have z9:=hk4.cell 9 rfl
     have g9:=hk4.free 9
     have z10:=hk4.cell 10 rfl
     have g10:=hk4.free 10
     have z11:=hk4.cell 11 rfl
     have g11:=hk4.free 11
     have HK5:Hid (Blk (puts w4 wo.heap.size 0 [.int .i64 what,.string p.E.k,.string p.E.v,.int .i64 p.E.s,.string p.E.r,.int .i64 p.E.m,.slice p.A p.E.fs.length p.c,.slice p.X p.E.body.length p.d,.int .i64 p.E.asked,.int .i64 p.E.got,.string kx,.slice Yx ax.length cx]) wo.heap.size #[.int .i64 what,.string p.E.k,.string p.E.v,.int .i64 p.E.s,.string p.E.r,.int .i64 p.E.m,.slice p.A p.E.fs.length p.c,.slice p.X p.E.body.length p.d,.int .i64 p.E.asked,.int .i64 p.E.got,.string kx,.slice Yx ax.length cx] 43):=aH (Blk.puts [.int .i64 what,.string p.E.k,.string p.E.v,.int .i64 p.E.s,.string p.E.r,.int .i64 p.E.m,.slice p.A p.E.fs.length p.c,.slice p.X p.E.body.length p.d,.int .i64 p.E.asked,.int .i64 p.E.got,.string kx,.slice Yx ax.length cx] [] [.int .i64 0,.string ⟨#[]⟩,.string ⟨#[]⟩,.int .i64 0,.string ⟨#[]⟩,.int .i64 0,.slice none 0 0,.slice none 0 0,.int .i64 0,.int .i64 0,.string ⟨#[]⟩,.slice none 0 0] hk4 rfl)
     have HB45:=aH (pJ (zA wo.heap.size) [.int .i64 what,.string p.E.k,.string p.E.v,.int .i64 p.E.s,.string p.E.r,.int .i64 p.E.m,.slice p.A p.E.fs.length p.c,.slice p.X p.E.body.length p.d,.int .i64 p.E.asked,.int .i64 p.E.got,.string kx,.slice Yx ax.length cx] 0 hb4)
     have HPE:=aH hpe
     have HPY:=aH hpy
     have HPS:=aH hps
     have HNP:=aH hnp
     clear hat hpe hpy hq hk4 hb4 hnp hnk
     go_upto_region 15 with fail
     obtain⟨w5,hw5⟩:∃ w5,((((((((((((w4.setCell ⟨wo.heap.size,0,none⟩ (.int .i64 what)).setCell ⟨wo.heap.size,1,none⟩ (.string p.E.k)).setCell ⟨wo.heap.size,2,none⟩ (.string p.E.v)).setCell ⟨wo.heap.size,3,none⟩ (.int .i64 p.E.s)).setCell ⟨wo.heap.size,4,none⟩ (.string p.E.r)).setCell ⟨wo.heap.size,5,none⟩ (.int .i64 p.E.m)).setCell ⟨wo.heap.size,6,none⟩ (.slice p.A p.E.fs.length p.c)).setCell ⟨wo.heap.size,7,none⟩ (.slice p.X p.E.body.length p.d)).setCell ⟨wo.heap.size,8,none⟩ (.int .i64 p.E.asked)).setCell ⟨wo.heap.size,9,none⟩ (.int .i64 p.E.got)).setCell ⟨wo.heap.size,10,none⟩ (.string kx)).setCell ⟨wo.heap.size,11,none⟩ (.slice Yx ax.length cx))=w5:=⟨_,rfl⟩
     rw[show puts w4 wo.heap.size 0 [.int .i64 what,.string p.E.k,.string p.E.v,.int .i64 p.E.s,.string p.E.r,.int .i64 p.E.m,.slice p.A p.E.fs.length p.c,.slice p.X p.E.body.length p.d,.int .i64 p.E.asked,.int .i64 p.E.got,.string kx,.slice Yx ax.length cx]=w5 from hw5]at HK5 HB45
     rw[hw5]
     have HB5:=aH (aA HBE.out.size HBE.out HB45.out)
     have HWK5:=aH (HWK.out.below HB45.out)
     have HRW5:=aH (HRW.out.below HB45.out)
     have HPE5:=aH (HPE.out.below HB5.out)
     have HPY5:=aH (HPY.out.below HB5.out)
     clear hw4 hw5 z0 g0 y0 z1 g1 y1 z2 g2 y2 z3 g3 y3 z4 g4 y4 z5 g5 y5 z6 g6 y6 z7 g7 y7 z8 g8 y8 z9 g9 y9 z10 g10 y10 z11 g11 y11 HB45 HWK HBE HRW
     generalize wo.heap.size=bx at *
     by_cases h3:what=3
     ·subst h3
      have x0:=HK5.out.cell 0 rfl
      have x10:=HK5.out.cell 10 rfl
      have HPU:=aH (aCY kx HWK5.out (by omega) (by omega) HSV.out.nls (by have:=HPS.out;omega) (fun u hu=>HTA.out w5 HB5.out u hu))
      go_wp2_with fail
      clear x0 x10
      refine HPU.out.mono ?_
      rintro e w6 ⟨ra,rb,rfl,hb6,hst6,hwk6⟩
      rw[← aNO]at hwk6
      have HK6:=aH (hst6.blk _ _ _ (.inl rfl) HK5.out)
      have HRW6:=aH (hst6.row _ _ _ _ _ HRW5.out)
      have HB6:=aH (HB5.out.trans (hb6.mono HBZ.out))
      have hba:Below w6.heap.size w6 (w6.alloc (.cells #[] 41)):=(zB _ _).alloc (zA _) _
      have HWK7:=aH (Wk.below hwk6 hba)
      have HBA:=aH hba
      clear hb6 hst6 hwk6 hba HK5 HRW5 HWK5 HB5 HPU HPE5 HPY5
      go_wp2
      go_loopw [15,16] (fun kp jj wr=>∃ (t:Nat) (A2:Option Addr) (c2:Nat) (M:List EP),t≤L.length∧jj=.int .i64 t∧M=aIB kx (L.take t)∧kp=.slice A2 M.length c2∧Row wr w6.heap.size 41 9 A2 M.length c2 (dC M)∧Wk B rm zc n0 (is+k) k ((aIB kx L).map (·.E)) wr∧Below w6.heap.size w6 wr) (fun _ jj _=>L.length - (intOf jj).toNat)
      case atStart=>exact⟨0,_,0,[],zF _,rfl,rfl,rfl,Row.empty _ _ _ _ _,HWK7.out,HBA.out⟩
      case round =>
       obtain⟨t,A2,c2,M,htl,rfl,hM,rfl,hr2,hw2,hb2⟩:=hrel
       have HM2:=aH hM
       have HR2:=aH hr2
       have HW2:=aH hw2
       have HB2:=aH hb2
       clear hM hr2 hw2 hb2 HWK7 HBA
       obtain⟨wi,rfl⟩:∃ wi:World,wi=wr:=⟨_,rfl⟩
       by_cases htlt:t < L.length
       ·obtain⟨be,oe,rfl,hbe,hea⟩:=aOH (HRW6.out.rd) htlt rfl
        have hea2:=EAt.below hea hbe HB2.out
        have HSC:=aH (aKO kx L t htlt)
        obtain⟨pe,hpe⟩:∃ pe,L[t]'htlt=pe:=⟨_,rfl⟩
        rw[hpe]at hea2 HSC
        obtain⟨y0,y1,y2,y3,y4,y5,y6,y7,y8⟩:=hea2
        have x10:=(HK6.out.below HB2.out).cell 10 rfl
        have hML:M.length≤t:=by rw[HM2.out];exact bD (aKP _ _) (by rw[List.length_take];omega)
        clear hea hbe hpe
        by_cases hkk:pe.E.k=kx
        ·have e1:(pe.E.k.toList==kx.toList)=true:=by rw[bM];exact decide_eq_true hkk
         rw[if_pos hkk]at HSC
         have e2:(!pe.E.k.toList==kx.toList)=false:=by rw[e1];rfl
         clear hkk
         have hdr:∀ j,(wi.drew).cell? ⟨be,j,none⟩=wi.cell? ⟨be,j,none⟩:=fun _=>rfl
         go_upto_region 21 with fail
         go_region
         have HR3:=aH (HR2.out.below (zB _ _).drew)
         have HW3:=aH (HW2.out.below (zB _ _).drew)
         have HB3:=aH (HB2.out.drew)
         replace y0:=(hdr _).trans y0
         replace y1:=(hdr _).trans y1
         replace y2:=(hdr _).trans y2
         replace y3:=(hdr _).trans y3
         replace y4:=(hdr _).trans y4
         replace y5:=(hdr _).trans y5
         replace y6:=(hdr _).trans y6
         replace y7:=(hdr _).trans y7
         replace y8:=(hdr _).trans y8
         clear hdr HR2 HW2 HB2
         go_wp2
         go_roundw
         case rel=>exact⟨t+1,A2,c2,M,by omega,by go_num,HM2.out.trans HSC.out.symm,rfl,HR3.out,HW3.out,HB3.out⟩
         case measure=>simp [intOf];omega
        ·have e1:(pe.E.k.toList==kx.toList)=false:=by rw[bM];exact decide_eq_false hkk
         rw[if_neg hkk]at HSC
         clear hkk
         have hdr:∀ j,(wi.drew).cell? ⟨be,j,none⟩=wi.cell? ⟨be,j,none⟩:=fun _=>rfl
         go_upto_region 21 with fail
         go_region
         have HR3:=aH (HR2.out.below (zB _ _).drew)
         have HW3:=aH (HW2.out.below (zB _ _).drew)
         have HB3:=aH (HB2.out.drew)
         replace y0:=(hdr _).trans y0
         replace y1:=(hdr _).trans y1
         replace y2:=(hdr _).trans y2
         replace y3:=(hdr _).trans y3
         replace y4:=(hdr _).trans y4
         replace y5:=(hdr _).trans y5
         replace y6:=(hdr _).trans y6
         replace y7:=(hdr _).trans y7
         replace y8:=(hdr _).trans y8
         clear hdr HR2 HW2 HB2
         generalize wi.drew=wd at *
         have hba:Below wd.heap.size wd (wd.alloc (.cells #[.string pe.E.k,.string pe.E.v,.int .i64 pe.E.s,.string pe.E.r,.int .i64 pe.E.m,.slice pe.A pe.E.fs.length pe.c,.slice pe.X pe.E.body.length pe.d,.int .i64 pe.E.asked,.int .i64 pe.E.got] 41)):=(zB _ _).alloc (zA _) _
         have HNEW:=aH (Rd.newRow wd 41 #[.string pe.E.k,.string pe.E.v,.int .i64 pe.E.s,.string pe.E.r,.int .i64 pe.E.m,.slice pe.A pe.E.fs.length pe.c,.slice pe.X pe.E.body.length pe.d,.int .i64 pe.E.asked,.int .i64 pe.E.got] 1 9 rfl)
         have HR4:=aH (HR3.out.below hba)
         have HW4:=aH (HW3.out.below hba)
         have HB4:=aH (aA HB3.out.size HB3.out hba)
         have hbz:w6.heap.size≤(wd.alloc (.cells #[.string pe.E.k,.string pe.E.v,.int .i64 pe.E.s,.string pe.E.r,.int .i64 pe.E.m,.slice pe.A pe.E.fs.length pe.c,.slice pe.X pe.E.body.length pe.d,.int .i64 pe.E.asked,.int .i64 pe.E.got] 41)).heap.size:=HB4.out.size
         have HL60:Hid (M.length+1≤549755813888):=aH (by have:=HLK.out;omega)
         clear hba HR3 HW3 HB3 x10
         go_wp2_with (at_builtin;refine aOS _ rfl _ _ rfl w6.heap.size A2 M.length c2 M rfl HR4.out _ 1 1 [pe] rfl HNEW.out HL60.out hbz ?_;intro A8 c8 w8 hr8 ha8;have HR8:=aH hr8;have HW8:=aH (HW4.out.app HR4.out ha8);have HB8:=aH (HB4.out.trans (ha8.below HR4.out hbz));clear hr8 ha8)
         go_roundw
         case rel=>exact⟨t+1,A8,c8,M++[pe],by omega,by go_num,by rw[HSC.out,HM2.out],by rw[bC]<;>rfl,by rw[bC];exact HR8.out,HW8.out,HB8.out⟩
         case measure=>simp [intOf];omega
       ·have hte:t=L.length:=by omega
        have hMe:M=aIB kx L:=by rw[HM2.out,hte,List.take_length]
        have HML:=aH (aKP kx L)
        subst hMe
        go_wp2
        go_roundw
        case rel=>exact⟨k+1,is+k,A2,c2,aIB kx L,by omega,by go_num,rfl,by have:=HML.out;omega,by omega,HR2.out.mono HB6.out.size,HSV.out.cut kx,HW2.out.mono (zA _) (Nat.le_succ _),HB6.out.trans (HB2.out.mono HB6.out.size)⟩
        case measure=>simp [intOf];omega
     ·by_cases h1:what=1
      ·subst h1
       have hlb:=F.bU p.E.fs
       have hps:=HPS.out
       unfold EP.bulk at hps
       have HCE:=aH (uX p w5 (by omega) (by omega) HPE5.out)
       unfold EP.v lW at HCE
       have x0:=HK5.out.cell 0 rfl
       have x1:=HK5.out.cell 1 rfl
       have x2:=HK5.out.cell 2 rfl
       have x3:=HK5.out.cell 3 rfl
       have x4:=HK5.out.cell 4 rfl
       have x5:=HK5.out.cell 5 rfl
       have x6:=HK5.out.cell 6 rfl
       have x7:=HK5.out.cell 7 rfl
       have x8:=HK5.out.cell 8 rfl
       have x9:=HK5.out.cell 9 rfl
       go_wp2_with fail
       clear x0 x1 x2 x3 x4 x5 x6 x7 x8 x9
       refine HCE.out.mono ?_
       rintro e w6 ⟨p1,rfl,hpE,hpO,hpB⟩
       have hsv:=aF9 p1 HWK5.out hpB hpO (by omega) (by omega) (by unfold EP.lim;rw[hpE];omega) (fun u hu=>HTA.out w6 (aA HB5.out.size HB5.out hpB) u hu)
       rw[hpE]at hsv
       have HSA:=aH hsv
       have HK6:=aH (HK5.out.below hpB)
       have HRW6:=aH (HRW5.out.below hpB)
       have HB6:=aH (aA HB5.out.size HB5.out hpB)
       clear hpE hpO hpB hsv HCE HK5 HRW5 HWK5 HB5 HPE5 HPY5
       go_wp2_with fail
       refine HSA.out.mono ?_
       rintro e w7 ⟨code,rfl,hb7,hst7,hor⟩
       have HK7:=aH (hst7.blk _ _ _ (.inl rfl) HK6.out)
       have HRW7:=aH (hst7.row _ _ _ _ _ HRW6.out)
       have HB7:=aH (HB6.out.trans (hb7.mono HBZ.out))
       clear hb7 hst7 HSA HK6 HRW6 HB6
       rcases hor with ⟨hcd,hwk7⟩ | ⟨hcd,hen,hwk7⟩
       ·have e1:(code != 120)=false:=by simp [hcd]
        have HWK7:=aH hwk7
        clear hwk7 hcd
        go_wp2
        go_roundw
        case rel=>exact⟨k+1,is,A1,c1,L,by omega,by go_num,rfl,by have:=HLK.out;omega,by omega,HRW7.out,HSV.out,HWK7.out.mono (zA _) (Nat.le_succ _),HB7.out⟩
        case measure=>simp [intOf];omega
       ·have e1:(code != 120)=true:=by simpa using hcd
        have x0:=HK7.out.cell 0 rfl
        have x1:=HK7.out.cell 1 rfl
        have x2:=HK7.out.cell 2 rfl
        have x3:=HK7.out.cell 3 rfl
        have x4:=HK7.out.cell 4 rfl
        have x5:=HK7.out.cell 5 rfl
        have x6:=HK7.out.cell 6 rfl
        have x7:=HK7.out.cell 7 rfl
        have x8:=HK7.out.cell 8 rfl
        have x9:=HK7.out.cell 9 rfl
        have hba:Below w7.heap.size w7 (w7.alloc (.cells #[.string p.E.k,.string p.E.v,.int .i64 p.E.s,.string p.E.r,.int .i64 p.E.m,.slice p.A p.E.fs.length p.c,.slice p.X p.E.body.length p.d,.int .i64 p.E.asked,.int .i64 p.E.got] 41)):=(zB _ _).alloc (zA _) _
        have HNEW:=aH (Rd.newRow w7 41 #[.string p.E.k,.string p.E.v,.int .i64 p.E.s,.string p.E.r,.int .i64 p.E.m,.slice p.A p.E.fs.length p.c,.slice p.X p.E.body.length p.d,.int .i64 p.E.asked,.int .i64 p.E.got] 1 9 rfl)
        have HR8:=aH (HRW7.out.below hba)
        have HW8:=aH (Wk.below hwk7 hba)
        have HB8:=aH (aA HB7.out.size HB7.out hba)
        have hbz:w.heap.size≤(w7.alloc (.cells #[.string p.E.k,.string p.E.v,.int .i64 p.E.s,.string p.E.r,.int .i64 p.E.m,.slice p.A p.E.fs.length p.c,.slice p.X p.E.body.length p.d,.int .i64 p.E.asked,.int .i64 p.E.got] 41)).heap.size:=HB8.out.size
        have HL60:Hid (L.length+1≤549755813888):=aH (by have:=HLK.out;omega)
        have HSN:Hid (aN7 w (L++[p])):=aH (fun x hx=>(List.mem_append.1 hx).elim (HSV.out x) (fun h=>(List.mem_singleton.1 h) ▸ ⟨HPE.out,by unfold EP.bulk;omega,hen,HNP.out⟩))
        have hme:(L.map (·.E))++[p.E]=(L++[p]).map (·.E):=by rw[List.map_append];rfl
        rw[hme]at HW8
        clear hba hwk7 hcd hen hme HRW7 HB7 HK7
        go_wp2_with (at_builtin;refine aOS _ rfl _ _ rfl w.heap.size A1 L.length c1 L rfl HR8.out _ 1 1 [p] rfl HNEW.out HL60.out hbz ?_;intro A9 c9 w9 hr9 ha9;have HR9:=aH hr9;have HW9:=aH (HW8.out.app HR8.out ha9);have HB9:=aH (HB8.out.trans (ha9.below HR8.out hbz));clear hr9 ha9)
        go_roundw
        case rel=>exact⟨k+1,is+1,A9,c9,L++[p],by omega,by go_num,by rw[bC]<;>rfl,by rw[bC,List.length_singleton];have:=HLK.out;omega,by omega,by rw[bC];exact HR9.out,HSN.out,HW9.out,HB9.out⟩
        case measure=>simp [intOf];omega
      ·have e3:(what==3)=false:=beq_false_of_ne h3
       have e1:(what==1)=false:=beq_false_of_ne h1
       have hps:=HPS.out
       have hlb:=F.bU ax
       obtain⟨na,hna⟩:∃ na,ax.length=na:=⟨_,rfl⟩
       have HNA:=aH hna
       have HCF:=aH (fun u (hu:Below w.heap.size w u)=>iM Yx na cx ax u (by omega) (by rw[← hna];exact HPY.out.below hu))
       rw[hna]at HK5
       have x0:=HK5.out.cell 0 rfl
       clear hna hlb
       go_upto_region 28 with fail
       clear x0
       have hS0:Blk w5.drew bx #[.int .i64 what,.string p.E.k,.string p.E.v,.int .i64 p.E.s,.string p.E.r,.int .i64 p.E.m,.slice p.A p.E.fs.length p.c,.slice p.X p.E.body.length p.d,.int .i64 p.E.asked,.int .i64 p.E.got,.string kx,.slice Yx na cx] 43∧Row w5.drew w.heap.size 41 9 A1 L.length c1 (dC L)∧Wk B rm zc n0 is k (L.map (·.E)) w5.drew∧Below w.heap.size w w5.drew:=⟨HK5.out.below (zB _ _).drew,HRW5.out.below (zB _ _).drew,HWK5.out.below (zB _ _).drew,HB5.out.drew⟩
       refine wp_region_noPanic ?_
       refine HT.begin (n:=6) (S:=(fun u=>Blk u bx #[.int .i64 what,.string p.E.k,.string p.E.v,.int .i64 p.E.s,.string p.E.r,.int .i64 p.E.m,.slice p.A p.E.fs.length p.c,.slice p.X p.E.body.length p.d,.int .i64 p.E.asked,.int .i64 p.E.got,.string kx,.slice Yx na cx] 43∧Row u w.heap.size 41 9 A1 L.length c1 (dC L)∧Wk B rm zc n0 is k (L.map (·.E)) u∧Below w.heap.size w u)) (by kernel_rfl) hS0 ?_
       generalize w5.drew=v5 at *
       clear HK5 HRW5 HWK5 HB5 HPE5 HPY5
       refine HT.take 0 (.pointer (some ⟨zc,0,none⟩)) rfl (by kernel_rfl) (fun _ _ _ h=>h) (Or.inl ⟨by rfl,?_⟩) (?_:HT _ _ _ _ _ _ _ ⟨#[_,_,_,_,_,_,_,_,_,_,_,_,_,_,_,_,_,_,_,_,_,_,_,_,_,_,_,_,_,_,_,_,_,_,_,_,_,_,_,_,_,_,_,_,_,_,_,_,_,_,_,_,_,_,_,_,_,_,_,_,_,_,_,_,_,_,_,_,_,_,_,_,_,_,_,_,_,_,_,_,_,_,_,_,_,_,_,_,_,_,_,_,_,_,_,_,_,_,_,_,_,_,_,.pointer (some ⟨zc,0,none⟩),_,_,_,_,_,_,_,_,_,_,_,_,_,_,_,_,_,_,_,_,_,_,_,_,_,_,_,_,_,_,_,_,_,_,_,_,_,_,_,_,_,_,_,_,_,_,_,_,_,_,_,_,_,_,_,_,_,_,_,_,_,_,_,_,_,_,_,_],[]⟩ _)
       ·intro u hu
        go_simp
       refine HT.take 1 (.pointer (some ⟨bx,10,none⟩)) rfl (by kernel_rfl) (fun _ _ _ h=>h) (Or.inl ⟨by rfl,?_⟩) (?_:HT _ _ _ _ _ _ _ ⟨#[_,_,_,_,_,_,_,_,_,_,_,_,_,_,_,_,_,_,_,_,_,_,_,_,_,_,_,_,_,_,_,_,_,_,_,_,_,_,_,_,_,_,_,_,_,_,_,_,_,_,_,_,_,_,_,_,_,_,_,_,_,_,_,_,_,_,_,_,_,_,_,_,_,_,_,_,_,_,_,_,_,_,_,_,_,_,_,_,_,_,_,_,_,_,_,_,_,_,_,_,_,_,_,.pointer (some ⟨zc,0,none⟩),.pointer (some ⟨bx,10,none⟩),_,_,_,_,_,_,_,_,_,_,_,_,_,_,_,_,_,_,_,_,_,_,_,_,_,_,_,_,_,_,_,_,_,_,_,_,_,_,_,_,_,_,_,_,_,_,_,_,_,_,_,_,_,_,_,_,_,_,_,_,_,_,_,_,_,_,_],[]⟩ _)
       ·intro u hu
        go_simp
       refine HT.take 2 (.string kx) rfl (by kernel_rfl) (fun _ _ _ h=>h) (Or.inl ⟨by rfl,?_⟩) (?_:HT _ _ _ _ _ _ _ ⟨#[_,_,_,_,_,_,_,_,_,_,_,_,_,_,_,_,_,_,_,_,_,_,_,_,_,_,_,_,_,_,_,_,_,_,_,_,_,_,_,_,_,_,_,_,_,_,_,_,_,_,_,_,_,_,_,_,_,_,_,_,_,_,_,_,_,_,_,_,_,_,_,_,_,_,_,_,_,_,_,_,_,_,_,_,_,_,_,_,_,_,_,_,_,_,_,_,_,_,_,_,_,_,_,.pointer (some ⟨zc,0,none⟩),.pointer (some ⟨bx,10,none⟩),.string kx,_,_,_,_,_,_,_,_,_,_,_,_,_,_,_,_,_,_,_,_,_,_,_,_,_,_,_,_,_,_,_,_,_,_,_,_,_,_,_,_,_,_,_,_,_,_,_,_,_,_,_,_,_,_,_,_,_,_,_,_,_,_,_,_,_,_],[]⟩ _)
       ·intro u hu
        have x10:=hu.1.cell 10 rfl
        go_simp
       refine HT.take 3 (.pointer (some ⟨bx,11,none⟩)) rfl (by kernel_rfl) (fun _ _ _ h=>h) (Or.inl ⟨by rfl,?_⟩) (?_:HT _ _ _ _ _ _ _ ⟨#[_,_,_,_,_,_,_,_,_,_,_,_,_,_,_,_,_,_,_,_,_,_,_,_,_,_,_,_,_,_,_,_,_,_,_,_,_,_,_,_,_,_,_,_,_,_,_,_,_,_,_,_,_,_,_,_,_,_,_,_,_,_,_,_,_,_,_,_,_,_,_,_,_,_,_,_,_,_,_,_,_,_,_,_,_,_,_,_,_,_,_,_,_,_,_,_,_,_,_,_,_,_,_,.pointer (some ⟨zc,0,none⟩),.pointer (some ⟨bx,10,none⟩),.string kx,.pointer (some ⟨bx,11,none⟩),_,_,_,_,_,_,_,_,_,_,_,_,_,_,_,_,_,_,_,_,_,_,_,_,_,_,_,_,_,_,_,_,_,_,_,_,_,_,_,_,_,_,_,_,_,_,_,_,_,_,_,_,_,_,_,_,_,_,_,_,_,_,_,_,_],[]⟩ _)
       ·intro u hu
        go_simp
       refine HT.take 4 (.slice Yx na cx) rfl (by kernel_rfl) (fun _ _ _ h=>h) (Or.inl ⟨by rfl,?_⟩) (?_:HT _ _ _ _ _ _ _ ⟨#[_,_,_,_,_,_,_,_,_,_,_,_,_,_,_,_,_,_,_,_,_,_,_,_,_,_,_,_,_,_,_,_,_,_,_,_,_,_,_,_,_,_,_,_,_,_,_,_,_,_,_,_,_,_,_,_,_,_,_,_,_,_,_,_,_,_,_,_,_,_,_,_,_,_,_,_,_,_,_,_,_,_,_,_,_,_,_,_,_,_,_,_,_,_,_,_,_,_,_,_,_,_,_,.pointer (some ⟨zc,0,none⟩),.pointer (some ⟨bx,10,none⟩),.string kx,.pointer (some ⟨bx,11,none⟩),.slice Yx na cx,_,_,_,_,_,_,_,_,_,_,_,_,_,_,_,_,_,_,_,_,_,_,_,_,_,_,_,_,_,_,_,_,_,_,_,_,_,_,_,_,_,_,_,_,_,_,_,_,_,_,_,_,_,_,_,_,_,_,_,_,_,_,_,_],[]⟩ _)
       ·intro u hu
        have x11:=hu.1.cell 11 rfl
        go_simp
       refine HT.step 5 rfl (by kernel_rfl) (fun hS K hK=>?_)
       go_simp
       refine (HCF.out _ hS.2.2.2).mono ?_
       rintro e w6 ⟨Y1,cy1,rfl,hry,hb6⟩
       refine hK.out _ _ ⟨hS.1.below hb6,hS.2.1.below hb6,hS.2.2.1.below hb6,aA hS.2.2.2.size hS.2.2.2 hb6⟩ ?_
       have hry:=hry.rd
       clear hK hS hS0 hb6
       refine HT.tail _ rfl rfl (by kernel_rfl) (fun hS=>?_)
       obtain⟨hk6,hr6,hw6,hb6⟩:=hS
       have hfi:=wR kx Y1 cy1 ax hw6 (by omega) (by omega) HSV.out.encs (by omega) (by omega) (by rw[HNA.out];exact hry) (fun u' hu'=>HTA.out w6 hb6 u' hu')
       rw[HNA.out]at hfi
       have HFI:=aH hfi
       have HR6:=aH hr6
       have HB6:=aH hb6
       clear hfi hk6 hr6 hw6 hb6 hry
       go_wp2_with fail
       refine HFI.out.mono ?_
       rintro e w7 ⟨q,ok,rfl,hb7,hst7,hwk7,-⟩
       have HR7:=aH (hst7.row _ _ _ _ _ HR6.out)
       have HW7:=aH hwk7
       have HB7:=aH (HB6.out.trans (hb7.mono HBZ.out))
       clear hb7 hst7 hwk7 HFI HR6 HB6
       go_wp2
       refine NoPanic.normal ?_
       go_wp2
       go_roundw
       case rel=>exact⟨k+1,is,A1,c1,L,by omega,by go_num,rfl,by have:=HLK.out;omega,by omega,HR7.out,HSV.out,HW7.out.mono (zA _) (Nat.le_succ _),HB7.out⟩
       case measure=>simp [intOf];omega
    ·skip
     have HCF:=aH (fun u (hu:Below w.heap.size w u)=>iM Y an cy ask u (by omega) (HY.out.below hu))
     go_wp2_with fail
     refine (HCF.out _ HBE.out).mono ?_
     rintro e w6 ⟨Y1,cy1,rfl,hry,hb6⟩
     have HB6:=aH (aA HBE.out.size HBE.out hb6)
     have HR6:=aH (HRW.out.below hb6)
     have hfi:=wR key Y1 cy1 ask (HWK.out.below hb6) (by omega) (by omega) HSV.out.encs hk hab (by rw[HALN.out];exact hry.rd) (fun u' hu'=>HTA.out w6 HB6.out u' hu')
     rw[HALN.out]at hfi
     have HFI:=aH hfi
     clear hfi hry hb6 HBE HRW HWK
     go_wp2_with fail
     refine HFI.out.mono ?_
     rintro e w7 ⟨q,ok,rfl,hb7,hst7,hwk7,her7,hn7,hy7⟩
     have HR7:=aH (hst7.row _ _ _ _ _ HR6.out)
     have HB7:=aH (HB6.out.trans (hb7.mono HBZ.out))
     have HER7:=aH her7
     have HN7:=aH hn7
     have HY7:=aH hy7
     clear hb7 hst7 hwk7 her7 hn7 hy7 HFI HR6 HB6
     unfold EP.v lW
     cases ok with
     | false =>
      have hqn:=HN7.out rfl
      subst hqn
      have hba:Below w7.heap.size w7 (w7.alloc (.cells #[.string EP.nil.E.k,.string EP.nil.E.v,.int .i64 EP.nil.E.s,.string EP.nil.E.r,.int .i64 EP.nil.E.m,.slice EP.nil.A EP.nil.E.fs.length EP.nil.c,.slice EP.nil.X EP.nil.E.body.length EP.nil.d,.int .i64 EP.nil.E.asked,.int .i64 EP.nil.E.got] 41)):=(zB _ _).alloc (zA _) _
      have HB8:=aH (aA HB7.out.size HB7.out hba)
      dsimp only[EP.nil,O.Ent.zero,List.length_nil]at HB8 ⊢
      clear hba HR7 HER7 HN7 HY7 HB7
      go_wp2
      go_ret
      exact⟨rfl,HB8.out⟩
     | true =>
      obtain⟨hqk,hqm,hql⟩:=HY7.out rfl
      have HQL:=aH hql
      have hqe:=HSV.out.encs _ (C.kF hql).1
      have HGD:=aH (enc_good (ask:=ask) hqe hab)
      have HQK:=aH hqk
      have HQM:=aH hqm
      clear hqk hqm hql hqe
      go_upto_region 30 with fail
      obtain⟨w8,hw8⟩:∃ w8,w7.alloc (.cells #[.string q.E.k,.string q.E.v,.int .i64 q.E.s,.string q.E.r,.int .i64 q.E.m,.slice q.A q.E.fs.length q.c,.slice q.X q.E.body.length q.d,.int .i64 q.E.asked,.int .i64 q.E.got] 41)=w8:=⟨_,rfl⟩
      have hk8:Blk w8 w7.heap.size #[.string q.E.k,.string q.E.v,.int .i64 q.E.s,.string q.E.r,.int .i64 q.E.m,.slice q.A q.E.fs.length q.c,.slice q.X q.E.body.length q.d,.int .i64 q.E.asked,.int .i64 q.E.got] 41:=by rw[← hw8];exact Blk.new w7 _ _
      have hb8:Below w7.heap.size w7 w8:=by rw[← hw8];exact (zB _ _).alloc (zA _) _
      rw[hw8]
      have HB8:=aH (aA HB7.out.size HB7.out hb8)
      have HR8:=aH (HR7.out.below hb8)
      have HER8:=aH (HER7.out.below hb8)
      have HK8:=aH hk8
      have hgd:=HGD.out
      have hlb:=F.bU q.E.fs
      have HCE:=aH (uX q w8 (by have:=hgd.bulk;omega) hgd.body HER8.out)
      unfold EP.v lW at HCE
      have e1:(q.E.k.toList==key.toList)=true:=by rw[bM];exact decide_eq_true HQK.out
      have e2:(!q.E.k.toList==key.toList)=false:=by rw[e1];rfl
      obtain⟨z0,z1,z2,z3,z4,z5,z6,z7,z8⟩:=hk8.cells9
      generalize w7.heap.size=b8 at *
      clear hw8 hk8 hb8 hgd HR7 HER7 HN7 HY7 HB7
      go_wp2_with fail
      clear z0 z1 z2 z3 z4 z5 z6 z7 z8
      refine HCE.out.mono ?_
      rintro e w9 ⟨p3,rfl,hpE,hpO,hpB⟩
      have HB9:=aH (aA HB8.out.size HB8.out hpB)
      have HR9:=aH (HR8.out.below hpB)
      have HER9:=aH (HER8.out.below hpB)
      have HK9:=aH (HK8.out.below hpB)
      have HP9:=aH hpO.rd
      have HPE9:=aH hpE
      clear hpE hpO hpB HCE HB8 HR8 HER8 HK8
      go_wp2_with fail
      refine (HCF.out _ HB9.out).mono ?_
      rintro e w10 ⟨Y2,cy2,rfl,hry,hb10⟩
      have HB10:=aH (aA HB9.out.size HB9.out hb10)
      have HR10:=aH (HR9.out.below hb10)
      have HER10:=aH (HER9.out.below hb10)
      have HK10:=aH (HK9.out.below hb10)
      have hma:=uI p3 Y2 cy2 ask w10 (HP9.out.below hb10) (by rw[HALN.out];exact hry.rd) (by rw[HPE9.out];exact HGD.out.fits)
      rw[HALN.out,HPE9.out,HQM.out]at hma
      have HMA:=aH hma
      clear hma hry hb10 HB9 HR9 HER9 HK9 HP9
      go_wp2_with fail
      refine HMA.out.mono ?_
      rintro e w11 ⟨rfl,hb11⟩
      have HB11:=aH (aA HB10.out.size HB10.out hb11)
      have HR11:=aH (HR10.out.below hb11)
      have HER11:=aH (HER10.out.below hb11)
      have HK11:=aH (HK10.out.below hb11)
      clear hb11 HMA HB10 HR10 HER10 HK10
      go_wp2
      go_loopw [20] (fun jj wr=>∃ t:Nat,t≤L.length∧jj=.int .i64 ((t:Int) - 1)∧(∀ t' (h:t' < L.length),t≤t'→S.aU (L[t']'h).E≠S.aU q.E)∧Below w11.heap.size w11 wr) (fun jj _=>(intOf jj+1).toNat)
      case atStart=>exact⟨L.length,zA _,by go_num,fun t' h h2=>(by omega),zB _ _⟩
      case round =>
       obtain⟨t,htl,rfl,hno,hbw⟩:=hrel
       have HNN:=aH hno
       have HBW:=aH hbw
       clear hno hbw
       obtain⟨wi,rfl⟩:∃ wi:World,wi=wr:=⟨_,rfl⟩
       cases t with
       | zero =>
        exfalso
        obtain⟨h1,h2⟩:=C.kF HQL.out
        obtain⟨p0,h3,h4⟩:=List.mem_map.1 h1
        obtain⟨t',h5,rfl⟩:=List.getElem_of_mem h3
        exact HNN.out t' h5 (zF _) (by rw[h4])
       | succ t =>
        have htlt:t < L.length:=htl
        have hjt:(((t+1:Nat):Int) - 1)=(t:Int):=by omega
        rw[hjt]
        obtain⟨be,oe,rfl,hbe,hea⟩:=aOH (HR11.out.rd) htlt rfl
        obtain⟨y0,y1,y2,y3,y4,y5,y6,y7,y8⟩:=EAt.below hea hbe HBW.out
        have hlm:t < (L.map (·.E)).length:=by rw[List.length_map];exact htlt
        have hla:=C.last_at (l:=L.map (·.E)) (t:=t) (x:=S.aU q.E) hlm
        obtain⟨hsr,hsb,hse,hsn⟩:=HSV.out _ (List.getElem_mem htlt)
        have HER:=aH (hsr.below HB11.out)
        have hgm:(L.map (·.E))[t]'hlm=(L[t]'htlt).E:=by simp
        rw[hgm]at hla
        have hla2:S.aU (L[t]'htlt).E=S.aU q.E→(L[t]'htlt).E=q.E:=fun h0=>by
         have:=hla h0 (fun t' h h2=>by
          rw[List.length_map]at h
          simp only[List.getElem_map]
          exact HNN.out t' h h2)
         rw[HQL.out]at this
         exact (Option.some.inj this).symm
        have hidn:((L[t]'htlt).E.k=q.E.k∧(L[t]'htlt).E.v=q.E.v)∨S.aU (L[t]'htlt).E≠S.aU q.E:=by
         by_cases h0:S.aU (L[t]'htlt).E=S.aU q.E
         ·rw[hla2 h0];exact .inl ⟨rfl,rfl⟩
         ·exact .inr h0
        have hnx:S.aU (L[t]'htlt).E≠S.aU q.E→∀ t' (h:t' < L.length),t≤t'→S.aU (L[t']'h).E≠S.aU q.E:=fun h0 t' h h2=>by
         rcases Nat.lt_or_ge t t' with h3 | h3
         ·exact HNN.out t' h h3
         ·obtain rfl:t'=t:=by omega
          exact h0
        have HNX:=aH hnx
        obtain⟨pe,hpe⟩:∃ pe,L[t]'htlt=pe:=⟨_,rfl⟩
        rw[hpe]at y0 y1 y2 y3 y4 y5 y6 y7 y8 HER hla2 hidn hsb HNX
        have HLA:=aH hla2
        have hk11:=HK11.out.below HBW.out
        have z0:=hk11.cell 0 rfl
        have z1:=hk11.cell 1 rfl
        clear hea hbe hpe hla hla2 hgm hnx hse hsn hsr hk11 hjt
        by_cases hkv:pe.E.k=q.E.k∧pe.E.v=q.E.v
        ·skip
         obtain⟨Ep,pA,pcc,pX,pd⟩:=pe
         have hEp:Ep=q.E:=HLA.out (by unfold S.aU;rw[hkv.1,hkv.2])
         subst hEp
         dsimp only at y0 y1 y2 y3 y4 y5 y6 y7 y8
         have e2:(q.E.k.toList==q.E.k.toList)=true:=by rw[bM];exact decide_eq_true rfl
         have e3:(q.E.v.toList==q.E.v.toList)=true:=by rw[bM];exact decide_eq_true rfl
         have HK12:=aH (HK11.out.below HBW.out)
         have HEA:Hid (EAt wi.drew.drew be (oe+t * 9) ⟨q.E,pA,pcc,pX,pd⟩):=aH ⟨y0,y1,y2,y3,y4,y5,y6,y7,y8⟩
         clear hkv hidn HLA HNX y2 y3 y4 y5 y6 y7 y8
         have hdr:∀ a,(wi.drew).cell? a=wi.cell? a:=fun _=>rfl
         go_upto_region 37 with fail
         go_region
         replace y0:=(hdr _).trans y0
         replace y1:=(hdr _).trans y1
         replace z0:=(hdr _).trans z0
         replace z1:=(hdr _).trans z1
         go_upto_region 38 with fail
         have hS0:EAt wi.drew.drew be (oe+t * 9) ⟨q.E,pA,pcc,pX,pd⟩∧Blk wi.drew.drew b8 #[.string q.E.k,.string q.E.v,.int .i64 q.E.s,.string q.E.r,.int .i64 q.E.m,.slice q.A q.E.fs.length q.c,.slice q.X q.E.body.length q.d,.int .i64 q.E.asked,.int .i64 q.E.got] 41∧Below w11.heap.size w11 wi.drew.drew:=⟨HEA.out,(HK12.out.below (zB _ _).drew).below (zB _ _).drew,HBW.out.drew.drew⟩
         clear y0 y1 z0 z1 hdr HK12 HEA
         refine wp_region_noPanic ?_
         refine HT.begin (n:=5) (S:=(fun u=>EAt u be (oe+t * 9) ⟨q.E,pA,pcc,pX,pd⟩∧Blk u b8 #[.string q.E.k,.string q.E.v,.int .i64 q.E.s,.string q.E.r,.int .i64 q.E.m,.slice q.A q.E.fs.length q.c,.slice q.X q.E.body.length q.d,.int .i64 q.E.asked,.int .i64 q.E.got] 41∧Below w11.heap.size w11 u)) (by kernel_rfl) hS0 ?_
         generalize wi.drew.drew=v9 at *
         refine HT.take 0 (.slice (some ⟨be,oe,none⟩) L.length c1) rfl (by kernel_rfl) (fun _ _ _ h=>h) (Or.inl ⟨by rfl,?_⟩) (?_:HT _ _ _ _ _ _ _ ⟨#[_,_,_,_,_,_,_,_,_,_,_,_,_,_,_,_,_,_,_,_,_,_,_,_,_,_,_,_,_,_,_,_,_,_,_,_,_,_,_,_,_,_,_,_,_,_,_,_,_,_,_,_,_,_,_,_,_,_,_,_,_,_,_,_,_,_,_,_,_,_,_,_,_,_,_,_,_,_,_,_,_,_,_,_,_,_,_,_,_,_,_,_,_,_,_,_,_,_,_,_,_,_,_,_,_,_,_,_,_,_,_,_,_,_,_,_,_,_,_,_,_,_,_,_,_,_,_,_,_,_,_,_,_,_,_,_,_,_,_,_,_,_,_,_,_,_,_,_,_,_,_,_,_,_,_,_,_,_,_,_,_,_,_,_,_,_,.slice (some ⟨be,oe,none⟩) L.length c1,_,_,_,_,_],[]⟩ _)
         ·intro u hu
          go_simp
         refine HT.take 1 (.int .i64 t) rfl (by kernel_rfl) (fun _ _ _ h=>h) (Or.inl ⟨by rfl,?_⟩) (?_:HT _ _ _ _ _ _ _ ⟨#[_,_,_,_,_,_,_,_,_,_,_,_,_,_,_,_,_,_,_,_,_,_,_,_,_,_,_,_,_,_,_,_,_,_,_,_,_,_,_,_,_,_,_,_,_,_,_,_,_,_,_,_,_,_,_,_,_,_,_,_,_,_,_,_,_,_,_,_,_,_,_,_,_,_,_,_,_,_,_,_,_,_,_,_,_,_,_,_,_,_,_,_,_,_,_,_,_,_,_,_,_,_,_,_,_,_,_,_,_,_,_,_,_,_,_,_,_,_,_,_,_,_,_,_,_,_,_,_,_,_,_,_,_,_,_,_,_,_,_,_,_,_,_,_,_,_,_,_,_,_,_,_,_,_,_,_,_,_,_,_,_,_,_,_,_,_,.slice (some ⟨be,oe,none⟩) L.length c1,.int .i64 t,_,_,_,_],[]⟩ _)
         ·intro u hu
          go_simp
         refine HT.take 2 (.pointer (some ⟨be,oe+t * 9,none⟩)) rfl (by kernel_rfl) (fun _ _ _ h=>h) (Or.inl ⟨by rfl,?_⟩) (?_:HT _ _ _ _ _ _ _ ⟨#[_,_,_,_,_,_,_,_,_,_,_,_,_,_,_,_,_,_,_,_,_,_,_,_,_,_,_,_,_,_,_,_,_,_,_,_,_,_,_,_,_,_,_,_,_,_,_,_,_,_,_,_,_,_,_,_,_,_,_,_,_,_,_,_,_,_,_,_,_,_,_,_,_,_,_,_,_,_,_,_,_,_,_,_,_,_,_,_,_,_,_,_,_,_,_,_,_,_,_,_,_,_,_,_,_,_,_,_,_,_,_,_,_,_,_,_,_,_,_,_,_,_,_,_,_,_,_,_,_,_,_,_,_,_,_,_,_,_,_,_,_,_,_,_,_,_,_,_,_,_,_,_,_,_,_,_,_,_,_,_,_,_,_,_,_,_,.slice (some ⟨be,oe,none⟩) L.length c1,.int .i64 t,.pointer (some ⟨be,oe+t * 9,none⟩),_,_,_],[]⟩ _)
         ·intro u hu
          go_simp
         refine HT.take 3 (.agg #[.string q.E.k,.string q.E.v,.int .i64 q.E.s,.string q.E.r,.int .i64 q.E.m,.slice pA q.E.fs.length pcc,.slice pX q.E.body.length pd,.int .i64 q.E.asked,.int .i64 q.E.got]) rfl (by kernel_rfl) (fun _ _ _ h=>h) (Or.inl ⟨by rfl,?_⟩) (?_:HT _ _ _ _ _ _ _ ⟨#[_,_,_,_,_,_,_,_,_,_,_,_,_,_,_,_,_,_,_,_,_,_,_,_,_,_,_,_,_,_,_,_,_,_,_,_,_,_,_,_,_,_,_,_,_,_,_,_,_,_,_,_,_,_,_,_,_,_,_,_,_,_,_,_,_,_,_,_,_,_,_,_,_,_,_,_,_,_,_,_,_,_,_,_,_,_,_,_,_,_,_,_,_,_,_,_,_,_,_,_,_,_,_,_,_,_,_,_,_,_,_,_,_,_,_,_,_,_,_,_,_,_,_,_,_,_,_,_,_,_,_,_,_,_,_,_,_,_,_,_,_,_,_,_,_,_,_,_,_,_,_,_,_,_,_,_,_,_,_,_,_,_,_,_,_,_,.slice (some ⟨be,oe,none⟩) L.length c1,.int .i64 t,.pointer (some ⟨be,oe+t * 9,none⟩),.agg #[.string q.E.k,.string q.E.v,.int .i64 q.E.s,.string q.E.r,.int .i64 q.E.m,.slice pA q.E.fs.length pcc,.slice pX q.E.body.length pd,.int .i64 q.E.asked,.int .i64 q.E.got],_,_],[]⟩ _)
         ·intro u hu
          obtain⟨y0,y1,y2,y3,y4,y5,y6,y7,y8⟩:=hu.1
          dsimp only at y0 y1 y2 y3 y4 y5 y6 y7 y8
          go_simp
         refine HT.take 4 (.agg #[.string q.E.k,.string q.E.v,.int .i64 q.E.s,.string q.E.r,.int .i64 q.E.m,.slice q.A q.E.fs.length q.c,.slice q.X q.E.body.length q.d,.int .i64 q.E.asked,.int .i64 q.E.got]) rfl (by kernel_rfl) (fun _ _ _ h=>h) (Or.inl ⟨by rfl,?_⟩) (?_:HT _ _ _ _ _ _ _ ⟨#[_,_,_,_,_,_,_,_,_,_,_,_,_,_,_,_,_,_,_,_,_,_,_,_,_,_,_,_,_,_,_,_,_,_,_,_,_,_,_,_,_,_,_,_,_,_,_,_,_,_,_,_,_,_,_,_,_,_,_,_,_,_,_,_,_,_,_,_,_,_,_,_,_,_,_,_,_,_,_,_,_,_,_,_,_,_,_,_,_,_,_,_,_,_,_,_,_,_,_,_,_,_,_,_,_,_,_,_,_,_,_,_,_,_,_,_,_,_,_,_,_,_,_,_,_,_,_,_,_,_,_,_,_,_,_,_,_,_,_,_,_,_,_,_,_,_,_,_,_,_,_,_,_,_,_,_,_,_,_,_,_,_,_,_,_,_,.slice (some ⟨be,oe,none⟩) L.length c1,.int .i64 t,.pointer (some ⟨be,oe+t * 9,none⟩),.agg #[.string q.E.k,.string q.E.v,.int .i64 q.E.s,.string q.E.r,.int .i64 q.E.m,.slice pA q.E.fs.length pcc,.slice pX q.E.body.length pd,.int .i64 q.E.asked,.int .i64 q.E.got],.agg #[.string q.E.k,.string q.E.v,.int .i64 q.E.s,.string q.E.r,.int .i64 q.E.m,.slice q.A q.E.fs.length q.c,.slice q.X q.E.body.length q.d,.int .i64 q.E.asked,.int .i64 q.E.got],_],[]⟩ _)
         ·intro u hu
          obtain⟨z0,z1,z2,z3,z4,z5,z6,z7,z8⟩:=hu.2.1.cells9
          go_simp
         refine HT.tail _ rfl rfl (by kernel_rfl) (fun hS=>?_)
         obtain⟨-,-,hb9⟩:=hS
         have hlb:=F.bU q.E.fs
         have hgb:=HGD.out.bulk
         have hr1:=HER.out.below hb9
         have hr2:=HER11.out.below hb9
         have HSE:=aH (yY q.E.k q.E.v q.E.s q.E.r q.E.m pA pcc q.E.fs pX pd q.E.body q.E.asked q.E.got q.A q.c q.X q.d v9 (by omega) HGD.out.body hr1.1 hr2.1 hr1.2 hr2.2)
         have HB9:=aH (aA HB11.out.size HB11.out hb9)
         clear hr1 hr2 hb9 hlb hgb
         go_wp2_with fail
         refine HSE.out.mono ?_
         rintro e w12 ⟨rfl,hb12⟩
         have HB12:=aH (aA HB9.out.size HB9.out hb12)
         clear hb12 HSE HB9
         go_wp2
         refine NoPanic.normal ?_
         go_wp2
         go_ret
         exact⟨rfl,HB12.out⟩
        ·have hni:S.aU pe.E≠S.aU q.E:=hidn.resolve_left hkv
         by_cases hkk:pe.E.k=q.E.k
         ·have e2:(pe.E.k.toList==q.E.k.toList)=true:=by rw[bM];exact decide_eq_true hkk
          have e3:(pe.E.v.toList==q.E.v.toList)=false:=by rw[bM];exact decide_eq_false (fun h=>hkv ⟨hkk,h⟩)
          clear hkk hkv
          have hdr:∀ a,(wi.drew).cell? a=wi.cell? a:=fun _=>rfl
          go_upto_region 37 with fail
          go_region
          replace y0:=(hdr _).trans y0
          replace y1:=(hdr _).trans y1
          replace z0:=(hdr _).trans z0
          replace z1:=(hdr _).trans z1
          have HBD:=aH HBW.out.drew
          go_wp2
          go_roundw
          case rel=>exact⟨t,by omega,rfl,HNX.out hni,HBD.out⟩
          case measure=>simp [intOf]
         ·have e2:(pe.E.k.toList==q.E.k.toList)=false:=by rw[bM];exact decide_eq_false hkk
          clear hkk hkv
          have hdr:∀ a,(wi.drew).cell? a=wi.cell? a:=fun _=>rfl
          go_upto_region 37 with fail
          go_region
          replace y0:=(hdr _).trans y0
          replace y1:=(hdr _).trans y1
          replace z0:=(hdr _).trans z0
          replace z1:=(hdr _).trans z1
          have HBD:=aH HBW.out.drew
          go_wp2
          go_roundw
          case rel=>exact⟨t,by omega,rfl,HNX.out hni,HBD.out⟩
          case measure=>simp [intOf]
end Go.Proofs.YthjeglnkgdpijaaGreatDoor
