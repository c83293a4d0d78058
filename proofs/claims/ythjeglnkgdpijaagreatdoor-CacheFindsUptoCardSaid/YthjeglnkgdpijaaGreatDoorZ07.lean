/- The walk of cache's Save. A store without faults and with room: what it keeps through Puts and Drops, and that one that is opened anew has the same. The walk of vary.Key. Conditions: as each theorem states them. -/
import Derived.Test.YthjeglnkgdpijaaGreatDoorZ06
set_option maxHeartbeats 4000000
set_option maxRecDepth 100000
namespace Go.Proofs.YthjeglnkgdpijaaGreatDoor
open Go Go.RowKit Go.Maps
section
variable {B room k:Nat} {Z:CM} {a:CSt} {w w':World} {F F':Nat→Prop} {X:SM} {s:S.Sto} {T:TypeId}
theorem aHN (h:eU B X s w) (hf:X.foot s k):B≤k:=by
 rcases hf with hf | rfl | rfl | rfl | hf
 ·have hd:=h.log.disk
  rcases hf with rfl | rfl | rfl | hf | ⟨no,hn,rfl | hf⟩
  ·exact hd.ge.1
  ·exact hd.ge.2.1
  ·exact hd.ge.2.2
  ·exact (hd.pend.lt k hf).1
  ·exact (hd.files no hn).ge
  ·exact ((hd.files no hn).row.lt k hf).1
 ·exact h.log.ge
 ·exact h.ge.1
 ·exact h.ge.2
 ·exact (h.used.lt k hf).1
theorem CAt.under (h:CAt B room Z a w) (hk:Z.foot a k):B≤k:=by
 rcases hk with hk | rfl | ⟨s,hs,hk⟩
 ·exact h.mem.under hk
 ·exact h.ge.2
 ·exact aHN (h.sto s hs) hk
theorem dR (h:aO F w F' w') (hF:∀ k,F k→B≤k) (hB:B≤w.heap.size):Below B w w' :=
 ⟨h.os,h.tape,h.output,h.size,fun k hk=>h.block k (by omega) (fun hf=>by have:=hF k hf;omega)⟩
theorem CAt.off (h:CAt B room Z a w) (ht:Tag w k T) (h1:T≠95∧T≠200∧T≠100∧T≠5) (h2:T≠154∧T≠109∧T≠4) (h3:T≠Lr.tT∧T≠Lr.nT):¬ Z.foot a k:=by
 rintro (hk | rfl | ⟨s,hs,hk⟩)
 ·exact h.mem.off ht h3.1 h3.2 hk
 ·exact ht.map (aC h.hid) rfl
 ·exact (h.sto s hs).off ht h1 h2 hk
end
def aQQ (B room:Nat) (Z:CM) (a:CSt) (E:O.Ent) (w:World) (e:Ending) (w':World):Prop :=
 (S.gU E≠0∧e=.returned (.int .i64 (S.gU E))∧Below w.heap.size w w') ∨
 (S.gU E=0∧∃ l',pV w a.l l' (S.aU E) E∧match a.s with
  | none=>e=.returned (.int .i64 0)∧CAt B room Z { a with l:=l' } w'∧aO (Z.foot a) w (Z.foot { a with l:=l' }) w'
  | some s=>e=.returned (.int .i64 (s.put E).2)∧∃ X',CAt B room { Z with X:=X' } (C.hide ⟨some (s.put E).1,l',a.hd⟩ (S.aU E) (decide ((s.put E).2≠0))) w'∧aO (Z.foot a) w (CM.foot { Z with X:=X' } (C.hide ⟨some (s.put E).1,l',a.hd⟩ (S.aU E) (decide ((s.put E).2≠0)))) w')
theorem aE3 (B room b m m':Nat) (Z:CM) (a:CSt) (p:EP) (w:World) (h:CAt B room Z a w) (hp:gZ w b p) (hk:p.E.k.size≤268435456) (hv:p.E.v.size≤268435456) (hr:p.E.r.size≤1073741824) (hb:F.bulk p.E.fs≤1073741824) (hl:p.E.fs.length≤1099511627776∧p.E.body.length≤1099511627776)
  (hf:∀ s,a.s=some s→C.Fine m s∧C.Fine m' (s.put p.E).1) (hm:m≤134000000) (hd:a.hd.length≤1073741824) (hT:∀ u,Below B w u→iY u) (hB:B≤w.heap.size) (hsep:∀ k,ownB p.A p.c=some k∨ownB p.X p.d=some k→¬ Z.foot a k) :
  Calls Tryz.prog 11 #[.pointer (some ⟨Z.c,0,none⟩),p.v] w (aQQ B room Z a p.E w):=by
 obtain⟨w0,hw0⟩:∃ w0,w.alloc (.cells #[.string p.E.k,.string p.E.v,.int .i64 p.E.s,.string p.E.r,.int .i64 p.E.m,.slice p.A p.E.fs.length p.c,.slice p.X p.E.body.length p.d,.int .i64 p.E.asked,.int .i64 p.E.got] 41)=w0:=⟨_,rfl⟩
 have hb0:Below w.heap.size w w0:=by rw[← hw0];exact (zB _ _).alloc (zA _) _
 have hk0:Blk w0 w.heap.size #[.string p.E.k,.string p.E.v,.int .i64 p.E.s,.string p.E.r,.int .i64 p.E.m,.slice p.A p.E.fs.length p.c,.slice p.X p.E.body.length p.d,.int .i64 p.E.asked,.int .i64 p.E.got] 41:=by rw[← hw0];exact Blk.new w _ _
 have HID:=aH (aOO p.E.k p.E.v w0 (by omega) (by omega))
 rw[show p.E.k++⟨#[10]⟩++p.E.v=S.aU p.E from rfl]at HID
 have his:(S.aU p.E).size≤1073741824:=by
  have:(S.aU p.E).size=p.E.k.size+1+p.E.v.size:=by unfold S.aU;rw[aS,dG,dG,bC,bC,← aS,← aS];rfl
  omega
 obtain⟨x0,x1,x2,x3,x4,x5,x6,x7,x8⟩:=hk0.cells9
 have HB0:=aH hb0
 have HK0:=aH hk0
 have H0:=aH (h.below hb0)
 have HP0:=aH (hp.below hb0)
 have HF:=aH hf
 have HTA:=aH hT
 obtain⟨id,hid⟩:∃ id,S.aU p.E=id:=⟨_,rfl⟩
 rw[hid]at HID his
 have HIE:=aH hid
 clear hb0 hk0 h hp hf hT hid
 unfold EP.v lW
 go_enter Tryz.func11,Tryz.ntmps11
 go_wp2_with fail
 clear x0 x1 x2 x3 x4 x5 x6 x7 x8 hw0
 refine HID.out.mono ?_
 rintro e w1 ⟨rfl,hb1⟩
 have HB1:=aH (aA HB0.out.size HB0.out hb1)
 have HZ1:=aH (bD HB0.out.size hb1.size)
 have H1:=aH (H0.out.below hb1)
 have HK1:=aH (HK0.out.below hb1)
 have HP1:=aH (HP0.out.below hb1)
 have HLY:=aH (aJR B room b Z a id p w1 H1.out HP1.out his hr hb hl (HTA.out w1 (HB1.out.mono hB)) (bD hB HZ1.out))
 obtain⟨x0,x1,x2,x3,x4,x5,x6,x7,x8⟩:=HK1.out.cells9
 clear hb1 H0 HK0 HP0 HB0 HID
 unfold EP.v lW at HLY
 go_wp2_with fail
 clear x0 x1 x2 x3 x4 x5 x6 x7 x8
 refine HLY.out.mono ?_
 rintro e w2 (⟨hc,rfl,hb2⟩ | ⟨hc,rfl,l',hca,hwa,hla⟩)
 ·have HB2:=aH (aA HZ1.out HB1.out hb2)
  have HC:=aH hc
  have hci:¬ ((S.gU p.E:Int)=0):=hc
  clear hc hb2 HLY
  go_wp2
  go_ret
  exact .inl ⟨HC.out,rfl,HB2.out⟩
 ·have HCA:=aH hca
  have HWA:=aH ((aO.below HB1.out (Z.foot a)).trans hwa)
  have HLA:Hid (pV w a.l l' id p.E):=aH ⟨hla.1,fun x hx=>(hla.2 x hx).imp (fun h=>h) (fun h k hk=>bD HZ1.out (h k hk))⟩
  have HC:=aH hc
  have HK2:=aH (hwa.blk HK1.out (H1.out.off HK1.out.tag (by decide) (by decide) (by decide)))
  have HP2:Hid (gZ w2 b p):=aH ⟨hwa.row HP1.out.1 (fun k hk=>hsep k (.inl hk)),hwa.row HP1.out.2 (fun k hk=>hsep k (.inr hk))⟩
  have HT2:Hid (iY w2):=aH (HTA.out w2 ((HB1.out.mono hB).trans (dR hwa (fun k hk=>H1.out.under hk) (bD hB HZ1.out))))
  obtain⟨y0,y1,y2⟩:=hca.cells
  clear hc hca hwa hla HLY
  cases hs:a.s with
  | none =>
   rw[hs]at y0
   dsimp only[Option.map]at y0
   have HS:=aH hs
   clear hs
   go_wp2
   go_ret
   refine .inr ⟨HC.out,l',by rw[HIE.out];exact HLA.out,?_⟩
   rw[HS.out]
   have h1:=HCA.out
   have h2:=HWA.out
   rw[HS.out]at h1 h2
   exact⟨rfl,h1,h2⟩
  | some s =>
   rw[hs]at y0
   dsimp only[Option.map]at y0
   have HS:=aH hs
   obtain⟨hf1,hf2⟩:=HF.out s hs
   obtain⟨s2,code,hsp⟩:∃ s2 code,s.put p.E=(s2,code):=⟨_,_,rfl⟩
   rw[hsp]at hf2
   have HF2:=aH hf2
   have HSP:=aH hsp
   have HPU:=aH (fun u (hu:Below w2.heap.size w2 u)=>(by
    have hq:=aL3 B Z.X s p.E m p.A p.c p.X p.d u ((HCA.out.below hu).sto s hs) hf1.fit hm hf1.up hf1.len hf1.sz hf1.cnt hf1.used hf1.no hr hb (by omega) (by omega) (HP2.out.1.rd.below hu) (HP2.out.2.rd.below hu) (HT2.out.below hu)
    rw[hsp]at hq
    exact hq:Calls Tryz.prog 35 #[.pointer (some ⟨Z.X.st,0,none⟩),lW p.E p.A p.c p.X p.d] u (yN B Z.X s u s2 (.int .i64 code))))
   clear hs hf1 hf2 hsp
   go_upto_region 7 with fail
   have hS0:Below w2.heap.size w2 w2.drew:=(zB _ _).drew
   refine wp_region_noPanic ?_
   refine HT.begin (n:=5) (S:=(fun u=>Below w2.heap.size w2 u)) (by kernel_rfl) hS0 ?_
   generalize w2.drew=w3 at *
   refine HT.take 0 (.pointer (some ⟨Z.c,0,none⟩)) rfl (by kernel_rfl) (fun _ _ _ h=>h) (Or.inl ⟨by rfl,?_⟩) ?_
   ·intro u hu
    go_simp
   refine HT.take 1 (.pointer (some ⟨Z.c,0,none⟩)) rfl (by kernel_rfl) (fun _ _ _ h=>h) (Or.inl ⟨by rfl,?_⟩) ?_
   ·intro u hu
    go_simp
   refine HT.take 2 (.pointer (some ⟨Z.c,0,none⟩)) rfl (by kernel_rfl) (fun _ _ _ h=>h) (Or.inl ⟨by rfl,?_⟩) ?_
   ·intro u hu
    go_simp
   refine HT.take 3 (.pointer (some ⟨Z.X.st,0,none⟩)) rfl (by kernel_rfl) (fun _ _ _ h=>h) (Or.inl ⟨by rfl,?_⟩) ?_
   ·intro u hu
    have y0:=(HCA.out.below hu).cells.1
    rw[HS.out]at y0
    dsimp only[Option.map]at y0
    go_simp
   refine HT.take 4 (.agg #[.string p.E.k,.string p.E.v,.int .i64 p.E.s,.string p.E.r,.int .i64 p.E.m,.slice p.A p.E.fs.length p.c,.slice p.X p.E.body.length p.d,.int .i64 p.E.asked,.int .i64 p.E.got]) rfl (by kernel_rfl) (fun _ _ _ h=>h) (Or.inl ⟨by rfl,?_⟩) (?_:HT _ _ _ _ _ _ _ ⟨#[_,_,_,_,_,_,_,_,_,_,_,_,_,_,_,_,_,_,_,_,_,_,_,_,_,.pointer (some ⟨Z.c,0,none⟩),.pointer (some ⟨Z.c,0,none⟩),.pointer (some ⟨Z.c,0,none⟩),.pointer (some ⟨Z.X.st,0,none⟩),.agg #[.string p.E.k,.string p.E.v,.int .i64 p.E.s,.string p.E.r,.int .i64 p.E.m,.slice p.A p.E.fs.length p.c,.slice p.X p.E.body.length p.d,.int .i64 p.E.asked,.int .i64 p.E.got],_,_,_,_,_,_,_],[]⟩ _)
   ·intro u hu
    obtain⟨x0,x1,x2,x3,x4,x5,x6,x7,x8⟩:=(HK2.out.below hu).cells9
    go_simp
   refine HT.tail _ rfl rfl (by kernel_rfl) (fun hS=>?_)
   have HP3:=aH (HPU.out _ hS)
   have HC3:=aH (HCA.out.below hS)
   have HW3:=aH (HWA.out.trans (aO.below hS _))
   clear hS hS0 HPU HCA HWA y0 y1 y2
   unfold lW at HP3
   go_wp2_with fail
   refine HP3.out.mono ?_
   rintro e w4 ⟨rfl,X',hst,hwt,hxs,_,_⟩
   obtain⟨q1,q2⟩:=HC3.out.stored HS.out hst hwt hxs
   have HQ1:=aH q1
   have HQ2:=aH (HW3.out.trans q2)
   have HH:=aH (fun yes=>zW B room { Z with X:=X' } ⟨some s2,l',a.hd⟩ id yes m' w4 q1 (fun x hx=>by cases hx;exact HF2.out) his hd)
   clear q1 q2 hst hwt hxs HP3
   by_cases h0:code=0
   ·have h0i:(code:Int)=0:=h0
    have H00:=aH h0
    clear h0
    go_wp2
    refine NoPanic.normal ?_
    go_wp2_with fail
    refine (HH.out false).mono ?_
    rintro e w5 ⟨rfl,r1,r2⟩
    have R1:=aH r1
    have R2:=aH (HQ2.out.trans r2)
    clear r1 r2 HH
    go_wp2
    go_ret
    refine .inr ⟨HC.out,l',by rw[HIE.out];exact HLA.out,?_⟩
    rw[HS.out,HIE.out]
    dsimp only
    rw[HSP.out]
    refine⟨by rw[H00.out];rfl,X',?_⟩
    rw[show decide (code≠0)=false from decide_eq_false (fun h=>h H00.out)]
    exact⟨R1.out,R2.out⟩
   ·have h0i:¬ (code:Int)=0:=h0
    have H00:=aH h0
    clear h0
    go_wp2
    refine NoPanic.normal ?_
    go_wp2_with fail
    rw[bne_iff_ne.2 H00.out]
    refine (HH.out true).mono ?_
    rintro e w5 ⟨rfl,r1,r2⟩
    have R1:=aH r1
    have R2:=aH (HQ2.out.trans r2)
    clear r1 r2 HH
    go_wp2
    go_ret
    refine .inr ⟨HC.out,l',by rw[HIE.out];exact HLA.out,?_⟩
    rw[HS.out,HIE.out]
    dsimp only
    rw[HSP.out]
    refine⟨rfl,X',?_⟩
    rw[show decide (code≠0)=true from decide_eq_true H00.out]
    exact⟨R1.out,R2.out⟩
end Go.Proofs.YthjeglnkgdpijaaGreatDoor
namespace Go.Proofs.YthjeglnkgdpijaaGreatDoor
namespace S
open D (cont Clm Cl)
section
variable {d:D.Dsk} {p:ByteArray} {u:Nat}
theorem aRM (h:Cl none u d) (hg:D.good p=true) (hc:cont d p=none) (b:List UInt8) (hr:u+b.length≤1073741824) :
  (lay d p b).2=(true,0)∧Cl none (u+b.length) (lay d p b).1∧∀ x,cont (lay d p b).1 x=if x=p then some b else cont d x:=by
 have h0:¬ has d.list p=true:=fun hm=>by
  rw[has_iff,h.calm.mem,hc]at hm
  cases hm
 obtain⟨e1,c1,k1⟩:=h.create hg hc
 obtain⟨e2,c2,k2⟩:=c1.append hg (c:=[]) (by rw[k1,if_pos rfl]) b hr
 obtain⟨e3,c3,k3⟩:=c2.sync hg (c:=[]++b) (by rw[k2,if_pos rfl]) (.inr rfl)
 obtain⟨e4,c4,k4⟩:=c3.syncNames
 unfold lay
 rw[if_neg h0]
 dsimp only
 rw[if_neg (by decide),if_neg (by rw[e1];decide),if_neg (by rw[e2];decide),if_neg (by rw[e3];decide)]
 refine⟨by rw[e4],c4,fun x=>?_⟩
 show cont _ x=_
 rw[k4,k3,k2,k1]
 by_cases hx:x=p
 ·rw[if_pos hx,if_pos hx,List.nil_append]
 ·rw[if_neg hx,if_neg hx,if_neg hx]
theorem aOT (h:Cl none u d) {c:List UInt8} (hc:cont d bT=some c) (count:Nat) (op no:Int) (id:ByteArray) (hr:R.code ⟨count,op,no,id⟩=0) (hu:u+4111≤1073741824) :
  (add d count op no id).2=(count+1,0)∧Cl none (u+4111) (add d count op no id).1∧∀ x,cont (add d count op no id).1 x=if x=bT then some (c++R.enc ⟨count,op,no,id⟩) else cont d x:=by
 have hl:=R.aAB _ hr
 have hi:id.size≤4096:=(R.lD hr).2.2.2.2.2
 dsimp only at hl
 obtain⟨e2,c2,k2⟩:=h.append dZ hc (R.enc ⟨count,op,no,id⟩) (by omega)
 obtain⟨e3,c3,k3⟩:=c2.sync dZ (c:=c++R.enc ⟨count,op,no,id⟩) (by rw[k2,if_pos rfl]) (.inr rfl)
 unfold add
 rw[if_neg (by rw[hr];decide),if_neg (by rw[e2];decide)]
 exact⟨by rw[e3],c3.mono (by omega),fun x=>by rw[k3,k2]⟩
theorem aGM (h:Cl none u d) {c:List UInt8} (_hc:cont d bT=some c) (hn:cont d dE=none) (count:Nat) (list:List R.Rc) (hg:∀ r∈R.jG 0 list,R.code r=0) (hu:u+4111 * list.length≤1073741824) :
  (rewrite d count list).2=(list.length,0)∧Cl none (u+4111 * list.length) (rewrite d count list).1∧∀ x,cont (rewrite d count list).1 x=if x=bT then some (R.encs (R.jG 0 list)) else cont d x:=by
 have hea:=R.qH list 0 [] hg
 rw[List.nil_append]at hea
 have hlen:=(R.aFI _ hg).2
 rw[R.tH]at hlen
 unfold rewrite
 rw[hea,if_neg (by show ¬ (0:Int)≠0;decide)]
 dsimp only
 generalize R.encs (R.jG 0 list)=b at *
 obtain⟨e1,c1,k1⟩:=h.create fZ hn
 obtain⟨e2,c2,k2⟩:=c1.append fZ (c:=[]) (by rw[k1,if_pos rfl]) b (by omega)
 obtain⟨e3,c3,k3⟩:=c2.sync fZ (c:=[]++b) (by rw[k2,if_pos rfl]) (.inr rfl)
 obtain⟨e4,c4,k4⟩:=c3.rename fZ dZ jM (c:=[]++b) (by rw[k3,k2,if_pos rfl])
 obtain⟨e5,c5,k5⟩:=c4.syncNames
 have hs:steps d (moves b)=(((((d.create dE).1.append dE b).1.sync dE).1.rename dE bT).1,4,0):=by
  simp [steps,moves,e1,e2,e3,e4]
 rw[hs]
 dsimp only
 rw[if_pos rfl]
 refine⟨by rw[e5],c5.mono (by omega),fun x=>?_⟩
 rw[k5,k4]
 by_cases hx:x=bT
 ·rw[if_pos hx,if_pos hx,List.nil_append]
 ·rw[if_neg hx,if_neg hx,k3,k2,k1]
  by_cases hx2:x=dE
  ·rw[if_pos hx2,hx2,hn]
  ·rw[if_neg hx2,if_neg hx2,if_neg hx2]
end
theorem marks_at (n:Nat) (t:D.NM) (m:Nat):(marks n t).getD m false=true↔m < n∧∃ p∈t,p.2=m:=by
 unfold marks
 by_cases h:m < n
 ·simp [List.getD,h]
 ·simp [List.getD,h]
theorem kE {n:Nat} {t:D.NM} {l:List Bool} (hl:l.length=n) (h:∀ m,m < n→(l.getD m false=true↔∃ p∈t,p.2=m)):l=marks n t:=by
 apply List.ext_getElem
 ·rw[hl,cZ]
 ·intro m h1 h2
  have h3:=h m (by omega)
  have h4:=marks_at n t m
  have e1:l.getD m false=l[m]:=by simp [List.getD,h1]
  have e2:(marks n t).getD m false=(marks n t)[m]:=by simp [List.getD,h2]
  rw[e1]at h3
  rw[e2]at h4
  rw[Bool.eq_iff_iff,h3,h4]
  exact⟨fun h=>⟨by omega,h⟩,fun h=>h.2⟩
structure bV (n i u:Nat) (s:Sto):Prop where
 cl:Cl none u s.d
 new:cont s.d dE=none
 up:D.Up s.tab
 le:n≤4096
 used:s.used=marks n s.tab
 tab:∀ p∈s.tab,p.2 < n∧p.1.size≤4096∧∃ E,cont s.d (path p.2)=some (gY E)∧gU E=0∧aU E=p.1
 one:∀ p∈s.tab,∀ q∈s.tab,p.2=q.2→p=q
 names:∀ x,(cont s.d x).isSome=true→x=bT∨∃ p∈s.tab,x=path p.2
 log:∃ rs,cont s.d bT=some (R.encs rs)∧R.Good rs∧rs.length=s.count∧aIQ rs=s.tab
 len:s.tab.length≤i
 count:s.count≤i
theorem kZ {E:O.Ent} (h:gU E=0):O.dec (gY E)=some E:=by
 rcases O.nK E.k E.v E.s E.r E.m E.fs E.body E.asked E.got with ⟨_,h2⟩ | ⟨h2,_⟩
 ·exact h2
 ·exact absurd h2 (by unfold gU at h;omega)
theorem aNF {E:O.Ent} (h:gU E=0):(gY E).length≤100000:=by
 have:=kZ h
 obtain⟨h1,h2,_⟩:=O.gB this
 exact (O.nX h1 h2).len.2
section
variable {n i u:Nat} {s:Sto}
theorem bV.no4 (h:bV n i u s) {p:ByteArray × Nat} (hp:p∈s.tab):p.2 < 4096:=Nat.lt_of_lt_of_le (h.tab p hp).1 h.le
theorem bV.mono {j v:Nat} (h:bV n i u s) (hj:i≤j) (hv:u≤v):bV n j v s :=
 ⟨h.cl.mono hv,h.new,h.up,h.le,h.used,h.tab,h.one,h.names,h.log,bD h.len hj,bD h.count hj⟩
theorem bV.get (h:bV n i u s) (id:ByteArray):s.get id=match D.find s.tab id with | none=>none | some no=>(cont s.d (path no)).bind O.dec:=by
 unfold Sto.get
 cases hf:D.find s.tab id with
 | none=>rfl
 | some no =>
  dsimp only
  unfold read
  rw[h.cl.calm.read (fA (h.no4 (D.aI hf)))]
  cases cont s.d (path no)<;>rfl
theorem bV.same {j v:Nat} {s':Sto} (h:bV n i u s) (h':bV n j v s') (ht:s'.tab=s.tab) (hk:∀ x,x≠bT→cont s'.d x=cont s.d x) (id:ByteArray):s'.get id=s.get id:=by
 rw[h.get,h'.get,ht]
 cases hf:D.find s.tab id with
 | none=>rfl
 | some no =>
  dsimp only
  rw[hk _ (aY (h.no4 (D.aI hf)))]
theorem bV.tidy (h:bV n i u s) (hi:i≤100) (hu:u≤1000000000):bV n i (u+411100) s.tidy∧s.tidy.tab=s.tab∧∀ id,s.tidy.get id=s.get id:=by
 have hlen:=h.len
 by_cases hc:s.count≤2 * s.tab.length+16
 ·have e:s.tidy=s:=if_pos hc
  rw[e]
  exact⟨h.mono (zA _) (by omega),rfl,fun _=>rfl⟩
 have e:s.tidy=s.rewrite.1:=if_neg hc
 obtain⟨rs,l1,l2,l3,l4⟩:=h.log
 have hrl:(records s.tab).length=s.tab.length:=by unfold records;rw[List.length_map]
 have hg:=aBH (t:=s.tab) (fun p hp=>⟨h.no4 hp,(h.tab p hp).2.1⟩) (by omega)
 obtain⟨r1,r2,r3⟩:=aGM h.cl l1 h.new s.count (records s.tab) hg.code (by rw[hrl];omega)
 rw[hrl]at r1 r2
 have hK:bV n i (u+411100) s.rewrite.1:=by
  refine⟨r2.mono (by omega),?_,h.up,h.le,h.used,fun p hp=>?_,h.one,fun x hx=>?_,⟨R.jG 0 (records s.tab),?_,hg,?_,aC5 h.up⟩,h.len,?_⟩
  ·show cont (S.rewrite _ _ _).1 _=_
   rw[r3,if_neg jM,h.new]
  ·obtain⟨t1,t2,E,t3,t4⟩:=h.tab p hp
   refine⟨t1,t2,E,?_,t4⟩
   show cont (S.rewrite _ _ _).1 _=_
   rw[r3,if_neg (aY (h.no4 hp)),t3]
  ·change (cont (S.rewrite _ _ _).1 x).isSome=true at hx
   rw[r3]at hx
   by_cases hxl:x=bT
   ·exact .inl hxl
   ·rw[if_neg hxl]at hx
    exact h.names x hx
  ·show cont (S.rewrite _ _ _).1 _=_
   rw[r3,if_pos rfl]
  ·show _=(S.rewrite s.d s.count (records s.tab)).2.1
   rw[R.tH,hrl,r1]
  ·show (S.rewrite s.d s.count (records s.tab)).2.1≤i
   rw[r1]
   exact hlen
 rw[e]
 refine⟨hK,rfl,h.same hK rfl fun x hx=>?_⟩
 show cont (S.rewrite _ _ _).1 _=_
 rw[r3,if_neg hx]
theorem bV.free_no (h:bV n i u s) {no:Nat} (hno:no < n) (hf:∀ p∈s.tab,p.2≠no):cont s.d (path no)=none:=by
 cases hc:cont s.d (path no) with
 | none=>rfl
 | some c =>
  have hn4:no < 4096:=Nat.lt_of_lt_of_le hno h.le
  rcases h.names (path no) (by rw[hc];rfl) with e | ⟨p,hp,e⟩
  ·exact absurd e (aY hn4)
  ·exact absurd (cO hn4 (h.no4 hp) e).symm (hf p hp)
theorem bV.enter0 (h:bV n i u s) (hi:i+1≤100) (hu:u+110000≤1000000000) {E:O.Ent} (hE:gU E=0) (hid:(aU E).size≤4096) {no:Nat} (hno:no < n) (hf:∀ p∈s.tab,p.2≠no) :
  ∃ d1 d2 us,(lay s.d (path no) (gY E)).2=(true,0)∧add (lay s.d (path no) (gY E)).1 s.count 1 no (aU E)=(d1,s.count+1,0)∧Cl none (u+105000) d1 ∧
   (∀ x,x≠bT→x≠path no→cont d1 x=cont s.d x)∧cont d1 (path no)=some (gY E) ∧
   ((({ s with d:=d1,count:=s.count+1 }:Sto).freed (aU E)).took no (aU E))=⟨d2,s.count+1,D.put s.tab (aU E) no,us⟩ ∧
   bV n (i+1) (u+110000) ⟨d2,s.count+1,D.put s.tab (aU E) no,us⟩∧(∀ x,(∀ old,D.find s.tab (aU E)=some old→x≠path old)→cont d2 x=cont d1 x) ∧
   ∀ id,(⟨d2,s.count+1,D.put s.tab (aU E) no,us⟩:Sto).get id=if id=aU E then some E else s.get id:=by
 have hn4:no < 4096:=Nat.lt_of_lt_of_le hno h.le
 have hbl:=aNF hE
 obtain⟨rs,g1,g2,g3,g4⟩:=h.log
 obtain⟨l1,l2,l3⟩:=aRM h.cl (fA hn4) (h.free_no hno hf) (gY E) (by omega)
 have hcode:R.code ⟨s.count,1,no,aU E⟩=0:=R.aAK (.inl rfl) (by have:=h.count;omega) (by omega) hid
 obtain⟨a1,a2,a3⟩:=aOT l2 (c:=R.encs rs) (by rw[l3,if_neg (fun e=>aY hn4 e.symm),g1]) s.count 1 no (aU E) hcode (by omega)
 obtain⟨d1,hd1⟩:∃ d1,(add (lay s.d (path no) (gY E)).1 s.count 1 no (aU E)).1=d1:=⟨_,rfl⟩
 rw[hd1]at a2 a3
 have k1:∀ x,x≠bT→x≠path no→cont d1 x=cont s.d x:=fun x h1 h2=>by rw[a3,if_neg h1,l3,if_neg h2]
 have k2:cont d1 (path no)=some (gY E):=by rw[a3,if_neg (aY hn4),l3,if_pos rfl]
 have k3:cont d1 bT=some (R.encs (rs++[⟨s.count,1,no,aU E⟩])):=by
  rw[a3,if_pos rfl]
  unfold R.encs
  simp
 -- behind the freeing of the old number
 have key:∃ d2 us,(({ s with d:=d1,count:=s.count+1 }:Sto).freed (aU E))={ s with d:=d2,count:=s.count+1,used:=us }∧Cl none (u+110000) d2∧us.length=n ∧
   (∀ m,m < n→(us.getD m false=true↔∃ p∈s.tab,p.1≠aU E∧p.2=m))∧(∀ x,(∀ old,D.find s.tab (aU E)=some old→x≠path old)→cont d2 x=cont d1 x)∧∀ old,D.find s.tab (aU E)=some old→cont d2 (path old)=none:=by
  unfold Sto.freed
  dsimp only
  have hul:s.used.length=n:=by rw[h.used,cZ]
  cases hold:D.find s.tab (aU E) with
  | none =>
   refine⟨d1,s.used,rfl,a2.mono (by omega),hul,fun m hm=>?_,fun _ _=>rfl,(fun _ e=>by cases e)⟩
   rw[h.used,marks_at]
   constructor
   ·rintro⟨_,p,hp,e⟩
    exact⟨p,hp,D.kG hold p hp,e⟩
   ·rintro⟨p,hp,_,e⟩
    exact⟨hm,p,hp,e⟩
  | some old =>
   have hmem:=D.aI hold
   have ho4:=h.no4 hmem
   have hon:old≠no:=hf _ hmem
   obtain⟨t1,t2,E2,t3,t4⟩:=h.tab _ hmem
   obtain⟨_,m2,m3⟩:=a2.remove (fA ho4) (c:=gY E2) (by rw[k1 _ (aY ho4) (fun e=>hon (cO ho4 hn4 e))];exact t3)
   refine⟨(d1.remove (path old)).1,s.used.set old false,rfl,m2.mono (by omega),by rw[List.length_set,hul],fun m hm=>?_,fun x hx=>by rw[m3,if_neg (hx old rfl)],fun o ho=>?_⟩
   ·rw[fB]
    by_cases hmo:old=m
    ·rw[if_pos ⟨hmo,by rw[hul];exact t1⟩]
     constructor
     ·intro h9;cases h9
     ·rintro⟨p,hp,h1,h2⟩
      exact absurd (congrArg Prod.fst (h.one p hp _ hmem (by show p.2=old;omega))) h1
    ·rw[if_neg (fun h9=>hmo h9.1),h.used,marks_at]
     constructor
     ·rintro⟨_,p,hp,e⟩
      refine⟨p,hp,fun e2=>?_,e⟩
      have:=D.dM h.up hp
      rw[e2,hold]at this
      exact hmo ((Option.some.inj this).trans e)
     ·rintro⟨p,hp,_,e⟩
      exact⟨hm,p,hp,e⟩
   ·have:old=o:=Option.some.inj ho
    rw[m3,if_pos (by rw[this])]
 obtain⟨d2,us,e2,c2,ul,um,kx,ko⟩:=key
 have hold_no:∀ old,D.find s.tab (aU E)=some old→path no≠path old:=fun old ho e=>hf _ (D.aI ho) (cO hn4 (h.no4 (D.aI ho)) e).symm
 have hold_log:∀ old,D.find s.tab (aU E)=some old→bT≠path old:=fun old ho e=>aY (h.no4 (D.aI ho)) e.symm
 have kp:∀ p∈s.tab,p.1≠aU E→cont d2 (path p.2)=cont s.d (path p.2):=fun p hp hne=>by
  rw[kx _ (fun old ho e=>hne (congrArg Prod.fst (h.one p hp _ (D.aI ho) (cO (h.no4 hp) (h.no4 (D.aI ho)) e)))),k1 _ (aY (h.no4 hp)) (fun e=>hf p hp (cO (h.no4 hp) hn4 e))]
 have kn:cont d2 (path no)=some (gY E):=by rw[kx _ hold_no,k2]
 have hK:bV n (i+1) (u+110000) (⟨d2,s.count+1,D.put s.tab (aU E) no,us.set no true⟩:Sto):=by
  refine⟨c2,?_,D.qA h.up _ _,h.le,?_,fun p hp=>?_,D.lU h.one hf,fun x hx=>?_,⟨rs++[⟨s.count,1,no,aU E⟩],?_,⟨fun r hr=>?_,R.sW g2.seq (by show (s.count:Int)=_;rw[← g3,Nat.zero_add])⟩,by rw[bC,List.length_singleton,g3],?_⟩,?_,?_⟩
  ·show cont d2 dE=none
   rw[kx _ (fun old ho e=>kR (h.no4 (D.aI ho)) e.symm),k1 _ jM (fun e=>kR hn4 e.symm),h.new]
  ·refine kE (by rw[List.length_set,ul]) fun m hm=>?_
   rw[fB]
   by_cases hmn:no=m
   ·rw[if_pos ⟨hmn,by rw[ul];exact hno⟩]
    exact⟨fun _=>⟨(aU E,no),D.aX.2 (.inl rfl),hmn⟩,fun _=>rfl⟩
   ·rw[if_neg (fun h9=>hmn h9.1),um m hm]
    constructor
    ·rintro⟨p,hp,h1,h2⟩
     exact⟨p,D.aX.2 (.inr ⟨hp,h1⟩),h2⟩
    ·rintro⟨p,hp,h2⟩
     rcases D.aX.1 hp with rfl | ⟨hp,h1⟩
     ·exact absurd h2 hmn
     ·exact⟨p,hp,h1,h2⟩
  ·rcases D.aX.1 hp with rfl | ⟨hp,h1⟩
   ·exact⟨hno,hid,E,kn,hE,rfl⟩
   ·obtain⟨t1,t2,E2,t3,t4⟩:=h.tab p hp
    exact⟨t1,t2,E2,(kp p hp h1).trans t3,t4⟩
  ·change (cont d2 x).isSome=true at hx
   by_cases hxl:x=bT
   ·exact .inl hxl
   by_cases hxn:x=path no
   ·exact .inr ⟨(aU E,no),D.aX.2 (.inl rfl),hxn⟩
   by_cases hxo:∃ old,D.find s.tab (aU E)=some old∧x=path old
   ·obtain⟨old,ho,rfl⟩:=hxo
    rw[ko old ho]at hx
    cases hx
   ·rw[kx x (fun old ho e=>hxo ⟨old,ho,e⟩),k1 x hxl hxn]at hx
    rcases h.names x hx with e | ⟨p,hp,e⟩
    ·exact .inl e
    ·refine .inr ⟨p,D.aX.2 (.inr ⟨hp,fun e3=>hxo ⟨p.2,?_,e⟩⟩),e⟩
     rw[← e3]
     exact D.dM h.up hp
  ·show cont d2 bT=_
   rw[kx _ hold_log,k3]
  ·rcases List.mem_append.1 hr with hr | hr
   ·exact g2.code r hr
   ·rw[List.mem_singleton.1 hr]
    exact hcode
  ·rw[wZ,g4]
   unfold aC3
   rw[if_pos rfl]
   show D.put s.tab (aU E) ((no:Int)).toNat=_
   rw[Int.toNat_natCast]
  ·have:=D.eH s.tab (aU E) no
   have:=h.len
   show (D.put s.tab (aU E) no).length≤_
   omega
  ·have:=h.count
   show s.count+1≤_
   omega
 refine⟨d1,d2,us.set no true,l1,by rw[← hd1,← a1],a2.mono (by omega),k1,k2,by rw[e2];rfl,hK,kx,fun id=>?_⟩
 rw[hK.get,h.get]
 show (match D.find (D.put s.tab (aU E) no) id with | none=>none | some no=>(cont d2 (path no)).bind O.dec)=_
 rw[D.dN]
 by_cases hx:id=aU E
 ·rw[if_pos hx,if_pos hx]
  dsimp only
  rw[kn]
  exact kZ hE
 ·rw[if_neg hx,if_neg hx]
  cases hfi:D.find s.tab id with
  | none=>rfl
  | some m =>
   dsimp only
   rw[kp _ (D.aI hfi) hx]
theorem bV.enter (h:bV n i u s) (hi:i+1≤100) (hu:u+110000≤1000000000) {E:O.Ent} (hE:gU E=0) (hid:(aU E).size≤4096) {no:Nat} (hno:no < n) (hf:∀ p∈s.tab,p.2≠no) :
  (s.entered no (aU E) (lay s.d (path no) (gY E))).2=0∧bV n (i+1) (u+521100) (s.entered no (aU E) (lay s.d (path no) (gY E))).1 ∧
  ∀ id,(s.entered no (aU E) (lay s.d (path no) (gY E))).1.get id=if id=aU E then some E else s.get id:=by
 obtain⟨d1,d2,us,l1,a1,_,_,_,e2,hK,_,hG⟩:=h.enter0 hi hu hE hid hno hf
 unfold Sto.entered
 rw[l1]
 dsimp only
 rw[if_pos rfl,a1]
 dsimp only
 rw[if_neg (by omega),e2]
 obtain⟨t1,t2,t3⟩:=hK.tidy hi hu
 exact⟨rfl,t1.mono (zA _) (by omega),fun id=>(t3 id).trans (hG id)⟩
theorem bV.put (h:bV n i u s) (hi:i+1≤100) (hu:u+110000≤1000000000) (E:O.Ent) :
  ((s.put E).2≠0∧(s.put E).1=s)∨((s.put E).2=0∧gU E=0∧bV n (i+1) (u+521100) (s.put E).1∧∀ id,(s.put E).1.get id=if id=aU E then some E else s.get id):=by
 unfold Sto.put
 by_cases h0:gU E≠0
 ·rw[if_pos h0]
  exact .inl ⟨h0,rfl⟩
 rw[if_neg h0]
 by_cases h1:4096 < (aU E).size
 ·rw[if_pos h1]
  exact .inl ⟨by show (101:Int)≠0;decide,rfl⟩
 rw[if_neg h1]
 cases hf:s.used.findIdx? (fun x=>decide (x=false)) with
 | none=>exact .inl ⟨by show (130:Int)≠0;decide,rfl⟩
 | some no =>
  dsimp only
  rw[List.findIdx?_eq_some_iff_getElem]at hf
  obtain⟨hnl,hnf,_⟩:=hf
  have hul:s.used.length=n:=by rw[h.used,cZ]
  have hnv:s.used.getD no false=false:=by
   simp [List.getD,hnl]at hnf ⊢
   exact hnf
  obtain⟨e1,e2,e3⟩:=h.enter hi hu (E:=E) (by omega) (by omega) (no:=no) (by omega) (fun p hp e=>by
   have:=(marks_at n s.tab no).2 ⟨by omega,p,hp,e⟩
   rw[← h.used,hnv]at this
   cases this)
  exact .inr ⟨e1,by omega,e2,e3⟩
theorem bV.drop0 (h:bV n i u s) (hi:i+1≤100) (hu:u+110000≤1000000000) {id:ByteArray} {no:Nat} (hf:D.find s.tab id=some no) :
  ∃ d1,add s.d s.count 2 no id=(d1,s.count+1,0)∧Cl none (u+4111) d1∧(cont d1 (path no)).isSome=true∧(∀ x,x≠bT→cont d1 x=cont s.d x)∧(∀ x,cont (d1.remove (path no)).1 x=if x=path no then none else cont d1 x) ∧
   bV n (i+1) (u+110000) ⟨(d1.remove (path no)).1,s.count+1,D.del s.tab id,s.used.set no false⟩∧∀ x,(⟨(d1.remove (path no)).1,s.count+1,D.del s.tab id,s.used.set no false⟩:Sto).get x=if x=id then none else s.get x:=by
 have hmem:=D.aI hf
 have hn4:=h.no4 hmem
 obtain⟨rs,g1,g2,g3,g4⟩:=h.log
 have hcode:R.code ⟨s.count,2,no,id⟩=0:=R.aAK (.inr rfl) (by have:=h.count;omega) (by omega) (h.tab _ hmem).2.1
 obtain⟨a1,a2,a3⟩:=aOT h.cl (c:=R.encs rs) g1 s.count 2 no id hcode (by omega)
 obtain⟨d1,hd1⟩:∃ d1,(add s.d s.count 2 no id).1=d1:=⟨_,rfl⟩
 rw[hd1]at a2 a3
 refine⟨d1,by rw[← hd1,← a1],a2,?_⟩
 obtain⟨t1,t2,E2,t3,t4⟩:=h.tab _ hmem
 have k1:∀ x,x≠bT→cont d1 x=cont s.d x:=fun x h1=>by rw[a3,if_neg h1]
 have k3:cont d1 bT=some (R.encs (rs++[⟨s.count,2,no,id⟩])):=by
  rw[a3,if_pos rfl]
  unfold R.encs
  simp
 obtain⟨_,m2,m3⟩:=a2.remove (fA hn4) (c:=gY E2) (by rw[k1 _ (aY hn4)];exact t3)
 refine⟨by rw[k1 _ (aY hn4),show cont s.d (path no)=some (gY E2) from t3];rfl,k1,m3,?_⟩
 generalize (d1.remove (path no)).1=d2 at m2 m3 ⊢
 have hul:s.used.length=n:=by rw[h.used,cZ]
 have kp:∀ p∈s.tab,p.1≠id→cont d2 (path p.2)=cont s.d (path p.2):=fun p hp hne=>by
  rw[m3,if_neg (fun e=>hne (congrArg Prod.fst (h.one p hp _ hmem (cO (h.no4 hp) hn4 e)))),k1 _ (aY (h.no4 hp))]
 have hK:bV n (i+1) (u+110000) (⟨d2,s.count+1,D.del s.tab id,s.used.set no false⟩:Sto):=by
  refine⟨m2.mono (by omega),?_,D.qB h.up _,h.le,?_,fun p hp=>?_,D.oN h.one,fun x hx=>?_,⟨rs++[⟨s.count,2,no,id⟩],?_,⟨fun r hr=>?_,R.sW g2.seq (by show (s.count:Int)=_;rw[← g3,Nat.zero_add])⟩,by rw[bC,List.length_singleton,g3],?_⟩,?_,?_⟩
  ·show cont d2 dE=none
   rw[m3,if_neg (fun e=>kR hn4 e.symm),k1 _ jM,h.new]
  ·refine kE (by rw[List.length_set,hul]) fun m hm=>?_
   rw[fB]
   by_cases hmn:no=m
   ·rw[if_pos ⟨hmn,by rw[hul];exact t1⟩]
    constructor
    ·intro h9;cases h9
    ·rintro⟨p,hp,h2⟩
     exact absurd (congrArg Prod.fst (h.one p (D.aW.1 hp).1 _ hmem (by show p.2=no;omega))) (D.aW.1 hp).2
   ·rw[if_neg (fun h9=>hmn h9.1),h.used,marks_at]
    constructor
    ·rintro⟨_,p,hp,e⟩
     refine⟨p,D.aW.2 ⟨hp,fun e2=>?_⟩,e⟩
     have:=D.dM h.up hp
     rw[e2,hf]at this
     exact hmn ((Option.some.inj this).trans e)
    ·rintro⟨p,hp,e⟩
     exact⟨hm,p,(D.aW.1 hp).1,e⟩
  ·obtain⟨hp,h1⟩:=D.aW.1 hp
   obtain⟨t1,t2,E2,t3,t4⟩:=h.tab p hp
   exact⟨t1,t2,E2,(kp p hp h1).trans t3,t4⟩
  ·change (cont d2 x).isSome=true at hx
   rw[m3]at hx
   by_cases hxn:x=path no
   ·rw[if_pos hxn]at hx
    cases hx
   rw[if_neg hxn]at hx
   by_cases hxl:x=bT
   ·exact .inl hxl
   rw[k1 x hxl]at hx
   rcases h.names x hx with e | ⟨p,hp,e⟩
   ·exact .inl e
   ·refine .inr ⟨p,D.aW.2 ⟨hp,fun e3=>hxn ?_⟩,e⟩
    have:=D.dM h.up hp
    rw[e3,hf]at this
    rw[e,Option.some.inj this]
  ·show cont d2 bT=_
   rw[m3,if_neg (fun e=>aY hn4 e.symm),k3]
  ·rcases List.mem_append.1 hr with hr | hr
   ·exact g2.code r hr
   ·rw[List.mem_singleton.1 hr]
    exact hcode
  ·rw[wZ,g4]
   rfl
  ·have:=D.fG s.tab id
   have:=h.len
   show (D.del s.tab id).length≤_
   omega
  ·have:=h.count
   show s.count+1≤_
   omega
 refine⟨hK,fun x=>?_⟩
 rw[hK.get,h.get]
 show (match D.find (D.del s.tab id) x with | none=>none | some no=>(cont d2 (path no)).bind O.dec)=_
 rw[D.fO]
 by_cases hx:x=id
 ·rw[if_pos hx,if_pos hx]
 ·rw[if_neg hx,if_neg hx]
  cases hfi:D.find s.tab x with
  | none=>rfl
  | some m =>
   dsimp only
   rw[kp _ (D.aI hfi) hx]
theorem bV.drop (h:bV n i u s) (hi:i+1≤100) (hu:u+110000≤1000000000) {id:ByteArray} {no:Nat} (hf:D.find s.tab id=some no) :
  (s.drop id).2=0∧bV n (i+1) (u+521100) (s.drop id).1∧∀ x,(s.drop id).1.get x=if x=id then none else s.get x:=by
 obtain⟨d1,a1,_,_,_,_,hK,hG⟩:=h.drop0 hi hu hf
 unfold Sto.drop
 rw[hf]
 dsimp only
 rw[a1]
 dsimp only
 rw[if_neg (by omega)]
 obtain⟨q1,q2,q3⟩:=hK.tidy hi hu
 exact⟨rfl,q1.mono (zA _) (by omega),fun x=>(q3 x).trans (hG x)⟩
theorem bV.get_some (h:bV n i u s) (id:ByteArray):(s.get id).isSome=(D.find s.tab id).isSome:=by
 rw[h.get]
 cases hf:D.find s.tab id with
 | none=>rfl
 | some no =>
  dsimp only
  obtain⟨_,_,E,t3,t4,_⟩:=h.tab _ (D.aI hf)
  rw[show cont s.d (path no)=some (gY E) from t3]
  show (O.dec (gY E)).isSome=true
  rw[kZ t4]
  rfl
end
theorem bV.start {n:Nat} (hn:n≤4096):bV n 0 0 ⟨born 1073741824,0,[],marks n []⟩:=by
 have h:Cl none 0 (fresh 1073741824):=⟨oW (by decide),(fun _ h=>by cases h),zA _,rfl⟩
 have hc:∀ x,cont (fresh 1073741824) x=none:=fun _=>rfl
 obtain⟨e1,c1,k1⟩:=h.create dZ (hc _)
 obtain⟨e2,c2,k2⟩:=c1.sync dZ (c:=[]) (by rw[k1,if_pos rfl]) (.inl rfl)
 obtain⟨e3,c3,k3⟩:=c2.syncNames
 have k:∀ x,cont (born 1073741824) x=if x=bT then some [] else none:=fun x=>by
  unfold born
  rw[k3,k2,k1,hc]
 refine⟨c3,by rw[k,if_neg jM],List.Pairwise.nil,hn,rfl,(fun _ h=>by cases h),(fun _ h=>by cases h),fun x hx=>?_,⟨[],by rw[k,if_pos rfl];rfl,⟨(fun _ h=>by cases h),trivial⟩,rfl,rfl⟩,zA _,zA _⟩
 rw[k]at hx
 by_cases hxl:x=bT
 ·exact .inl hxl
 ·rw[if_neg hxl]at hx
  cases hx
end S
open Go Go.RowKit
theorem aHU (vs:List ByteArray) (k:Nat) (h:k < vs.length):(vs.take (k+1)).flatMap F.list=(vs.take k).flatMap F.list++F.list (vs[k]'h):=by
 rw[bI h,List.flatMap_append]
 simp
theorem aAD (vs:List ByteArray) (k:Nat):((vs.take k).flatMap F.list).length≤(vs.flatMap F.list).length:=by
 conv=>rhs;rw[← List.take_append_drop k vs,List.flatMap_append,bC]
 omega
theorem aM1 (names:List ByteArray) (ask:List FD) (k:Nat) (h:k < names.length):V.key (names.take (k+1)) ask=V.key (names.take k) ask++V.line ask (names[k]'h):=by
 unfold V.key
 rw[bI h,List.flatMap_append]
 simp
theorem aD2 (names:List ByteArray) (ask:List FD) (k:Nat):(V.key (names.take k) ask).length≤(V.key names ask).length:=by
 unfold V.key
 conv=>rhs;rw[← List.take_append_drop k names,List.flatMap_append,bC]
 omega
theorem aP3 (X Y:Option Addr) (nn cn ny cy:Nat) (names:List ByteArray) (ask:List FD) (w:World) (hx:Rd w X nn 1 (aF names)) (hy:Rd w Y ny 2 (aJ ask)) (hnn:nn≤1099511627776) (hny:ny≤1099511627776) (hly:ask.length=ny) (hf:qQ ask)
  (hns:∀ x∈names,x.size≤1099511627776) (hel:∀ x∈names,(V.elems ask x).length≤1099511627776) (hkl:(V.key names ask).length≤70368744177664) :
  Calls Tryz.prog 40 #[.slice X nn cn,.slice Y ny cy] w (aEM w (B (V.key names ask))):=by
 have hlx:names.length=nn:=by
  have:=hx.1
  unfold aF at this
  rw[List.length_map]at this
  omega
 have HX:=aH hx
 have HY:=aH hy
 have HLX:=aH hlx
 have HNS:=aH hns
 have HEL:=aH hel
 have HKL:=aH hkl
 have HF:=aH hf
 have HLY:=aH hly
 clear hx hy hlx hns hel hkl hf hly
 have h0:Bld w w.heap.size [] (w.alloc (.cells #[.pointer none,.slice none 0 0] 140)) :=
  ⟨.inl ⟨zA _,_,heap_alloc_new w _,World.ownsRow_nil _ _ _ _,by simp [Value.ownBlock]⟩,(zB _ _).alloc (zA _) _,by simp⟩
 have H0:=aH h0
 clear h0
 go_enter Tryz.func40,Tryz.ntmps40
 go_wp2
 go_loopw [7,8,9,11,14,26] (fun _ _ _ _ i _ wr=>∃ k:Nat,k≤nn∧i=.int .i64 k∧Bld w w.heap.size (V.key (names.take k) ask) wr) (fun _ _ _ _ i _ _=>nn - (intOf i).toNat)
 case atStart=>exact⟨0,zF _,rfl,H0.out⟩
 case round =>
  obtain⟨k,hk,rfl,hbl⟩:=hrel
  have HBL:=aH hbl
  clear hbl
  obtain⟨wo,rfl⟩:∃ wo:World,wo=wr:=⟨_,rfl⟩
  by_cases hlt:k < nn
  ·have hkl:k < names.length:=by rw[HLX.out];exact hlt
   obtain⟨b,o,rfl,hb,c1⟩:=(HX.out.below HBL.out.2.1).str hlt HLX.out
   have hxm:=List.getElem_mem hkl
   have HKS:=aH (aM1 names ask k hkl)
   have HKT:=aH (aD2 names ask (k+1))
   have hs:=HNS.out _ hxm
   have HE:=aH (HEL.out _ hxm)
   obtain⟨x,hxk⟩:∃ x,names[k]'hkl=x:=⟨_,rfl⟩
   rw[hxk]at c1 hs HE HKS
   clear hxm hxk hb
   have HSX:=aH hs
   have HFO:=aH (rX x wo hs)
   go_wp2_with fail
   refine HFO.out.mono ?_
   rintro e w1 ⟨rfl,hb1⟩
   have HB1:=aH (HBL.out.below hb1)
   clear hb1 HFO c1
   obtain⟨kp,hkp⟩:∃ kp,V.key (names.take k) ask=kp:=⟨_,rfl⟩
   obtain⟨fo,hfo⟩:∃ fo,T.fold (L x)=fo:=⟨_,rfl⟩
   obtain⟨vs,hvs⟩:∃ vs,F.values ask x=vs:=⟨_,rfl⟩
   obtain⟨es,hes⟩:∃ es,vs.flatMap F.list=es:=⟨_,rfl⟩
   obtain⟨tl,htl⟩:∃ tl:List UInt8,(if vs=[] then [] else 58::Lib.join (es.map L) [44])=tl:=⟨_,rfl⟩
   have hli:V.line ask x=fo++(tl++[10]):=by
    unfold V.line V.elems
    rw[hfo,hvs,hes,htl]
   have hle:es.length≤1099511627776:=by
    have:=HE.out
    unfold V.elems at this
    rwa [hvs,hes]at this
   have hsum:kp.length+(fo.length+(tl.length+1))≤70368744177664:=by
    have h1:=HKT.out
    have h2:=HKL.out
    rw[HKS.out,hkp,hli,bC,bC,bC]at h1
    simp only[List.length_singleton]at h1
    omega
   rw[hkp,hli]at HKS
   rw[hkp]at HB1
   rw[hfo]
   have HTL:=aH htl
   have HES:=aH hes
   have HLE:=aH hle
   have HSUM:=aH hsum
   have HVS:=aH (pY (name:=x) HF.out)
   have HVA:=aH (fun u (hu:Bld w w.heap.size (kp++L (B fo)) u)=>wS Y ny cy ask x u hny HLY.out HF.out HSX.out (HY.out.below hu.2.1))
   have HVL:=aH (F.aAR ask x)
   rw[hvs]at HVS HVA HVL
   have HW1:=aH (HB1.out.str (B fo) (by rw[aS,L_B];omega))
   clear hkp hfo hvs hes htl hli hle hsum HKT HE HB1 hs HBL
   go_wp2_with fail
   refine HW1.out.mono ?_
   rintro e w2 ⟨rfl,hb2⟩
   have HB2:=aH hb2
   clear hb2 HW1
   go_wp2_with fail
   refine (HVA.out w2 HB2.out).mono ?_
   rintro e w3 ⟨E,ce,rfl,hE,hb3⟩
   have HB3:=aH (HB2.out.below hb3)
   have HRE:=aH hE.rd
   obtain⟨nv,hnv⟩:∃ nv,vs.length=nv:=⟨_,rfl⟩
   rw[hnv]at HRE HVL ⊢
   have HNV:=aH hnv
   have hnv2:nv≤1099511627776:=by
    have:=HVL.out
    have:=HLY.out
    omega
   clear hE hb3 HB2 HVA hnv
   go_wp2_with fail
   go_loopw [8,11,26] (fun o _ i wi=>∃ (j m:Nat) (A:Option Addr) (c:Nat),j≤nv∧i=.int .i64 j∧o=.slice A m c∧m=((vs.take j).flatMap F.list).length∧Row wi w3.heap.size 9 1 A m c (aF ((vs.take j).flatMap F.list))∧Below w3.heap.size w3 wi) (fun _ _ i _=>nv - (intOf i).toNat)
   case atStart=>exact⟨0,0,none,0,zF _,rfl,rfl,rfl,Row.none_ _ _ _ _,zB _ _⟩
   case round =>
    obtain⟨j,m,A,c,hj,rfl,rfl,hm,hrow,hbe⟩:=hrel
    have HM:=aH hm
    have HROW:=aH hrow
    have HBE:=aH hbe
    clear hm hrow hbe
    by_cases hlt2:j < nv
    ·have hjl:j < vs.length:=by rw[HNV.out];exact hlt2
     obtain⟨b2,o2,rfl,hbb2,c2⟩:=(HRE.out.below HBE.out).str hlt2 HNV.out
     have hsv:=HVS.out _ (List.getElem_mem hjl)
     have hsn:=aHU vs j hjl
     have hel:=aAD vs (j+1)
     obtain⟨y,hyv⟩:∃ y,vs[j]'hjl=y:=⟨_,rfl⟩
     rw[hyv]at c2 hsv hsn
     rw[hsn,bC,HES.out]at hel
     have hml:m+(F.list y).length≤4398046511104:=by
      have:=HLE.out
      have:=HM.out
      omega
     have HSN:=aH hsn
     have HLI:=aH (fun u=>aFH y u hsv)
     clear hsn hel hyv hsv hbb2
     go_wp2_with fail
     refine (HLI.out _).mono ?_
     rintro e w4 ⟨G,cg,rfl,hG,hb4⟩
     have HG:=aH hG.rd
     have HR4:=aH (HROW.out.below hb4)
     have HB4:=aH (aA HBE.out.size HBE.out hb4)
     have HZ4:Hid (w3.heap.size≤w4.heap.size):=aH HB4.out.size
     clear hG hb4 HLI HROW HBE c2
     go_wp2_with (at_builtin;refine aLK _ rfl (.tmp 30) (.tmp 32) rfl w3.heap.size A m c _ rfl HR4.out _ _ _ _ rfl HG.out hml HZ4.out ?_;intro A5 c5 w5 hr5 ha5;rw[← HSN.out]at hr5;have HR5:=aH hr5;have HB5:=aH (HB4.out.trans (ha5.below HR4.out HZ4.out));clear hr5 ha5)
     go_roundw
     case rel=>exact⟨j+1,m+(F.list y).length,A5,c5,by omega,by go_num,rfl,by rw[HSN.out,bC,HM.out],HR5.out,HB5.out⟩
     case measure=>simp [intOf];omega
    ·have hjn:j=nv:=by omega
     have ht:vs.take j=vs:=List.take_of_length_le (by have:=HNV.out;omega)
     rw[ht,HES.out]at HM HROW
     have HB4:=aH (HB3.out.below HBE.out)
     clear ht HB3
     by_cases hv:vs=[]
     ·have hn0:nv=0:=by rw[← HNV.out,hv];rfl
      have htn:tl=[]:=by rw[← HTL.out,if_pos hv]
      subst hn0
      subst htn
      have HBY:=aH (HB4.out.byte 10 (by rw[bC,L_B];have:=HSUM.out;simp only[List.length_nil]at this;omega))
      clear hv
      go_wp2_with fail
      refine HBY.out.mono ?_
      rintro e w5 ⟨rfl,hb5⟩
      rw[L_B,List.append_assoc,show fo++[10]=fo++([]++[10]) from rfl,← HKS.out]at hb5
      have HB5:=aH hb5
      clear hb5 HBY HB4
      go_wp2_with fail
      go_roundw
      case rel=>exact⟨k+1,by omega,by go_num,HB5.out⟩
      case measure=>simp [intOf];omega
     ·have hn0:0 < nv:=by
       rw[← HNV.out]
       exact List.length_pos_iff.2 hv
      have htn:tl=58::Lib.join (es.map L) [44]:=by rw[← HTL.out,if_neg hv]
      obtain⟨jn,hjn⟩:∃ jn,Lib.join (es.map L) [44]=jn:=⟨_,rfl⟩
      rw[hjn]at htn
      subst htn
      have hsu:kp.length+fo.length+(jn.length+2)≤70368744177664:=by
       have:=HSUM.out
       simp only[List.length_cons]at this
       omega
      have HSU:=aH hsu
      have HJN:=aH hjn
      have HJ:=aH (fun u (hu:Below wr.heap.size wr u)=>aD3 A m c es ⟨#[44]⟩ u ((HROW.out.below hu).rd) (by rw[HM.out];exact HLE.out) HROW.out.cap.1 (by show (Lib.join (es.map L) [44]).length≤_;rw[HJN.out];omega))
      rw[show L (⟨#[44]⟩:ByteArray)=[44] from rfl,hjn]at HJ
      obtain⟨jb,hjb⟩:∃ jb,B jn=jb:=⟨_,rfl⟩
      have hjs:jb.size=jn.length:=by rw[← hjb,aS,L_B]
      have hLj:L jb=jn:=by rw[← hjb];rfl
      rw[hjb]at HJ
      have hc1:¬ 9223372036854775807 < (⟨#[58]⟩:ByteArray).size+jb.size:=by rw[show (⟨#[58]⟩:ByteArray).size=1 from rfl];omega
      have hc2:¬ 9223372036854775807 < 1+jb.size:=by omega
      have HLJ:=aH hLj
      have HJS:=aH hjs
      clear hjb hLj hjs
      have hn1:¬ nv=0:=by omega
      have hn2:(nv:Int) > 0:=by omega
      clear hv hjn
      go_wp2_with fail
      refine (HJ.out _ (zB _ _)).mono ?_
      rintro e w5 ⟨rfl,hb5⟩
      have HB5:=aH (HB4.out.below hb5)
      have HWS:=aH (HB5.out.str (⟨#[58]⟩++jb) (by rw[aS,dG,L_B,bC,bC,HLJ.out];have:=HSU.out;simp only[show L (⟨#[58]⟩:ByteArray)=[58] from rfl,List.length_singleton];omega))
      clear hb5 HJ HB4
      go_wp2_with fail
      refine HWS.out.mono ?_
      rintro e w6 ⟨rfl,hb6⟩
      rw[dG,L_B,HLJ.out,show L (⟨#[58]⟩:ByteArray)=[58] from rfl]at hb6
      have HBY:=aH (hb6.byte 10 (by rw[bC,bC,bC];have:=HSU.out;simp only[List.length_singleton];omega))
      clear hb6 HWS HB5
      go_wp2_with fail
      refine HBY.out.mono ?_
      rintro e w7 ⟨rfl,hb7⟩
      have e7:kp++fo++([58]++jn)++[10]=kp++(fo++(58::jn++[10])):=by simp
      rw[e7,← HKS.out]at hb7
      have HB7:=aH hb7
      clear hb7 HBY e7
      go_wp2_with fail
      go_roundw
      case rel=>exact⟨k+1,by omega,by go_num,HB7.out⟩
      case measure=>simp [intOf];omega
  ·have ht:names.take k=names:=List.take_of_length_le (by have:=HLX.out;omega)
   rw[ht]at HBL
   have HS:=aH HBL.out.string
   clear ht HBL
   go_wp2_with fail
   refine HS.out.mono ?_
   rintro e w1 ⟨rfl,hb1⟩
   have HB1:=aH hb1
   clear hb1 HS
   go_wp2
   go_ret
   exact⟨rfl,HB1.out⟩
end Go.Proofs.YthjeglnkgdpijaaGreatDoor
