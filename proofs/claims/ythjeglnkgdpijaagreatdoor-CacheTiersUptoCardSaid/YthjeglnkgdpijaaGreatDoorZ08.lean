/- The walk of cache's Save. A disk without faults: what is safe of its files, what they take of the room, what a loss of power leaves of it, and a disk that holds given files. Conditions: as each theorem states them. -/
import Derived.Test.YthjeglnkgdpijaaGreatDoorZ07
set_option maxHeartbeats 4000000
set_option maxRecDepth 100000
namespace Go.Proofs.YthjeglnkgdpijaaGreatDoor
open Go Go.RowKit Go.Maps
section
variable {B room k:Nat} {Z:CM} {a:CSt} {w w':World} {F F':Nat→Prop} {X:SM} {s:S.Sto} {T:TypeId}
theorem aGO (h:dU B X s w) (hf:X.foot s k):B≤k:=by
 rcases hf with hf | rfl | rfl | rfl | hf
 ·have hd:=h.log.disk
  rcases hf with rfl | rfl | rfl | hf | ⟨no,hn,rfl | hf⟩
  ·exact hd.ge.1
  ·exact hd.ge.2.1
  ·exact hd.ge.2.2
  ·exact (hd.pend.lt k hf).1
  ·exact (hd.files no hn).ge
  ·exact ((hd.files no hn).row.lt k hf).1
 ·exact h.log.ge
 ·exact h.ge.1
 ·exact h.ge.2
 ·exact (h.used.lt k hf).1
theorem CAt.under (h:CAt B room Z a w) (hk:Z.foot a k):B≤k:=by
 rcases hk with hk | rfl | ⟨s,hs,hk⟩
 ·exact h.mem.under hk
 ·exact h.ge.2
 ·exact aGO (h.sto s hs) hk
theorem iD (h:aO F w F' w') (hF:∀ k,F k→B≤k) (hB:B≤w.heap.size):Below B w w' :=
 ⟨h.os,h.tape,h.output,h.size,fun k hk=>h.block k (by omega) (fun hf=>by have:=hF k hf;omega)⟩
theorem CAt.off (h:CAt B room Z a w) (ht:Tag w k T) (h1:T≠95∧T≠200∧T≠100∧T≠5) (h2:T≠154∧T≠109∧T≠4) (h3:T≠Lr.tT∧T≠Lr.nT):¬ Z.foot a k:=by
 rintro (hk | rfl | ⟨s,hs,hk⟩)
 ·exact h.mem.off ht h3.1 h3.2 hk
 ·exact ht.map (aF h.hid) rfl
 ·exact (h.sto s hs).off ht h1 h2 hk
end
def aPF (B room:Nat) (Z:CM) (a:CSt) (E:O.Ent) (w:World) (e:Ending) (w':World):Prop :=
 (S.iG E≠0∧e=.returned (.int .i64 (S.iG E))∧Below w.heap.size w w') ∨
 (S.iG E=0∧∃ l',zW w a.l l' (S.aV E) E∧match a.s with
  | none=>e=.returned (.int .i64 0)∧CAt B room Z { a with l:=l' } w'∧aO (Z.foot a) w (Z.foot { a with l:=l' }) w'
  | some s=>e=.returned (.int .i64 (s.put E).2)∧∃ X',CAt B room { Z with X:=X' } (C.hide ⟨some (s.put E).1,l',a.hd⟩ (S.aV E) (decide ((s.put E).2≠0))) w'∧aO (Z.foot a) w (CM.foot { Z with X:=X' } (C.hide ⟨some (s.put E).1,l',a.hd⟩ (S.aV E) (decide ((s.put E).2≠0)))) w')
theorem aK7 (B room b m m':Nat) (Z:CM) (a:CSt) (p:EP) (w:World) (h:CAt B room Z a w) (hp:gB w b p) (hk:p.E.k.size≤268435456) (hv:p.E.v.size≤268435456) (hr:p.E.r.size≤1073741824) (hb:F.bulk p.E.fs≤1073741824) (hl:p.E.fs.length≤1099511627776∧p.E.body.length≤1099511627776)
  (hf:∀ s,a.s=some s→C.Fine m s∧C.Fine m' (s.put p.E).1) (hm:m≤134000000) (hd:a.hd.length≤1073741824) (hT:∀ u,Below B w u→iJ u) (hB:B≤w.heap.size) (hsep:∀ k,ownB p.A p.c=some k∨ownB p.X p.d=some k→¬ Z.foot a k) :
  Calls Tryz.prog 11 #[.pointer (some ⟨Z.c,0,none⟩),p.v] w (aPF B room Z a p.E w):=by
 obtain⟨w0,hw0⟩:∃ w0,w.alloc (.cells #[.string p.E.k,.string p.E.v,.int .i64 p.E.s,.string p.E.r,.int .i64 p.E.m,.slice p.A p.E.fs.length p.c,.slice p.X p.E.body.length p.d,.int .i64 p.E.asked,.int .i64 p.E.got] 41)=w0:=⟨_,rfl⟩
 have hb0:Below w.heap.size w w0:=by rw[← hw0];exact (zB _ _).alloc (zA _) _
 have hk0:Blk w0 w.heap.size #[.string p.E.k,.string p.E.v,.int .i64 p.E.s,.string p.E.r,.int .i64 p.E.m,.slice p.A p.E.fs.length p.c,.slice p.X p.E.body.length p.d,.int .i64 p.E.asked,.int .i64 p.E.got] 41:=by rw[← hw0];exact Blk.new w _ _
 have HID:=aH (aNF p.E.k p.E.v w0 (by omega) (by omega))
 rw[show p.E.k++⟨#[10]⟩++p.E.v=S.aV p.E from rfl]at HID
 have his:(S.aV p.E).size≤1073741824:=by
  have:(S.aV p.E).size=p.E.k.size+1+p.E.v.size:=by unfold S.aV;rw[aQ,eP,eP,bC,bC,← aQ,← aQ];rfl
  omega
 obtain⟨x0,x1,x2,x3,x4,x5,x6,x7,x8⟩:=hk0.cells9
 have HB0:=aH hb0
 have HK0:=aH hk0
 have H0:=aH (h.below hb0)
 have HP0:=aH (hp.below hb0)
 have HF:=aH hf
 have HTA:=aH hT
 obtain⟨id,hid⟩:∃ id,S.aV p.E=id:=⟨_,rfl⟩
 rw[hid]at HID his
 have HIE:=aH hid
 clear hb0 hk0 h hp hf hT hid
 unfold EP.v kK
 go_enter Tryz.func11,Tryz.ntmps11
 go_wp2_with fail
 clear x0 x1 x2 x3 x4 x5 x6 x7 x8 hw0
 refine HID.out.mono ?_
 rintro e w1 ⟨rfl,hb1⟩
 have HB1:=aH (aA HB0.out.size HB0.out hb1)
 have HZ1:=aH (bD HB0.out.size hb1.size)
 have H1:=aH (H0.out.below hb1)
 have HK1:=aH (HK0.out.below hb1)
 have HP1:=aH (HP0.out.below hb1)
 have HLY:=aH (aIT B room b Z a id p w1 H1.out HP1.out his hr hb hl (HTA.out w1 (HB1.out.mono hB)) (bD hB HZ1.out))
 obtain⟨x0,x1,x2,x3,x4,x5,x6,x7,x8⟩:=HK1.out.cells9
 clear hb1 H0 HK0 HP0 HB0 HID
 unfold EP.v kK at HLY
 go_wp2_with fail
 clear x0 x1 x2 x3 x4 x5 x6 x7 x8
 refine HLY.out.mono ?_
 rintro e w2 (⟨hc,rfl,hb2⟩ | ⟨hc,rfl,l',hca,hwa,hla⟩)
 ·have HB2:=aH (aA HZ1.out HB1.out hb2)
  have HC:=aH hc
  have hci:¬ ((S.iG p.E:Int)=0):=hc
  clear hc hb2 HLY
  go_wp2
  go_ret
  exact .inl ⟨HC.out,rfl,HB2.out⟩
 ·have HCA:=aH hca
  have HWA:=aH ((aO.below HB1.out (Z.foot a)).trans hwa)
  have HLA:Hid (zW w a.l l' id p.E):=aH ⟨hla.1,fun x hx=>(hla.2 x hx).imp (fun h=>h) (fun h k hk=>bD HZ1.out (h k hk))⟩
  have HC:=aH hc
  have HK2:=aH (hwa.blk HK1.out (H1.out.off HK1.out.tag (by decide) (by decide) (by decide)))
  have HP2:Hid (gB w2 b p):=aH ⟨hwa.row HP1.out.1 (fun k hk=>hsep k (.inl hk)),hwa.row HP1.out.2 (fun k hk=>hsep k (.inr hk))⟩
  have HT2:Hid (iJ w2):=aH (HTA.out w2 ((HB1.out.mono hB).trans (iD hwa (fun k hk=>H1.out.under hk) (bD hB HZ1.out))))
  obtain⟨y0,y1,y2⟩:=hca.cells
  clear hc hca hwa hla HLY
  cases hs:a.s with
  | none =>
   rw[hs]at y0
   dsimp only[Option.map]at y0
   have HS:=aH hs
   clear hs
   go_wp2
   go_ret
   refine .inr ⟨HC.out,l',by rw[HIE.out];exact HLA.out,?_⟩
   rw[HS.out]
   have h1:=HCA.out
   have h2:=HWA.out
   rw[HS.out]at h1 h2
   exact⟨rfl,h1,h2⟩
  | some s =>
   rw[hs]at y0
   dsimp only[Option.map]at y0
   have HS:=aH hs
   obtain⟨hf1,hf2⟩:=HF.out s hs
   obtain⟨s2,code,hsp⟩:∃ s2 code,s.put p.E=(s2,code):=⟨_,_,rfl⟩
   rw[hsp]at hf2
   have HF2:=aH hf2
   have HSP:=aH hsp
   have HPU:=aH (fun u (hu:Below w2.heap.size w2 u)=>(by
    have hq:=aK2 B Z.X s p.E m p.A p.c p.X p.d u ((HCA.out.below hu).sto s hs) hf1.fit hm hf1.up hf1.len hf1.sz hf1.cnt hf1.used hf1.no hr hb (by omega) (by omega) (HP2.out.1.rd.below hu) (HP2.out.2.rd.below hu) (HT2.out.below hu)
    rw[hsp]at hq
    exact hq:Calls Tryz.prog 35 #[.pointer (some ⟨Z.X.st,0,none⟩),kK p.E p.A p.c p.X p.d] u (xP B Z.X s u s2 (.int .i64 code))))
   clear hs hf1 hf2 hsp
   go_upto_region 7 with fail
   have hS0:Below w2.heap.size w2 w2.drew:=(zB _ _).drew
   refine wp_region_noPanic ?_
   refine HT.begin (n:=5) (S:=(fun u=>Below w2.heap.size w2 u)) (by kernel_rfl) hS0 ?_
   generalize w2.drew=w3 at *
   refine HT.take 0 (.pointer (some ⟨Z.c,0,none⟩)) rfl (by kernel_rfl) (fun _ _ _ h=>h) (Or.inl ⟨by rfl,?_⟩) ?_
   ·intro u hu
    go_simp
   refine HT.take 1 (.pointer (some ⟨Z.c,0,none⟩)) rfl (by kernel_rfl) (fun _ _ _ h=>h) (Or.inl ⟨by rfl,?_⟩) ?_
   ·intro u hu
    go_simp
   refine HT.take 2 (.pointer (some ⟨Z.c,0,none⟩)) rfl (by kernel_rfl) (fun _ _ _ h=>h) (Or.inl ⟨by rfl,?_⟩) ?_
   ·intro u hu
    go_simp
   refine HT.take 3 (.pointer (some ⟨Z.X.st,0,none⟩)) rfl (by kernel_rfl) (fun _ _ _ h=>h) (Or.inl ⟨by rfl,?_⟩) ?_
   ·intro u hu
    have y0:=(HCA.out.below hu).cells.1
    rw[HS.out]at y0
    dsimp only[Option.map]at y0
    go_simp
   refine HT.take 4 (.agg #[.string p.E.k,.string p.E.v,.int .i64 p.E.s,.string p.E.r,.int .i64 p.E.m,.slice p.A p.E.fs.length p.c,.slice p.X p.E.body.length p.d,.int .i64 p.E.asked,.int .i64 p.E.got]) rfl (by kernel_rfl) (fun _ _ _ h=>h) (Or.inl ⟨by rfl,?_⟩) (?_:HT _ _ _ _ _ _ _ ⟨#[_,_,_,_,_,_,_,_,_,_,_,_,_,_,_,_,_,_,_,_,_,_,_,_,_,.pointer (some ⟨Z.c,0,none⟩),.pointer (some ⟨Z.c,0,none⟩),.pointer (some ⟨Z.c,0,none⟩),.pointer (some ⟨Z.X.st,0,none⟩),.agg #[.string p.E.k,.string p.E.v,.int .i64 p.E.s,.string p.E.r,.int .i64 p.E.m,.slice p.A p.E.fs.length p.c,.slice p.X p.E.body.length p.d,.int .i64 p.E.asked,.int .i64 p.E.got],_,_,_,_,_,_,_],[]⟩ _)
   ·intro u hu
    obtain⟨x0,x1,x2,x3,x4,x5,x6,x7,x8⟩:=(HK2.out.below hu).cells9
    go_simp
   refine HT.tail _ rfl rfl (by kernel_rfl) (fun hS=>?_)
   have HP3:=aH (HPU.out _ hS)
   have HC3:=aH (HCA.out.below hS)
   have HW3:=aH (HWA.out.trans (aO.below hS _))
   clear hS hS0 HPU HCA HWA y0 y1 y2
   unfold kK at HP3
   go_wp2_with fail
   refine HP3.out.mono ?_
   rintro e w4 ⟨rfl,X',hst,hwt,hxs,_,_⟩
   obtain⟨q1,q2⟩:=HC3.out.stored HS.out hst hwt hxs
   have HQ1:=aH q1
   have HQ2:=aH (HW3.out.trans q2)
   have HH:=aH (fun yes=>yX B room { Z with X:=X' } ⟨some s2,l',a.hd⟩ id yes m' w4 q1 (fun x hx=>by cases hx;exact HF2.out) his hd)
   clear q1 q2 hst hwt hxs HP3
   by_cases h0:code=0
   ·have h0i:(code:Int)=0:=h0
    have H00:=aH h0
    clear h0
    go_wp2
    refine NoPanic.normal ?_
    go_wp2_with fail
    refine (HH.out false).mono ?_
    rintro e w5 ⟨rfl,r1,r2⟩
    have R1:=aH r1
    have R2:=aH (HQ2.out.trans r2)
    clear r1 r2 HH
    go_wp2
    go_ret
    refine .inr ⟨HC.out,l',by rw[HIE.out];exact HLA.out,?_⟩
    rw[HS.out,HIE.out]
    dsimp only
    rw[HSP.out]
    refine⟨by rw[H00.out];rfl,X',?_⟩
    rw[show decide (code≠0)=false from decide_eq_false (fun h=>h H00.out)]
    exact⟨R1.out,R2.out⟩
   ·have h0i:¬ (code:Int)=0:=h0
    have H00:=aH h0
    clear h0
    go_wp2
    refine NoPanic.normal ?_
    go_wp2_with fail
    rw[bne_iff_ne.2 H00.out]
    refine (HH.out true).mono ?_
    rintro e w5 ⟨rfl,r1,r2⟩
    have R1:=aH r1
    have R2:=aH (HQ2.out.trans r2)
    clear r1 r2 HH
    go_wp2
    go_ret
    refine .inr ⟨HC.out,l',by rw[HIE.out];exact HLA.out,?_⟩
    rw[HS.out,HIE.out]
    dsimp only
    rw[HSP.out]
    refine⟨rfl,X',?_⟩
    rw[show decide (code≠0)=true from decide_eq_true H00.out]
    exact⟨R1.out,R2.out⟩
end Go.Proofs.YthjeglnkgdpijaaGreatDoor
namespace Go.Proofs.YthjeglnkgdpijaaGreatDoor
namespace D
def Hard (ex:Option ByteArray) (d:Dsk):Prop:=∀ p∈d.now,ex=some p.1∨d.firm.getD p.2 0=d.size p.2
structure Cl (ex:Option ByteArray) (u:Nat) (d:Dsk):Prop where
 calm:Clm d
 hard:Hard ex d
 used:d.used≤u
 room:d.room=1073741824
section
variable {d:Dsk} {nm:ByteArray} {c:List UInt8} {ex:Option ByteArray} {u:Nat}
theorem Clm.tight (h:Clm d) (r:Nat) (hr:d.used≤r):Clm { d with room:=r } :=
 ⟨h.power,h.fails,⟨h.ok.lens,h.ok.upN,h.ok.upS,h.ok.inN,h.ok.inS,h.ok.inP,h.ok.fold,h.ok.firms⟩,h.one,Int.ofNat_le.2 hr⟩
theorem Clm.create_eq (h:Clm d) (hg:good nm=true) (hn:cont d nm=none):d.create nm=(({ D.tick d with data:=d.data++[[]],firm:=d.firm++[0] }:Dsk).alter (.put nm d.data.length),0):=by
 unfold Dsk.create
 rw[h.begin (jX hg)]
 show (if (0:Int)≠0 then _ else if (find d.now nm).isSome then _ else _)=_
 rw[if_neg (by decide),aBX hn]
 rfl
theorem Clm.append_eq (h:Clm d) (hg:good nm=true) {no:Nat} (hf:find d.now nm=some no) (b:List UInt8) (hr:(d.used:Int)+b.length≤d.room):d.append nm b=({ D.tick d with data:=d.data.set no (d.data.getD no []++b) },0):=by
 have hne:¬ (0 < b.length∧d.room < (d.used:Int)+b.length):=fun h2=>by omega
 exact (h.on (more:=[]) (jX hg) _ hf).trans (if_neg hne)
theorem Clm.sync_eq (h:Clm d) (hg:good nm=true) {no:Nat} (hf:find d.now nm=some no):d.sync nm=({ D.tick d with firm:=d.firm.set no (d.size no) },0):=h.on (more:=[]) (jX hg) _ hf
theorem Clm.syncNames_eq (h:Clm d):d.syncNames=({ D.tick d with safe:=d.now,pend:=[] },0):=by
 unfold Dsk.syncNames
 rw[h.begin (ns:=[]) rfl]
 rfl
theorem Clm.remove_eq (h:Clm d) (hg:good nm=true) {no:Nat} (hf:find d.now nm=some no):d.remove nm=((D.tick d).alter (.del nm),0):=h.on (more:=[]) (jX hg) _ hf
theorem Clm.rename_eq (h:Clm d) {to_:ByteArray} (hg:good nm=true) (hg2:good to_=true) (hne:nm≠to_) {no:Nat} (hf:find d.now nm=some no):d.rename nm to_=((D.tick d).alter (.ren nm to_ no),0):=by
 refine (h.on (more:=[to_]) (by simp [hg,hg2]) _ hf).trans ?_
 rw[if_neg hne]
theorem Cl.create (h:Cl ex u d) (hg:good nm=true) (hn:cont d nm=none):(d.create nm).2=0∧Cl ex u (d.create nm).1∧∀ x,cont (d.create nm).1 x=if x=nm then some [] else cont d x:=by
 obtain⟨e1,c1,k1⟩:=h.calm.create hg hn
 refine⟨e1,⟨c1,?_,?_,?_⟩,k1⟩
 ·rw[h.calm.create_eq hg hn]
  intro p hp
  rcases cZ.1 hp with rfl | ⟨hp,_⟩
  ·right
   show (d.firm++[0]).getD d.data.length 0=((d.data++[([]:List UInt8)]).getD d.data.length []).length
   rw[← h.calm.ok.lens]
   simp [List.getD,h.calm.ok.lens]
  ·have hi:=h.calm.ok.inN p hp
   have hi2:p.2 < d.firm.length:=by rw[h.calm.ok.lens];exact hi
   have e1:(d.firm++[(0:Nat)]).getD p.2 0=d.firm.getD p.2 0:=by simp [List.getD,List.getElem?_append_left hi2]
   have e2:(d.data++[([]:List UInt8)]).getD p.2 []=d.data.getD p.2 []:=by simp [List.getD,List.getElem?_append_left hi]
   show _∨(d.firm++[(0:Nat)]).getD p.2 0=((d.data++[([]:List UInt8)]).getD p.2 []).length
   rw[e1,e2]
   exact h.hard p hp
 ·have ht:=h.calm.tight d.used (zA _)
  have:=(ht.create hg (show cont _ nm=none from hn)).2.1.room
  rw[ht.create_eq hg hn]at this
  rw[h.calm.create_eq hg hn]
  exact bD (Int.ofNat_le.1 this) h.used
 ·rw[h.calm.create_eq hg hn]
  exact h.room
theorem Cl.append (h:Cl none u d) (hg:good nm=true) (hc:cont d nm=some c) (b:List UInt8) (hr:u+b.length≤1073741824) :
  (d.append nm b).2=0∧Cl (some nm) (u+b.length) (d.append nm b).1∧∀ x,cont (d.append nm b).1 x=if x=nm then some (c++b) else cont d x:=by
 obtain⟨no,hf,hd⟩:=fF hc
 have hu:=h.used
 have hroom:=h.room
 have e:=h.calm.append_eq hg hf b (by omega)
 rcases h.calm.append hg hc b with ⟨e1,_,_⟩ | ⟨e1,c1,k1⟩
 ·rw[e]at e1
  exact absurd e1 (by show ¬ (0:Int)=92;decide)
 refine⟨e1,⟨c1,?_,?_,?_⟩,k1⟩
 ·rw[e]
  intro p hp
  by_cases hx:p.1=nm
  ·left;rw[hx]
  ·right
   have hne:no≠p.2:=fun e=>hx (congrArg Prod.fst (h.calm.one _ (aN hf) p hp e)).symm
   show d.firm.getD p.2 0=((d.data.set no (d.data.getD no []++b)).getD p.2 []).length
   rw[show (d.data.set no (d.data.getD no []++b)).getD p.2 []=d.data.getD p.2 [] by simp [List.getD,List.getElem?_set_ne hne]]
   rcases h.hard p hp with h1 | h1
   ·cases h1
   ·exact h1
 ·have ht:=h.calm.tight (d.used+b.length) (Nat.le_add_right _ _)
  have e2:=ht.append_eq hg hf b (show (d.used:Int)+b.length≤((d.used+b.length:Nat):Int) by omega)
  rcases ht.append hg (show cont _ nm=some c from hc) b with ⟨e3,_,_⟩ | ⟨_,c3,_⟩
  ·rw[e2]at e3
   exact absurd e3 (by show ¬ (0:Int)=92;decide)
  ·have:=c3.room
   rw[e2]at this
   rw[e]
   have:=Int.ofNat_le.1 this
   exact bD this (Nat.add_le_add_right hu _)
 ·rw[e]
  exact hroom
theorem Cl.sync (h:Cl ex u d) (hg:good nm=true) (hc:cont d nm=some c) (hx:ex=none∨ex=some nm):(d.sync nm).2=0∧Cl none u (d.sync nm).1∧∀ x,cont (d.sync nm).1 x=cont d x:=by
 obtain⟨no,hf,hd⟩:=fF hc
 obtain⟨e1,c1,k1⟩:=h.calm.sync hg hc
 have e:=h.calm.sync_eq hg hf
 refine⟨e1,⟨c1,?_,?_,?_⟩,k1⟩
 ·rw[e]
  intro p hp
  right
  show (d.firm.set no (d.size no)).getD p.2 0=d.size p.2
  have hi:no < d.firm.length:=by rw[h.calm.ok.lens];exact h.calm.ok.inN _ (aN hf)
  by_cases hpn:no=p.2
  ·rw[← hpn]
   simp [List.getD,hi]
  ·rw[show (d.firm.set no (d.size no)).getD p.2 0=d.firm.getD p.2 0 by simp [List.getD,List.getElem?_set_ne hpn]]
   rcases h.hard p hp with h1 | h1
   ·rcases hx with hx | hx
    ·rw[hx]at h1;cases h1
    ·rw[hx]at h1
     have h2:nm=p.1:=Option.some.inj h1
     have h3:=fB h.calm.ok.upN hp
     rw[← h2,hf]at h3
     exact absurd (Option.some.inj h3) hpn
   ·exact h1
 ·rw[e];exact h.used
 ·rw[e];exact h.room
theorem Cl.syncNames (h:Cl ex u d):d.syncNames.2=0∧Cl ex u d.syncNames.1∧∀ x,cont d.syncNames.1 x=cont d x:=by
 obtain⟨e1,c1,k1⟩:=h.calm.syncNames
 refine⟨e1,⟨c1,?_,?_,?_⟩,k1⟩
 ·rw[h.calm.syncNames_eq];exact h.hard
 ·rw[h.calm.syncNames_eq];exact h.used
 ·rw[h.calm.syncNames_eq];exact h.room
theorem Cl.remove (h:Cl ex u d) (hg:good nm=true) (hc:cont d nm=some c):(d.remove nm).2=0∧Cl ex u (d.remove nm).1∧∀ x,cont (d.remove nm).1 x=if x=nm then none else cont d x:=by
 obtain⟨no,hf,hd⟩:=fF hc
 obtain⟨e1,c1,k1⟩:=h.calm.remove hg hc
 have e:=h.calm.remove_eq hg hf
 refine⟨e1,⟨c1,?_,?_,?_⟩,k1⟩
 ·rw[e]
  exact fun p hp=>h.hard p (bY.1 hp).1
 ·have:=rM (fun p=>d.size p.2) nm d.now
  rw[e]
  exact bD this h.used
 ·rw[e];exact h.room
theorem Cl.rename (h:Cl none u d) {to_:ByteArray} (hg:good nm=true) (hg2:good to_=true) (hne:nm≠to_) (hc:cont d nm=some c):(d.rename nm to_).2=0∧Cl none u (d.rename nm to_).1∧∀ x,cont (d.rename nm to_).1 x=if x=to_ then some c else if x=nm then none else cont d x:=by
 obtain⟨no,hf,hd⟩:=fF hc
 obtain⟨e1,c1,k1⟩:=h.calm.rename hg hg2 hne hc
 have e:=h.calm.rename_eq hg hg2 hne hf
 refine⟨e1,⟨c1,?_,?_,?_⟩,k1⟩
 ·rw[e]
  intro p hp
  rcases cZ.1 hp with rfl | ⟨hp,_⟩
  ·rcases h.hard _ (aN hf) with h1 | h1
   ·cases h1
   ·exact .inr h1
  ·exact h.hard p (bY.1 hp).1
 ·have ht:=h.calm.tight d.used (zA _)
  have:=(ht.rename hg hg2 hne (show cont _ nm=some c from hc)).2.1.room
  rw[ht.rename_eq hg hg2 hne hf]at this
  rw[e]
  exact bD (Int.ofNat_le.1 this) h.used
 ·rw[e];exact h.room
theorem Cl.mono {v:Nat} (h:Cl ex u d) (hv:u≤v):Cl ex v d:=⟨h.calm,h.hard,bD h.used hv,h.room⟩
end
def aF1:Nat→List ByteArray→NM
 | _,[]=>[]
 | k,x::r=>(x,k)::aF1 (k+1) r
def sU (fs:List (ByteArray × List UInt8)) (room:Int) (fails:List Int) (power:Int):Dsk :=
 ⟨aF1 0 (fs.map (·.1)),aF1 0 (fs.map (·.1)),[],fs.map (·.2),fs.map (·.2.length),room,fails,power,0⟩
theorem mG:∀ {l:List ByteArray} {k:Nat} {p:ByteArray × Nat},p∈aF1 k l→p.1∈l∧k≤p.2∧p.2 < k+l.length
 | [],_,_,h=>by cases h
 | x::r,k,p,h=>by
  rcases List.mem_cons.1 h with rfl | h
  ·exact⟨by simp,zA _,by simp only[List.length_cons];omega⟩
  ·obtain⟨h1,h2,h3⟩:=mG h
   exact⟨List.mem_cons_of_mem _ h1,by omega,by simp only[List.length_cons];omega⟩
theorem aID:∀ {l:List ByteArray} {k:Nat},l.Pairwise (fun a b=>ltB a b=true)→Up (aF1 k l)
 | [],_,_=>List.Pairwise.nil
 | x::r,k,h=>by
  obtain⟨h1,h2⟩:=List.pairwise_cons.1 h
  exact List.pairwise_cons.2 ⟨fun p hp=>h1 _ (mG hp).1,aID h2⟩
theorem aEJ:∀ {l:List ByteArray} {k:Nat},∀ p∈aF1 k l,∀ q∈aF1 k l,p.2=q.2→p=q
 | [],_,p,hp,_,_,_=>by cases hp
 | x::r,k,p,hp,q,hq,e=>by
  rcases List.mem_cons.1 hp with rfl | hp
  ·rcases List.mem_cons.1 hq with rfl | hq
   ·rfl
   ·have:=(mG hq).2.1
    change k=q.2 at e
    omega
  ·rcases List.mem_cons.1 hq with rfl | hq
   ·have:=(mG hp).2.1
    change p.2=k at e
    omega
   ·exact aEJ p hp q hq e
theorem aA8 (x:ByteArray):∀ (l:List (ByteArray × List UInt8)) (pre:List (List UInt8)),(find (aF1 pre.length (l.map (·.1))) x).map (fun no=>(pre++l.map (·.2)).getD no [])=(l.find? fun p=>decide (p.1=x)).map (·.2)
 | [],_=>rfl
 | p::r,pre=>by
  unfold find
  rw[List.map_cons,List.map_cons,aF1,List.find?_cons,List.find?_cons]
  cases h:decide (p.1=x) with
  | true=>simp [List.getD]
  | false =>
   have ih:=aA8 x r (pre++[p.2])
   unfold find at ih
   rw[bC,List.length_singleton,List.append_assoc,List.singleton_append]at ih
   exact ih
theorem aEI:∀ (l:List (ByteArray × List UInt8)) (pre:List (List UInt8)),((aF1 pre.length (l.map (·.1))).map fun p=>((pre++l.map (·.2)).getD p.2 []).length).sum=(l.map (·.2.length)).sum
 | [],_=>rfl
 | p::r,pre=>by
  have ih:=aEI r (pre++[p.2])
  rw[bC,List.length_singleton,List.append_assoc,List.singleton_append]at ih
  rw[List.map_cons,List.map_cons,aF1,List.map_cons,List.sum_cons,ih,List.map_cons,List.sum_cons]
  congr 1
  simp [List.getD]
theorem Cl.left {u:Nat} {d:Dsk} (h:Cl none u d) {k:Int} (hp:(d.pend.length:Int)≤k):d.left k []=d.now.map fun p=>(p.1,d.data.getD p.2 []):=by
 unfold Dsk.left
 have h1:d.namesLeft k=d.now:=by
  unfold Dsk.namesLeft
  rw[List.take_of_length_le (by omega),← h.calm.ok.fold]
 rw[h1]
 apply List.map_congr_left
 intro p hp
 have:d.keepN [] p.2=d.size p.2:=by
  unfold Dsk.keepN
  rcases h.hard p hp with h2 | h2
  ·cases h2
  ·rw[h2];simp
 rw[this]
 unfold Dsk.size
 rw[List.take_length]
theorem aLM (f:Nat→List UInt8) (x:ByteArray) (l:NM):((l.map fun p=>(p.1,f p.2)).find? fun p=>decide (p.1=x)).map (·.2)=(find l x).map f:=by
 unfold find
 induction l with
 | nil=>rfl
 | cons p r ih =>
  rw[List.map_cons,List.find?_cons,List.find?_cons]
  cases h:decide (p.1=x) with
  | true=>rfl
  | false=>exact ih
theorem Cl.again {u:Nat} {d:Dsk} (h:Cl none u d) (hu:u≤1073741824) {k:Int} (hp:(d.pend.length:Int)≤k):Cl none u (sU (d.left k []) 1073741824 [] (-1))∧∀ x,cont (sU (d.left k []) 1073741824 [] (-1)) x=cont d x:=by
 rw[h.left hp]
 have hn:((d.now.map fun p=>(p.1,d.data.getD p.2 [])).map (·.1))=d.now.map (·.1):=by rw[List.map_map];rfl
 have hc:∀ x,cont (sU (d.now.map fun p=>(p.1,d.data.getD p.2 [])) 1073741824 [] (-1)) x=cont d x:=fun x =>
  (aA8 x (d.now.map fun p:ByteArray × Nat=>(p.1,d.data.getD p.2 [])) []).trans (aLM (fun no=>d.data.getD no []) x d.now)
 have hup:Up (aF1 0 ((d.now.map fun p=>(p.1,d.data.getD p.2 [])).map (·.1))):=by
  rw[hn]
  exact aID (List.pairwise_map.2 h.calm.ok.upN)
 have hin:∀ p∈aF1 0 ((d.now.map fun p=>(p.1,d.data.getD p.2 [])).map (·.1)),p.2 < ((d.now.map fun p=>(p.1,d.data.getD p.2 [])).map (·.2)).length:=fun p hp=>by
  have:=(mG hp).2.2
  simp only[List.length_map]at this ⊢
  omega
 have hfs:∀ no,no < ((d.now.map fun p=>(p.1,d.data.getD p.2 [])).map (·.2)).length→((d.now.map fun p=>(p.1,d.data.getD p.2 [])).map (·.2.length)).getD no 0=(((d.now.map fun p=>(p.1,d.data.getD p.2 [])).map (·.2)).getD no []).length:=fun no hno=>by
  simp only[List.length_map]at hno
  simp [List.getD,hno]
 have hus:(sU (d.now.map fun p=>(p.1,d.data.getD p.2 [])) 1073741824 [] (-1)).used=d.used:=by
  refine (aEI (d.now.map fun p:ByteArray × Nat=>(p.1,d.data.getD p.2 [])) []).trans ?_
  rw[List.map_map]
  rfl
 refine⟨⟨⟨rfl,rfl,⟨by simp [sU],hup,hup,hin,hin,(fun _ h=>by cases h),rfl,fun no hno=>Nat.le_of_eq (hfs no hno)⟩,aEJ,?_⟩,fun p hp=>.inr (hfs p.2 (hin p hp)),by rw[hus];exact h.used,rfl⟩,hc⟩
 have:=h.used
 rw[hus]
 show (d.used:Int)≤1073741824
 omega
end D
end Go.Proofs.YthjeglnkgdpijaaGreatDoor
