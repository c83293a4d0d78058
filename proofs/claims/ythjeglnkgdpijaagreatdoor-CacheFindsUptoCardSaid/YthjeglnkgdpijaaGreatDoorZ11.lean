/- Save, Find at a sound cache; the states of the Cache laws' first script. The walk of the Cache laws' first script. Conditions: as each theorem states them. -/
import Derived.Test.YthjeglnkgdpijaaGreatDoorZ09
set_option maxHeartbeats 8000000
set_option maxRecDepth 100000
namespace Go.Proofs.YthjeglnkgdpijaaGreatDoor
open Go Go.RowKit Go.Maps
theorem aO.out {F F':Nat→Prop} {w w':World} {k:Nat} (h:aO F w F' w') (hk:¬ F k) (hlt:k < w.heap.size):¬ F' k:=fun hf=>by
 rcases h.foot k hf with h1 | h1
 ·exact hk h1
 ·omega
structure aK8 (F:Nat→Prop) (w:World) (F':Nat→Prop) (w':World) (l l':List It):Prop extends aO F w F' w' where
 newer:aQX w l l'
structure aIA (F:Nat→Prop) (w:World) (p:EP):Prop where
 own:gZ w 0 p
 off:∀ k,ownB p.A p.c=some k∨ownB p.X p.d=some k→¬ F k
theorem aIA.went {F F':Nat→Prop} {w w':World} {p:EP} (h:aIA F w p) (hw:aO F w F' w'):aIA F' w' p :=
 ⟨⟨hw.row h.own.1 (fun k hk=>h.off k (.inl hk)),hw.row h.own.2 (fun k hk=>h.off k (.inr hk))⟩,fun k hk=>hw.out (h.off k hk) (by
  rcases hk with hk | hk
  ·exact (h.own.1.lt k hk).2
  ·exact (h.own.2.lt k hk).2)⟩
theorem aIA.below {F:Nat→Prop} {w w':World} {p:EP} (h:aIA F w p) (hb:Below w.heap.size w w'):aIA F w' p:=⟨h.own.below hb,h.off⟩
theorem aIA.nine {F:Nat→Prop} {w:World} {b:Nat} {p:EP} (h:aIA F w p) (ht:Tag w b 41) (y0 y1 y2 y3 y4 y5 y6 y7 y8:Value):aIA F (Go.Proofs.YthjeglnkgdpijaaGreatDoor.nine w b y0 y1 y2 y3 y4 y5 y6 y7 y8) p:=⟨h.own.nine_far ht y0 y1 y2 y3 y4 y5 y6 y7 y8,h.off⟩
theorem CAt.offE {B room k:Nat} {Z:CM} {a:CSt} {w:World} {cs:Array Value} (h:CAt B room Z a w) (hk:Blk w k cs 41):¬ Z.foot a k:=h.off hk.tag ⟨by decide,by decide,by decide,by decide⟩ ⟨by decide,by decide,by decide⟩ ⟨by decide,by decide⟩
def EP.lim (p:EP):Prop:=F.bulk p.E.fs+p.E.k.size+p.E.v.size+p.E.r.size+p.E.body.length≤1048576
theorem aDE (B room b:Nat) (Z:CM) (a:CSt) (s:S.Sto) (p:EP) (w:World) (h:CAt B room Z a w) (hs:C.iI s (C.abs a)) (hb:C.Base (s.put p.E).1)
  (hget:(s.put p.E).2=0→(s.put p.E).1.get (S.aU p.E)=some p.E∧∀ x F,x≠S.aU p.E→s.get x=some F→(s.put p.E).1.get x=some F) (hp:gZ w b p) (hbf:∀ k,Z.foot a k→k < b) (hz:p.lim) (hT:∀ u,Below B w u→Tabs u) (hB:B≤w.heap.size) :
  Calls Tryz.prog 11 #[.pointer (some ⟨Z.c,0,none⟩),p.v] w (fun e w'=>e=.returned (.int .i64 (s.put p.E).2)∧Below B w w'∧∃ Z' a',Z'.c=Z.c∧CAt B room Z' a' w'∧aK8 (Z.foot a) w (Z'.foot a') w' a.l a'.l∧((s.put p.E).2=0→C.iI (s.put p.E).1 (C.abs a'))):=by
 have hst:a.s=some s:=hs.st
 have hhd:a.hd=[]:=hs.hd
 have hlb:=F.bU p.E.fs
 unfold EP.lim at hz
 refine (aE3 B room b 2000 2000 Z a p w h hp (by omega) (by omega) (by omega) (by omega) (by omega) (fun s' hs'=>?_) (by omega) (by rw[hhd];exact zF _) (fun u hu=>(hT u hu).2.2) hB (fun k hk hf=>?_)).mono ?_
 ·obtain rfl:s=s':=Option.some.inj (hst.symm.trans hs')
  exact⟨hs.base.fine,hb.fine⟩
 ·have h1:=hbf k hf
  rcases hk with hk | hk
  ·have h2:=(hp.1.lt k hk).1
   omega
  ·have h2:=(hp.2.lt k hk).1
   omega
 ·rintro e w' (⟨h1,rfl,h2⟩ | ⟨h1,l',hl,hm⟩)
  ·have e1:s.put p.E=(s,S.gU p.E):=by unfold S.Sto.put;rw[if_pos h1]
   refine⟨by rw[e1],h2.mono hB,Z,a,rfl,h.below h2,⟨aO.below h2 _,fun _ hx=>.inl hx⟩,fun h0=>?_⟩
   rw[e1]at h0
   exact absurd h0 h1
  ·simp only[hst]at hm
   obtain⟨rfl,X,hc,hw⟩:=hm
   refine⟨rfl,dR hw (fun k hk=>h.under hk) hB,{ Z with X:=X },_,rfl,hc,⟨hw,hl.2⟩,fun h0=>?_⟩
   obtain⟨g1,g2⟩:=hget h0
   exact hs.save hb g1 g2 hl h0
theorem xG (B room b:Nat) (Z:CM) (a:CSt) (s:S.Sto) (p:EP) (w:World) (h:CAt B room Z a w) (hs:C.iI s (C.abs a)) (hb:C.Base (s.put p.E).1)
  (hget:(s.put p.E).2=0→(s.put p.E).1.get (S.aU p.E)=some p.E∧∀ x F,x≠S.aU p.E→s.get x=some F→(s.put p.E).1.get x=some F) (hp:gZ w b p) (hbf:∀ k,Z.foot a k→k < b) (hz:p.lim) (hT:∀ u,Below B w u→Tabs u) (hB:B≤w.heap.size) :
  Calls Tryz.prog 11 #[.pointer (some ⟨Z.c,0,none⟩),p.v] w (fun e w'=>e=.returned (.int .i64 (s.put p.E).2)∧Below B w w'∧((s.put p.E).2=0→∃ Z' a',Z'.c=Z.c∧CAt B room Z' a' w'∧aK8 (Z.foot a) w (Z'.foot a') w' a.l a'.l∧C.iI (s.put p.E).1 (C.abs a'))) :=
 (aDE B room b Z a s p w h hs hb hget hp hbf hz hT hB).mono (by
  rintro e w' ⟨h1,h2,Z',a',h3,h4,h5,h6⟩
  exact⟨h1,h2,fun h0=>⟨Z',a',h3,h4,h5,h6 h0⟩⟩)
theorem xH (B room:Nat) (Z:CM) (a:CSt) (s:S.Sto) (key:ByteArray) (Y:Option Addr) (cy:Nat) (ask:List FD) (w:World) (h:CAt B room Z a w) (hs:C.iI s (C.abs a)) (hk:key.size≤1048576) (hb:F.bulk ask≤1048576) (hy:Rd w Y ask.length 2 (aJ ask)) (hT:∀ u,Below B w u→Tabs u) (hB:B≤w.heap.size) :
  Calls Tryz.prog 13 #[.pointer (some ⟨Z.c,0,none⟩),.string key,.slice Y ask.length cy] w (fun e w'=>∃ (q:EP) (a':CSt),e=.returned (.tuple #[q.v,.bool (C.pick a key ask (C.aV (C.ids a) key)).isSome])∧q.E=((C.pick a key ask (C.aV (C.ids a) key)).map (·.2)).getD O.Ent.zero∧aIA (Z.foot a') w' q∧CAt B room Z a' w'∧aK8 (Z.foot a) w (Z.foot a') w' a.l a'.l∧C.iI s (C.abs a')∧Below B w w'∧gZ w' w.heap.size q):=by
 refine (aFS B room 2000 Z a key Y cy ask w h (fun s' hs'=>?_) (by omega) (hs.good hb) (by omega) hy hT hB).mono ?_
 ·have hst:a.s=some s:=hs.st
  obtain rfl:s=s':=Option.some.inj (hst.symm.trans hs')
  exact hs.base.fine
 ·rintro e w' hret
  rcases C.tY a key ask (C.aV (C.ids a) key) with ⟨h0,_⟩ | ⟨id,_,E,h0,⟨h1,_⟩,_⟩
  ·rw[h0]at hret ⊢
   obtain⟨rfl,hb⟩:=hret
   exact⟨EP.nil,a,rfl,rfl,⟨⟨Row.none_ _ _ _ _,Row.none_ _ _ _ _⟩,fun k hk=>by rcases hk with hk | hk<;>cases hk⟩,h.below hb,⟨aO.below hb _,fun _ hx=>.inl hx⟩,hs,hb.mono hB,Row.none_ _ _ _ _,Row.none_ _ _ _ _⟩
  ·rw[h0]at hret ⊢
   obtain⟨q,l',rfl,hq,ho,hof,hc,hw,hl⟩:=hret
   exact⟨q,_,rfl,hq,⟨ho.mono (zF _),hof⟩,hc,⟨hw,hl.2⟩,hs.found h1 hl,dR hw (fun k hk=>h.under hk) hB,ho⟩
theorem aDF (B room:Nat) (Z:CM) (a:CSt) (key:ByteArray) (w:World) (h:CAt B room Z a w) (hk:key.size≤1048576)
  (hf:∀ k,k≤(C.aV (C.all a) key).length→((C.abs a).purge key ((C.aV (C.all a) key).take k)).1.hd.length≤1073741824∧∀ s,((C.abs a).purge key ((C.aV (C.all a) key).take k)).1.s=some s→C.Fine 2000 s) (hT:∀ u,Below B w u→Tabs u) (hB:B≤w.heap.size) :
  Calls Tryz.prog 10 #[.pointer (some ⟨Z.c,0,none⟩),.string key] w (fun e w'=>∃ Z' a',Z'.c=Z.c∧e=.returned (.tuple #[.int .i64 ((C.abs a).purge key (C.aV (C.all a) key)).2.1,.int .i64 ((C.abs a).purge key (C.aV (C.all a) key)).2.2])∧CAt B room Z' a' w'∧aK8 (Z.foot a) w (Z'.foot a') w' a.l a'.l∧C.abs a'=((C.abs a).purge key (C.aV (C.all a) key)).1∧Below B w w'):=by
 refine (aBK B room 2000 Z a key w h (by omega) (by omega) hf hT hB).mono ?_
 rintro e w' ⟨X,a',rfl,h1,h2,h3,h4⟩
 exact⟨{ Z with X:=X },a',rfl,rfl,h1,⟨h2,fun x hx=>.inl (h4 x hx)⟩,h3,dR h2 (fun k hk=>h.under hk) hB⟩
namespace O
instance:DecidableEq Ent:=fun a b=>decidable_of_iff (a.k=b.k∧a.v=b.v∧a.s=b.s∧a.r=b.r∧a.m=b.m∧a.fs=b.fs∧a.body=b.body∧a.asked=b.asked∧a.got=b.got) (by
 cases a;cases b
 simp only[Ent.mk.injEq])
end O
namespace C
def chk (s:S.Sto):Bool:=decide (s.tab.Pairwise fun p q=>D.ltB p.1 q.1=true)&&decide (s.used.length≤4096)&&decide (s.tab.length≤1000)&&decide (s.count≤1000)&&s.tab.all fun p=>decide (p.1.size≤4096)&&decide (p.2 < s.used.length)&&match s.get p.1 with
 | some E=>decide (S.gU E=0)&&decide (S.aU E=p.1)
 | none=>false
theorem rZ {s:S.Sto} (h:chk s=true) (hf:D.Fit 2000 s.d):Base s:=by
 unfold chk at h
 simp only[Bool.and_eq_true,decide_eq_true_eq,List.all_eq_true]at h
 obtain⟨⟨⟨⟨h1,h2⟩,h3⟩,h4⟩,h5⟩:=h
 have hg:∀ p∈s.tab,∃ E,s.get p.1=some E∧S.gU E=0∧S.aU E=p.1:=fun p hp=>by
  have h6:=(h5 p hp).2
  cases hq:s.get p.1 with
  | none=>rw[hq]at h6;cases h6
  | some E =>
   rw[hq]at h6
   simp only[Bool.and_eq_true,decide_eq_true_eq]at h6
   exact⟨E,rfl,h6⟩
 have hi:∀ x E,s.get x=some E→∃ p∈s.tab,p.1=x:=fun x E hx=>by
  unfold S.Sto.get at hx
  cases hq:D.find s.tab x with
  | none=>rw[hq]at hx;cases hx
  | some no=>exact⟨_,D.aI hq,rfl⟩
 refine⟨⟨hf,h1,by omega,fun p hp=>by have:=(h5 p hp).1.1;omega,fun p hp=>(h5 p hp).1.2,h2,by omega⟩,fun x=>?_,fun x E hx=>?_⟩
 ·unfold S.Sto.ids
  rw[List.mem_map]
  constructor
  ·rintro⟨p,hp,rfl⟩
   obtain⟨E,hE,_⟩:=hg p hp
   rw[hE];rfl
  ·intro hx
   obtain⟨E,hE⟩:=Option.isSome_iff_exists.1 hx
   exact hi x E hE
 ·obtain⟨p,hp,rfl⟩:=hi x E hx
  obtain⟨F,hF,h6⟩:=hg p hp
  obtain rfl:F=E:=Option.some.inj (hF.symm.trans hx)
  exact h6
def idA:ByteArray:=⟨#[97,10]⟩
def idB:ByteArray:=⟨#[98,10]⟩
def uS:O.Ent:=⟨⟨#[97]⟩,⟨#[]⟩,200,⟨#[]⟩,1,[],[],0,1⟩
def aCC:O.Ent:=⟨⟨#[98]⟩,⟨#[]⟩,200,⟨#[]⟩,1,[],[],0,2⟩
def al0:S.Sto:=⟨(S.steps (D.bare 9999 [] (-1)) S.dB).1,0,[],S.marks 9 []⟩
def al1:S.Sto:=(al0.put uS).1
def al2:S.Sto:=(al1.put aCC).1
def al3:S.Sto:=(al2.drop idA).1
theorem aNX:start 9999 [] (-1) 9=some (some al0):=by
 unfold start
 rw[if_neg (by decide),if_neg (by
  rintro (h | h | h | h)
  ·exact h ⟨by decide,by decide⟩
  ·exact absurd h (by decide)
  ·exact absurd h (by decide)
  ·exact h (by decide +kernel))]
 rfl
theorem aK6:D.Fit 3 al0.d:=S.gK S.dB S.kY (S.aAL (-1) ⟨by decide,by decide⟩ (by decide))
theorem aK5:D.Fit 16 al1.d:=S.oH aK6 uS
theorem aK4:D.Fit 29 al2.d:=S.oH aK5 aCC
theorem aQN:D.Fit 37 al3.d:=S.aAE aK4 idA
theorem aR6:Base al0:=rZ (by decide +kernel) (aK6.mono (by decide))
theorem aR5:Base al1:=rZ (by decide +kernel) (aK5.mono (by decide))
theorem aR4:Base al2:=rZ (by decide +kernel) (aK4.mono (by decide))
theorem aR3:Base al3:=rZ (by decide +kernel) (aQN.mono (by decide))
theorem al_p1:(al0.put uS).2=0:=by decide +kernel
theorem al_p2:(al1.put aCC).2=0:=by decide +kernel
theorem al_p3:(al2.drop idA).2=0:=by decide +kernel
theorem al_i0:al0.ids=[]:=by decide +kernel
theorem al_i1:al1.ids=[idA]:=by decide +kernel
theorem aQK:al2.ids=[idA,idB]:=by decide +kernel
theorem aR1:al3.ids=[idB]:=by decide +kernel
theorem aR2:al1.get idA=some uS:=by decide +kernel
theorem aK3:al2.get idA=some uS∧al2.get idB=some aCC:=by decide +kernel
theorem al_g3:al3.get idB=some aCC:=by decide +kernel
theorem aQM:(al0.put uS).1.get (S.aU uS)=some uS∧∀ x F,x≠S.aU uS→al0.get x=some F→(al0.put uS).1.get x=some F:=⟨aR2,fun x F _ h=>by
 have:=(aR6.gets x).2 (by rw[h];rfl)
 rw[al_i0]at this
 cases this⟩
theorem aQL:(al1.put aCC).1.get (S.aU aCC)=some aCC∧∀ x F,x≠S.aU aCC→al1.get x=some F→(al1.put aCC).1.get x=some F:=⟨aK3.2,fun x F _ h=>by
 have:=(aR5.gets x).2 (by rw[h];rfl)
 rw[al_i1]at this
 obtain rfl:x=idA:=List.mem_singleton.1 this
 rw[aR2]at h
 rw[← h]
 exact aK3.1⟩
theorem aE2 {x y:ByteArray} (h:D.ltB x y=true):setB [x,y]=[x,y]:=kN (iT _) (List.pairwise_pair.2 h) (fun _=>iD)
theorem aL6 (x:ByteArray):setB [x]=[x]:=kN (iT _) (List.pairwise_singleton _ _) (fun _=>iD)
theorem aL7:setB []=[]:=kN (iT _) List.Pairwise.nil (fun _=>iD)
theorem aBX {E:O.Ent} (h1:E.fs=[]) (h2:E.v=⟨#[]⟩) (ask:List FD):V.matches E ask=true:=by
 unfold V.matches
 rw[h1,h2]
 have h3:V.names []=some []:=by
  unfold V.names
  rw[show F.tokens [] V.vary=[] from rfl,aL7]
  rfl
 rw[h3]
 exact decide_eq_true rfl
section
variable {a:CSt}
theorem aK2 (h:iI al2 (abs a)):C.ids a=[idA,idB]:=by rw[h.ids,aQK];exact aE2 (by decide)
theorem aN0 (h:iI al2 (abs a)):pick a ⟨#[97]⟩ [] (aV (C.ids a) ⟨#[97]⟩)=some (idA,uS):=by
 rw[aK2 h,show aV [idA,idB] ⟨#[97]⟩=[idA] by decide]
 have hA:aLE a ⟨#[97]⟩ [] idA uS:=⟨(h.entry2 idA).trans aK3.1,rfl,aBX rfl rfl _⟩
 rcases tY a ⟨#[97]⟩ [] [idA] with ⟨_,h2⟩ | ⟨id,h1,E,h2,h3,_⟩
 ·exact absurd hA (h2 idA (by simp) uS)
 ·obtain rfl:id=idA:=List.mem_singleton.1 h1
  rw[h2]
  obtain rfl:uS=E:=Option.some.inj (hA.1.symm.trans h3.1)
  rfl
theorem aNZ (h:iI al3 (abs a)):pick a ⟨#[97]⟩ [] (aV (C.ids a) ⟨#[97]⟩)=none:=by
 rw[h.ids,aR1,aL6,show aV [idB] ⟨#[97]⟩=[] by decide]
 rfl
theorem aNY (h:iI al2 (abs a)):∃ u,aV (C.all a) ⟨#[97]⟩=[idA]∧(abs a).purge ⟨#[97]⟩ [idA]=(u,1,0)∧iI al3 u:=by
 have hall:C.all a=[idA,idB]:=by rw[h.all,aQK];exact aE2 (by decide)
 have hen:(abs a).entry idA=some uS:=(h.entry idA).trans aK3.1
 have hap:(abs a).apart ⟨#[97]⟩ idA=false:=by unfold Vw.apart;rw[hen];rfl
 have hs:a.s=some al2:=h.st
 have hhd:a.hd=[]:=h.hd
 have hdr:al2.drop idA=(al3,0):=by
  have:=al_p3
  unfold al3
  rw[← this]
 refine⟨({ (abs a).less idA with s:=some al3 }:Vw).hide idA,by rw[hall];decide,?_,?_⟩
 ·unfold Vw.purge
  rw[List.foldl_cons,List.foldl_nil]
  unfold Vw.purge1
  rw[if_neg (by rw[hap];decide)]
  dsimp only
  rw[show (abs a).s=some al2 from hs]
  dsimp only
  rw[if_pos (by decide +kernel),hdr]
  rfl
 ·refine⟨aR3,rfl,?_,fun x F hF=>?_⟩
  ·have hq:({ (abs a).less idA with s:=some al3 }:Vw).stored idA=false:=by
    show V.has al3.ids idA=false
    rw[aR1]
    decide
   show (if ({ (abs a).less idA with s:=some al3 }:Vw).stored idA=true then _ else D.del a.hd idA)=[]
   rw[hq,if_neg (by decide),hhd]
   rfl
  ·change (if x=idA then none else (abs a).mem x)=some F at hF
   by_cases hx:x=idA
   ·rw[if_pos hx]at hF;cases hF
   ·rw[if_neg hx]at hF
    have h2:=h.mem x F hF
    have h3:=(aR4.gets x).2 (by rw[h2];rfl)
    rw[aQK]at h3
    rcases List.mem_cons.1 h3 with h3 | h3
    ·exact absurd h3 hx
    ·obtain rfl:x=idB:=List.mem_singleton.1 h3
     rw[aK3.2]at h2
     rw[← h2]
     exact al_g3
structure Four (s0 s1 s2 s3:S.Sto):Prop where
 start:start 9999 [] (-1) 9=some (some s0)
 b0:Base s0
 b1:Base s1
 b2:Base s2
 b3:Base s3
 p1:s0.put uS=(s1,0)
 p2:s1.put aCC=(s2,0)
 get1:s1.get (S.aU uS)=some uS∧∀ x F,x≠S.aU uS→s0.get x=some F→s1.get x=some F
 get2:s2.get (S.aU aCC)=some aCC∧∀ x F,x≠S.aU aCC→s1.get x=some F→s2.get x=some F
 ids2:∀ a,iI s2 (abs a)→C.ids a=[idA,idB]
 find2:∀ a,iI s2 (abs a)→pick a ⟨#[97]⟩ [] (aV (C.ids a) ⟨#[97]⟩)=some (idA,uS)
 find3:∀ a,iI s3 (abs a)→pick a ⟨#[97]⟩ [] (aV (C.ids a) ⟨#[97]⟩)=none
 purge:∀ a,iI s2 (abs a)→∃ u,aV (C.all a) ⟨#[97]⟩=[idA]∧(abs a).purge ⟨#[97]⟩ [idA]=(u,1,0)∧iI s3 u
theorem four:∃ s0 s1 s2 s3,Four s0 s1 s2 s3 :=
 ⟨al0,al1,al2,al3,aNX,aR6,aR5,aR4,aR3,Prod.ext rfl al_p1,Prod.ext rfl al_p2,aQM,aQL,fun _=>aK2,fun _=>aN0,fun _=>aNZ,fun _=>aNY⟩
end
end C
def C.ent (k:ByteArray) (g:Int):O.Ent:=⟨k,⟨#[]⟩,200,⟨#[]⟩,1,[],[],0,g⟩
def C.entP (k:ByteArray) (g:Int):EP:=⟨C.ent k g,none,0,none,0⟩
theorem C.entP_v (k:ByteArray) (g:Int):(C.entP k g).v=.agg #[.string k,.string ⟨#[]⟩,.int .i64 200,.string ⟨#[]⟩,.int .i64 1,.slice none 0 0,.slice none 0 0,.int .i64 0,.int .i64 g]:=rfl
theorem C.entP_own (k:ByteArray) (g:Int) (w:World) (b:Nat):gZ w b (C.entP k g):=⟨Row.none_ _ _ _ _,Row.none_ _ _ _ _⟩
theorem aBZ (k:ByteArray) (g:Int) (w:World):Calls Tryz.prog 19 #[.string k,.int .i64 g] w (fun e w'=>e=.returned (.agg #[.string k,.string ⟨#[]⟩,.int .i64 200,.string ⟨#[]⟩,.int .i64 1,.slice none 0 0,.slice none 0 0,.int .i64 0,.int .i64 g])∧Below w.heap.size w w'):=by
 obtain⟨w0,hw0⟩:∃ w0,w.alloc (.cells #[.string ⟨#[]⟩,.string ⟨#[]⟩,.int .i64 0,.string ⟨#[]⟩,.int .i64 0,.slice none 0 0,.slice none 0 0,.int .i64 0,.int .i64 0] 41)=w0:=⟨_,rfl⟩
 have hb0:Below w.heap.size w w0:=by rw[← hw0];exact (zB _ _).alloc (zA _) _
 have hk0:Blk w0 w.heap.size #[.string ⟨#[]⟩,.string ⟨#[]⟩,.int .i64 0,.string ⟨#[]⟩,.int .i64 0,.slice none 0 0,.slice none 0 0,.int .i64 0,.int .i64 0] 41:=by rw[← hw0];exact Blk.new w _ _
 obtain⟨z0,z1,z2,z3,z4,z5,z6,z7,z8⟩:=hk0.cells9
 obtain⟨r0,r1,r2,r3,r4,r5,r6,r7,r8⟩:=hk0.free9
 have HB:=aH (aN hb0 (zA _) (.string k) (.string ⟨#[]⟩) (.int .i64 200) (.string ⟨#[]⟩) (.int .i64 1) (.slice none 0 0) (.slice none 0 0) (.int .i64 0) (.int .i64 g))
 obtain⟨v0,v1,v2,v3,v4,v5,v6,v7,v8⟩:=(hk0.set9 (.string k) (.string ⟨#[]⟩) (.int .i64 200) (.string ⟨#[]⟩) (.int .i64 1) (.slice none 0 0) (.slice none 0 0) (.int .i64 0) (.int .i64 g)).cells9
 unfold nine at HB v0 v1 v2 v3 v4 v5 v6 v7 v8
 clear hb0 hk0
 go_enter Tryz.func19,Tryz.ntmps19
 go_wp2
 refine bK (v:=.agg #[.string k,.string ⟨#[]⟩,.int .i64 200,.string ⟨#[]⟩,.int .i64 1,.slice none 0 0,.slice none 0 0,.int .i64 0,.int .i64 g]) (by simp [results,Tryz.results19,go_sem,v0,v1,v2,v3,v4,v5,v6,v7,v8]) rfl ?_
 exact⟨rfl,HB.out⟩
theorem nY {w w1:World} {B:Nat} (ht:Tabs w) (hb:Below w.heap.size w w1) (hB:w.heap.size≤B):∀ u,Below B w1 u→Tabs u:=fun _ hu=>ht.below (hb.trans (hu.mono hB))
theorem aO.far9 {F F':Nat→Prop} {w w':World} {b:Nat} {cs:Array Value} {T:TypeId} (h:aO F w F' w') (hk:Blk w b cs T) (hn:¬ F b):Blk w' b cs T:=h.blk hk hn
theorem wM (w:World) (ht:Tabs w):Calls Tryz.prog 6 #[] w (qP w true):=by
 obtain⟨s0,s1,s2,s3,hfour⟩:=C.four
 have HX:=aH hfour
 have HTB:=aH ht
 have hbg:=qF 9999 none 0 [] (-1) 9 70 w (by decide) (Rd.nil _ _ _)
 rw[hfour.start]at hbg
 have HBG:=aH hbg
 dsimp only[List.length_nil]at HBG
 clear ht hbg hfour
 go_enter Tryz.func6,Tryz.ntmps6
 go_wp2_with fail
 refine HBG.out.mono ?_
 rintro e w1 ⟨B,Z,pd,rfl,hc1,hB1,hB2,hb1,hpd⟩
 obtain⟨ad,rfl⟩:=Option.isSome_iff_exists.1 (hpd rfl)
 have HC1:=aH hc1
 have HBB:=aH hB1
 have HB1:=aH hb1
 have HB2:=aH hB2
 have HS1:Hid (C.iI s0 (C.abs ⟨some s0,[],[]⟩)):=aH ⟨HX.out.b0,rfl,rfl,fun x F h=>by cases h⟩
 have HEN:=aH (fun k g u=>aBZ k g u)
 clear hc1 hB1 hB2 hb1 hpd HBG
 go_wp2_with fail
 refine (HEN.out _ _ _).mono ?_
 rintro e w2 ⟨rfl,hb2⟩
 have HC2:=aH (HC1.out.below hb2)
 have HB3:=aH (aA HB1.out.size HB1.out hb2)
 have HZ2:=aH (bD HB2.out hb2.size)
 have HSA:=aH (xG B _ w2.heap.size Z _ s0 (C.entP ⟨#[97]⟩ 1) w2 HC2.out HS1.out (by rw[show (C.entP ⟨#[97]⟩ 1).E=C.uS from rfl,HX.out.p1];exact HX.out.b1) (fun _=>by rw[show (C.entP ⟨#[97]⟩ 1).E=C.uS from rfl,HX.out.p1];exact HX.out.get1) (C.entP_own _ _ _ _) (fun k hk=>HC2.out.lt hk) (by unfold EP.lim;decide) (nY HTB.out HB3.out HBB.out) HZ2.out)
 rw[C.entP_v,show ((C.entP ⟨#[97]⟩ 1).E)=C.uS from rfl,HX.out.p1]at HSA
 dsimp only at HSA
 clear hb2 HC1 HB1 HB2
 go_wp2_with fail
 refine HSA.out.mono ?_
 rintro e w3 ⟨rfl,hb3,hx3⟩
 obtain⟨Z3,a3,hz3,hc3,hw3,hs3⟩:=hx3 (by trivial)
 rw[← hz3]
 have HC3:=aH hc3
 have HS3:Hid (C.iI s1 (C.abs a3)):=aH hs3
 have HB4:=aH (HB3.out.trans (hb3.mono HBB.out))
 have HZ3:=aH (bD HZ2.out hb3.size)
 clear hb3 hx3 hc3 hw3 hs3 hz3 HSA HC2 HB3 HS1 HZ2 Z
 go_wp2_with fail
 refine (HEN.out _ _ _).mono ?_
 rintro e w4 ⟨rfl,hb4⟩
 have HC4:=aH (HC3.out.below hb4)
 have HB5:=aH (aA HB4.out.size HB4.out hb4)
 have HZ4:=aH (bD HZ3.out hb4.size)
 have HSB:=aH (xG B _ w4.heap.size Z3 a3 s1 (C.entP ⟨#[98]⟩ 2) w4 HC4.out HS3.out (by rw[show (C.entP ⟨#[98]⟩ 2).E=C.aCC from rfl,HX.out.p2];exact HX.out.b2) (fun _=>by rw[show (C.entP ⟨#[98]⟩ 2).E=C.aCC from rfl,HX.out.p2];exact HX.out.get2) (C.entP_own _ _ _ _) (fun k hk=>HC4.out.lt hk) (by unfold EP.lim;decide) (nY HTB.out HB5.out HBB.out) HZ4.out)
 rw[C.entP_v,show ((C.entP ⟨#[98]⟩ 2).E)=C.aCC from rfl,HX.out.p2]at HSB
 dsimp only at HSB
 clear hb4 HC3 HB4 HEN HZ3
 go_wp2_with fail
 refine HSB.out.mono ?_
 rintro e w5 ⟨rfl,hb5,hx5⟩
 obtain⟨Z5,a5,hz5,hc5,hw5,hs5⟩:=hx5 (by trivial)
 rw[← hz5]
 have HC5:=aH hc5
 have HS5:Hid (C.iI s2 (C.abs a5)):=aH hs5
 have HB6:=aH (HB5.out.trans (hb5.mono HBB.out))
 have HZ5:=aH (bD HZ4.out hb5.size)
 have HID:=aH (qK B _ Z5 a5 2000 w5 hc5 (fun s hs=>by obtain rfl:s2=s:=Option.some.inj (HS5.out.st.symm.trans hs);exact HX.out.b2.fine))
 rw[HX.out.ids2 _ HS5.out]at HID
 clear hb5 hx5 hc5 hw5 hs5 hz5 HSB HC4 HB5 HS3 HZ4 Z3
 go_wp2_with fail
 refine HID.out.mono ?_
 rintro e w6 ⟨A6,c6,rfl,hr6,hb6⟩
 have hbe:Below w6.heap.size w6 (w6.alloc (.cells #[.string ⟨#[97,10]⟩,.string ⟨#[98,10]⟩] 9)):=(zB _ _).alloc (zA _) _
 have HC6:=aH ((HC5.out.below hb6).below hbe)
 have HB7:=aH (aA (bD HB6.out.size hb6.size) (aA HB6.out.size HB6.out hb6) hbe)
 have HZ6:=aH (bD (bD HZ5.out hb6.size) hbe.size)
 have HST:=aH (yX A6 (some ⟨w6.heap.size,0,none⟩) 2 c6 2 [C.idA,C.idB] _ rfl (by decide) (hr6.rd.below hbe) (Rd.newRow w6 9 #[.string ⟨#[97,10]⟩,.string ⟨#[98,10]⟩] 2 1 rfl))
 clear hr6 hb6 hbe HC5 HB6 HID HZ5
 go_wp2_with fail
 refine HST.out.mono ?_
 rintro e w7 ⟨rfl,hb7⟩
 have HC7:=aH (HC6.out.below hb7)
 have HB8:=aH (aA HB7.out.size HB7.out hb7)
 have HZ7:=aH (bD HZ6.out hb7.size)
 have HFI:=aH (xH B _ Z5 a5 s2 ⟨#[97]⟩ none 0 [] w7 HC7.out HS5.out (by decide) (by decide) (Rd.nil _ _ _) (nY HTB.out HB8.out HBB.out) HZ7.out)
 rw[HX.out.find2 _ HS5.out]at HFI
 dsimp only[List.length_nil]at HFI
 clear hb7 HC6 HB7 HST HS5 HZ6
 go_wp2_with fail
 refine HFI.out.mono ?_
 rintro e w8 ⟨q,a8,rfl,hq8,-,hc8,hw8,hs8,hb8,-⟩
 obtain⟨w9,hw9⟩:∃ w9,w8.alloc (.cells #[.string ⟨#[]⟩,.string ⟨#[]⟩,.int .i64 0,.string ⟨#[]⟩,.int .i64 0,.slice none 0 0,.slice none 0 0,.int .i64 0,.int .i64 0] 41)=w9:=⟨_,rfl⟩
 have hb9:Below w8.heap.size w8 w9:=by rw[← hw9];exact (zB _ _).alloc (zA _) _
 have hk9:Blk w9 w8.heap.size #[.string ⟨#[]⟩,.string ⟨#[]⟩,.int .i64 0,.string ⟨#[]⟩,.int .i64 0,.slice none 0 0,.slice none 0 0,.int .i64 0,.int .i64 0] 41:=by rw[← hw9];exact Blk.new w8 _ _
 obtain⟨z0,z1,z2,z3,z4,z5,z6,z7,z8⟩:=hk9.cells9
 obtain⟨r0,r1,r2,r3,r4,r5,r6,r7,r8⟩:=hk9.free9
 have hc9:=(hc8.below hb9).entry9 hk9 (.string q.E.k) (.string q.E.v) (.int .i64 q.E.s) (.string q.E.r) (.int .i64 q.E.m) (.slice q.A q.E.fs.length q.c) (.slice q.X q.E.body.length q.d) (.int .i64 q.E.asked) (.int .i64 q.E.got)
 have HB10:=aH (aN (aA (bD HB8.out.size hw8.size) (HB8.out.trans (hb8.mono HBB.out)) hb9) (bD HB8.out.size hw8.size) (.string q.E.k) (.string q.E.v) (.int .i64 q.E.s) (.string q.E.r) (.int .i64 q.E.m) (.slice q.A q.E.fs.length q.c) (.slice q.X q.E.body.length q.d) (.int .i64 q.E.asked) (.int .i64 q.E.got))
 have HK10:=aH (hk9.set9 (.string q.E.k) (.string q.E.v) (.int .i64 q.E.s) (.string q.E.r) (.int .i64 q.E.m) (.slice q.A q.E.fs.length q.c) (.slice q.X q.E.body.length q.d) (.int .i64 q.E.asked) (.int .i64 q.E.got))
 have HZ10:Hid (B≤(nine w9 w8.heap.size (.string q.E.k) (.string q.E.v) (.int .i64 q.E.s) (.string q.E.r) (.int .i64 q.E.m) (.slice q.A q.E.fs.length q.c) (.slice q.X q.E.body.length q.d) (.int .i64 q.E.asked) (.int .i64 q.E.got)).heap.size):=aH (by
  have h1:=(dQ (F:=fun k=>k=w8.heap.size) (w:=w9) (b:=w8.heap.size) rfl (.string q.E.k) (.string q.E.v) (.int .i64 q.E.s) (.string q.E.r) (.int .i64 q.E.m) (.slice q.A q.E.fs.length q.c) (.slice q.X q.E.body.length q.d) (.int .i64 q.E.asked) (.int .i64 q.E.got)).size
  have:=HZ7.out;have:=hw8.size;have:=hb9.size;omega)
 have HC10:=aH hc9
 have HS10:Hid (C.iI s2 (C.abs a8)):=aH hs8
 have HQG:Hid (q.E.got=1):=aH (by rw[hq8];rfl)
 unfold EP.v lW
 unfold nine at HB10 HK10 HZ10 HC10
 clear hq8 hc8 hw8 hs8 hb8 hb9 hk9 hc9 HFI HC7 HB8 HZ7
 go_upto_region 7 with fail
 obtain⟨w10,hw10⟩:∃ w10,(((((((((w9.setCell ⟨w8.heap.size,0,none⟩ (.string q.E.k)).setCell ⟨w8.heap.size,1,none⟩ (.string q.E.v)).setCell ⟨w8.heap.size,2,none⟩ (.int .i64 q.E.s)).setCell ⟨w8.heap.size,3,none⟩ (.string q.E.r)).setCell ⟨w8.heap.size,4,none⟩ (.int .i64 q.E.m)).setCell ⟨w8.heap.size,5,none⟩ (.slice q.A q.E.fs.length q.c)).setCell ⟨w8.heap.size,6,none⟩ (.slice q.X q.E.body.length q.d)).setCell ⟨w8.heap.size,7,none⟩ (.int .i64 q.E.asked)).setCell ⟨w8.heap.size,8,none⟩ (.int .i64 q.E.got))=w10:=⟨_,rfl⟩
 rw[hw10]at HB10 HK10 HZ10 HC10 ⊢
 clear hw9 hw10 z0 z1 z2 z3 z4 z5 z6 z7 z8 r0 r1 r2 r3 r4 r5 r6 r7 r8
 generalize w8.heap.size=b4 at *
 obtain⟨u,hall,hpu,hsu⟩:=HX.out.purge _ HS10.out
 have HPG:=aH (aDF B _ Z5 a8 ⟨#[97]⟩ w10 HC10.out (by decide) (by
  rw[hall]
  intro k hk
  rcases Nat.lt_or_ge k 1 with h1 | h1
  ·obtain rfl:k=0:=by omega
   refine⟨by show a8.hd.length≤_;rw[show a8.hd=[] from HS10.out.hd];exact zF _,fun s hs=>?_⟩
   obtain rfl:s2=s:=Option.some.inj (HS10.out.st.symm.trans hs)
   exact HX.out.b2.fine
  ·obtain rfl:k=1:=by simpa using Nat.le_antisymm hk h1
   rw[show [C.idA].take 1=[C.idA] from rfl,hpu]
   refine⟨by show u.hd.length≤_;rw[hsu.hd];exact zF _,fun s hs=>?_⟩
   obtain rfl:s3=s:=Option.some.inj (hsu.st.symm.trans hs)
   exact HX.out.b3.fine) (nY HTB.out HB10.out HBB.out) HZ10.out)
 rw[hall,hpu]at HPG
 dsimp only at HPG
 have HSU:=aH hsu
 clear hall hpu hsu HS10
 go_wp2_with fail
 refine HPG.out.mono ?_
 rintro e w11 ⟨Z11,a11,hz11,rfl,hc11,hw11,ha11,hb11⟩
 rw[← hz11]
 have HK11:=aH (hw11.blk HK10.out (HC10.out.offE HK10.out))
 have HC11:=aH hc11
 have HB11:=aH (HB10.out.trans (hb11.mono HBB.out))
 have HZ11:=aH (bD HZ10.out hw11.size)
 have HS11:Hid (C.iI s3 (C.abs a11)):=aH (by rw[ha11];exact HSU.out)
 have HF2:=aH (xH B _ Z11 a11 s3 ⟨#[97]⟩ none 0 [] w11 HC11.out HS11.out (by decide) (by decide) (Rd.nil _ _ _) (nY HTB.out HB11.out HBB.out) HZ11.out)
 rw[HX.out.find3 _ HS11.out]at HF2
 dsimp only[List.length_nil]at HF2
 clear hz11 hc11 hw11 ha11 hb11 HPG HK10 HC10 HB10 HZ10 HSU Z5
 go_wp2_with fail
 refine HF2.out.mono ?_
 rintro e w12 ⟨q2,a12,rfl,-,-,-,hw12,-,hb12,-⟩
 have HK12:=aH (hw12.blk HK11.out (HC11.out.offE HK11.out))
 have HB12:=aH (HB11.out.trans (hb12.mono HBB.out))
 obtain⟨w13,hw13⟩:∃ w13,w12.alloc (.cells #[.string ⟨#[]⟩,.string ⟨#[]⟩,.int .i64 0,.string ⟨#[]⟩,.int .i64 0,.slice none 0 0,.slice none 0 0,.int .i64 0,.int .i64 0] 41)=w13:=⟨_,rfl⟩
 have hb13:Below w12.heap.size w12 w13:=by rw[← hw13];exact (zB _ _).alloc (zA _) _
 have hk13:Blk w13 w12.heap.size #[.string ⟨#[]⟩,.string ⟨#[]⟩,.int .i64 0,.string ⟨#[]⟩,.int .i64 0,.slice none 0 0,.slice none 0 0,.int .i64 0,.int .i64 0] 41:=by rw[← hw13];exact Blk.new w12 _ _
 obtain⟨z0,z1,z2,z3,z4,z5,z6,z7,z8⟩:=hk13.cells9
 obtain⟨r0,r1,r2,r3,r4,r5,r6,r7,r8⟩:=hk13.free9
 have hne:b4≠w12.heap.size:=by have:=HK12.out.lt;omega
 have HK13:=aH ((HK12.out.below hb13).nine_far hne (.string q2.E.k) (.string q2.E.v) (.int .i64 q2.E.s) (.string q2.E.r) (.int .i64 q2.E.m) (.slice q2.A q2.E.fs.length q2.c) (.slice q2.X q2.E.body.length q2.d) (.int .i64 q2.E.asked) (.int .i64 q2.E.got))
 have HB13:=aH (aN (aA HB12.out.size HB12.out hb13) HB12.out.size (.string q2.E.k) (.string q2.E.v) (.int .i64 q2.E.s) (.string q2.E.r) (.int .i64 q2.E.m) (.slice q2.A q2.E.fs.length q2.c) (.slice q2.X q2.E.body.length q2.d) (.int .i64 q2.E.asked) (.int .i64 q2.E.got))
 unfold EP.v lW
 unfold nine at HK13 HB13
 have v8:=HK13.out.cell 8 (v:=.int .i64 q.E.got) rfl
 rw[HQG.out]at v8
 clear hw12 hb12 hb13 hk13 hne HF2 HK11 HC11 HB11 HK12 HB12
 go_upto_region 9 with fail
 obtain⟨w14,hw14⟩:∃ w14,(((((((((w13.setCell ⟨w12.heap.size,0,none⟩ (.string q2.E.k)).setCell ⟨w12.heap.size,1,none⟩ (.string q2.E.v)).setCell ⟨w12.heap.size,2,none⟩ (.int .i64 q2.E.s)).setCell ⟨w12.heap.size,3,none⟩ (.string q2.E.r)).setCell ⟨w12.heap.size,4,none⟩ (.int .i64 q2.E.m)).setCell ⟨w12.heap.size,5,none⟩ (.slice q2.A q2.E.fs.length q2.c)).setCell ⟨w12.heap.size,6,none⟩ (.slice q2.X q2.E.body.length q2.d)).setCell ⟨w12.heap.size,7,none⟩ (.int .i64 q2.E.asked)).setCell ⟨w12.heap.size,8,none⟩ (.int .i64 q2.E.got))=w14:=⟨_,rfl⟩
 rw[hw14]at HB13 v8 ⊢
 clear hw13 hw14 HK13 z0 z1 z2 z3 z4 z5 z6 z7 z8 r0 r1 r2 r3 r4 r5 r6 r7 r8
 go_wp2
 go_ret
 exact⟨rfl,HB13.out⟩
end Go.Proofs.YthjeglnkgdpijaaGreatDoor
