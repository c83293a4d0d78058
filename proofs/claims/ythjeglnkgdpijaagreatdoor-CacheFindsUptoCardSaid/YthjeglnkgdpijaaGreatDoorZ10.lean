/- A cache over a disk without faults: what it gives is what the store gives, whatever memory holds. What an entry that can be written, and a request of bounded size, are bounded by. Arguments opened: the Start of the Cache laws. Conditions: as each theorem states them. -/
import Derived.Test.YthjeglnkgdpijaaGreatDoorCacheH
import Derived.Test.YthjeglnkgdpijaaGreatDoorCacheI
set_option maxRecDepth 100000
namespace Go.Proofs.YthjeglnkgdpijaaGreatDoor
namespace S
theorem aNI {l:D.NM} {p:ByteArray × Nat} (h:p∈l):(D.del l p.1).length+1≤l.length:=by
 unfold D.del
 have:=List.length_filter_lt_length_iff_exists (l:=l) (p:=fun q:ByteArray × Nat=>decide (q.1≠p.1))
 have h2:=this.2 ⟨p,h,by simp⟩
 omega
end S
namespace C
section
variable {a b:CSt} {key:ByteArray} {ask:List FD} {v:Vw} {s:S.Sto} {n i:Nat} {l l':List It} {E:O.Ent} {id:ByteArray} {w0:World}
theorem aGW (h:∀ id,entry a id=entry b id) (l:List ByteArray):pick a key ask l=pick b key ask l:=by
 have h2:mY a key ask=mY b key ask:=by
  funext o id
  unfold mY better
  rw[h id]
 unfold pick
 rw[h2]
def aLE (a:CSt) (key:ByteArray) (ask:List FD) (id:ByteArray) (E:O.Ent):Prop:=entry a id=some E∧E.k=key∧V.matches E ask=true
theorem tY (a:CSt) (key:ByteArray) (ask:List FD) (l:List ByteArray) :
  (pick a key ask l=none∧∀ id∈l,∀ E,¬ aLE a key ask id E)∨∃ id∈l,∃ E,pick a key ask l=some (id,E)∧aLE a key ask id E∧∀ id'∈l,∀ E',aLE a key ask id' E'→E'.got≤E.got:=by
 have key2:∀ k,k≤l.length→(pick a key ask (l.take k)=none∧∀ id∈l.take k,∀ E,¬ aLE a key ask id E)∨∃ id∈l.take k,∃ E,pick a key ask (l.take k)=some (id,E)∧aLE a key ask id E∧∀ id'∈l.take k,∀ E',aLE a key ask id' E'→E'.got≤E.got:=by
  intro k
  induction k with
  | zero=>exact fun _=>.inl ⟨rfl,fun _ h=>by cases h⟩
  | succ k ih =>
   intro hk
   have hk2:k < l.length:=hk
   have ih2:=ih (Nat.le_of_lt hk2)
   rw[aBO a key ask l k hk2]
   have hmem:∀ x,x∈l.take (k+1)↔x∈l.take k∨x=l[k]:=fun x=>by rw[bI hk2,List.mem_append,List.mem_singleton]
   generalize l[k]=y at *
   generalize pick a key ask (l.take k)=o at *
   generalize l.take k=l1 at *
   generalize l.take (k+1)=l2 at *
   have hfit:∀ E,aLE a key ask y E→(o=none∨∃ b,o=some b∧b.2.got≤E.got)→mY a key ask o y=some (y,E):=fun E hE ho=>by
    obtain⟨h1,h2,h3⟩:=hE
    unfold mY better
    rw[h1]
    dsimp only
    rcases ho with rfl | ⟨b,rfl,hb⟩
    ·rw[if_pos (by simp [h2,h3])];rfl
    ·rw[if_pos (by simp [h2,h3,hb])];rfl
   have hno:(∀ E,aLE a key ask y E→∃ b,o=some b∧E.got < b.2.got)→mY a key ask o y=o:=fun h=>by
    unfold mY
    rw[if_neg]
    unfold better
    cases he:entry a y with
    | none=>simp
    | some E =>
     intro hc
     simp only[Bool.and_eq_true,decide_eq_true_eq]at hc
     obtain⟨h1,h2,h3⟩:=hc
     obtain⟨b,rfl,hb⟩:=h E ⟨he,h1,h2⟩
     have:=of_decide_eq_true h3
     omega
   by_cases hy:∃ E,aLE a key ask y E
   ·obtain⟨E,hE⟩:=hy
    have huniq:∀ E',aLE a key ask y E'→E'=E:=fun E' h'=>Option.some.inj (h'.1.symm.trans hE.1)
    right
    rcases ih2 with ⟨h1,h2⟩ | ⟨id,h1,E2,h2,h3,h4⟩
    ·refine⟨y,(hmem y).2 (.inr rfl),E,hfit E hE (.inl h1),hE,fun id' hid E' hE'=>?_⟩
     rcases (hmem id').1 hid with hid | rfl
     ·exact absurd hE' (h2 id' hid E')
     ·rw[huniq E' hE'];exact Int.le_refl _
    ·by_cases hge:E2.got≤E.got
     ·refine⟨y,(hmem y).2 (.inr rfl),E,hfit E hE (.inr ⟨_,h2,hge⟩),hE,fun id' hid E' hE'=>?_⟩
      rcases (hmem id').1 hid with hid | rfl
      ·exact Int.le_trans (h4 id' hid E' hE') hge
      ·rw[huniq E' hE'];exact Int.le_refl _
     ·refine⟨id,(hmem id).2 (.inl h1),E2,?_,h3,fun id' hid E' hE'=>?_⟩
      ·rw[hno (fun E' hE'=>⟨_,h2,by rw[huniq E' hE'];show E.got < E2.got;omega⟩),h2]
      ·rcases (hmem id').1 hid with hid | rfl
       ·exact h4 id' hid E' hE'
       ·rw[huniq E' hE'];omega
   ·have hn:mY a key ask o y=o:=hno (fun E hE=>absurd ⟨E,hE⟩ hy)
    rw[hn]
    rcases ih2 with ⟨h1,h2⟩ | ⟨id,h1,E2,h2,h3,h4⟩
    ·refine .inl ⟨h1,fun id hid E hE=>?_⟩
     rcases (hmem id).1 hid with hid | rfl
     ·exact h2 id hid E hE
     ·exact hy ⟨E,hE⟩
    ·refine .inr ⟨id,(hmem id).2 (.inl h1),E2,h2,h3,fun id' hid E' hE'=>?_⟩
     rcases (hmem id').1 hid with hid | rfl
     ·exact h4 id' hid E' hE'
     ·exact absurd ⟨E',hE'⟩ hy
 have:=key2 l.length (zA _)
 rwa [List.take_length]at this
structure Base (s:S.Sto):Prop where
 fine:Fine 2000 s
 gets:∀ x,x∈s.ids↔(s.get x).isSome=true
 encs:∀ id E,s.get id=some E→S.gU E=0∧S.aU E=id
structure iI (s:S.Sto) (v:Vw):Prop where
 base:Base s
 st:v.s=some s
 hd:v.hd=[]
 mem:∀ id E,v.mem id=some E→s.get id=some E
theorem iI.entry (h:iI s v) (id:ByteArray):v.entry id=s.get id:=by
 unfold Vw.entry
 cases hm:v.mem id with
 | some E=>exact (h.mem id E hm).symm
 | none =>
  dsimp only
  rw[h.st]
theorem iI.entry2 (h:iI s (abs a)) (id:ByteArray):C.entry a id=s.get id:=(aCT a id).symm.trans (h.entry id)
theorem aMF {x:ByteArray} (h:x∈Lr.ids l):(Lr.peek l x).isSome=true:=by
 obtain⟨y,hy,rfl⟩:=List.mem_map.1 h
 unfold Lr.peek
 rw[List.find?_isSome]
 exact⟨y,hy,by simp⟩
theorem iI.all (h:iI s (abs a)):C.all a=setB s.ids:=by
 refine kN (by unfold C.all;exact iT _) (iT _) (fun x=>?_)
 unfold C.all
 rw[iD,iD,List.mem_append]
 have hs:a.s=some s:=h.st
 rw[hs]
 refine⟨fun hx=>hx.elim (fun hx=>?_) id,.inr⟩
 obtain⟨y,hy⟩:=Option.isSome_iff_exists.1 (aMF hx)
 rw[h.base.gets,h.mem x y.p.E (by show (Lr.peek a.l x).map _=_;rw[hy];rfl)]
 rfl
theorem iI.ids (h:iI s (abs a)):C.ids a=setB s.ids:=by
 rw[← h.all]
 unfold C.ids
 refine List.filter_eq_self.2 (fun x _=>?_)
 unfold gone
 have hd:a.hd=[]:=h.hd
 rw[hd]
 rfl
theorem iI.same (h:iI s (abs a)) (h':iI s (abs b)) (key:ByteArray) (ask:List FD):pick a key ask (aV (C.ids a) key)=pick b key ask (aV (C.ids b) key):=by
 rw[h.ids,h'.ids]
 exact aGW (fun id=>(h.entry2 id).trans (h'.entry2 id).symm) _
theorem iI.found (h:iI s (abs a)) (he:C.entry a id=some E) (hl:pV w0 a.l l' id E):iI s (abs { a with l:=l' }) :=
 ⟨h.base,h.st,h.hd,fun x F hF=>by
  change (Lr.peek l' x).map (·.p.E)=some F at hF
  rcases hl.1 x with h1 | ⟨h1,h2⟩ | ⟨rfl,y,h1,h2⟩
  ·rw[h1]at hF;cases hF
  ·rw[h2]at hF;exact h.mem x F hF
  ·rw[h1]at hF
   have:y.p.E=F:=Option.some.inj hF
   rw[← this,h2,← h.entry2,he]⟩
theorem iI.save (h:iI s (abs a)) (hb:Base (s.put E).1) (hE:(s.put E).1.get (S.aU E)=some E) (hk:∀ x F,x≠S.aU E→s.get x=some F→(s.put E).1.get x=some F) (hl:pV w0 a.l l' (S.aU E) E) (h0:(s.put E).2=0) :
  iI (s.put E).1 (abs (C.hide ⟨some (s.put E).1,l',a.hd⟩ (S.aU E) (decide ((s.put E).2≠0)))):=by
 have hd:a.hd=[]:=h.hd
 refine⟨hb,rfl,?_,fun x F hF=>?_⟩
 ·unfold abs C.hide
  dsimp only
  rw[h0,hd]
  rfl
 ·change (Lr.peek l' x).map (·.p.E)=some F at hF
  rcases hl.1 x with h1 | ⟨h1,h2⟩ | ⟨rfl,y,h1,h2⟩
  ·rw[h1]at hF;cases hF
  ·rw[h2]at hF
   exact hk x F h1 (h.mem x F hF)
  ·rw[hE,← h2]
   rw[h1]at hF
   exact hF
structure Snd (n i:Nat) (s:S.Sto) (v:Vw):Prop where
 st:v.s=some s
 keeps:S.bV n i (i * 521100) s
 fit:D.Fit (3+13 * i) s.d
 hd:v.hd=[]
 mem:∀ id E,v.mem id=some E→s.get id=some E
theorem aJ8 (hk:S.bV n i (i * 521100) s) (hf:D.Fit (3+13 * i) s.d) (hi:i≤100):Fine 2000 s :=
 ⟨hf.mono (by omega),hk.up,by have:=hk.len;omega,fun p hp=>by have:=(hk.tab p hp).2.1;omega,fun p hp=>by rw[hk.used,S.cZ];exact (hk.tab p hp).1,by rw[hk.used,S.cZ];exact hk.le,by have:=hk.count;omega⟩
theorem aD8 (h:S.bV n i (i * 521100) s) (x:ByteArray):x∈s.ids↔(s.get x).isSome=true:=by
 rw[h.get_some]
 unfold S.Sto.ids
 rw[List.mem_map,D.fH]
 exact⟨fun⟨p,hp,e⟩=>⟨p.2,e ▸ hp⟩,fun⟨no,hp⟩=>⟨_,hp,rfl⟩⟩
theorem aM6 (h:S.bV n i (i * 521100) s) {id:ByteArray} {E:O.Ent} (hg:s.get id=some E):S.gU E=0∧S.aU E=id:=by
 rw[h.get]at hg
 cases hf:D.find s.tab id with
 | none=>rw[hf]at hg;cases hg
 | some no =>
  rw[hf]at hg
  dsimp only at hg
  obtain⟨_,_,E2,t3,t4,t5⟩:=h.tab _ (D.aI hf)
  rw[show D.cont s.d (S.path no)=some (S.gY E2) from t3]at hg
  have h2:O.dec (S.gY E2)=some E:=hg
  rw[S.kZ t4]at h2
  obtain rfl:E2=E:=Option.some.inj h2
  exact⟨t4,t5⟩
theorem base_of (hk:S.bV n i (i * 521100) s) (hf:D.Fit (3+13 * i) s.d) (hi:i≤100):Base s:=⟨aJ8 hk hf hi,aD8 hk,fun _ _=>aM6 hk⟩
theorem Snd.s0 (h:Snd n i s v) (hi:i≤100):iI s v:=⟨base_of h.keeps h.fit hi,h.st,h.hd,h.mem⟩
theorem Snd.fine (h:Snd n i s v) (hi:i≤100):Fine 2000 s:=aJ8 h.keeps h.fit hi
theorem Snd.entry (h:Snd n i s v) (id:ByteArray):v.entry id=s.get id:=by
 unfold Vw.entry
 cases hm:v.mem id with
 | some E=>exact (h.mem id E hm).symm
 | none =>
  dsimp only
  rw[h.st]
theorem Snd.puts (h:Snd n i s v) (hi:i+1≤100) (E:O.Ent):Base (s.put E).1∧((s.put E).2=0→S.bV n (i+1) ((i+1) * 521100) (s.put E).1∧D.Fit (3+13 * (i+1)) (s.put E).1.d∧∀ id,(s.put E).1.get id=if id=S.aU E then some E else s.get id):=by
 rcases h.keeps.put hi (by omega) E with ⟨h1,h2⟩ | ⟨h1,h2,h3,h4⟩
 ·rw[h2]
  exact⟨base_of h.keeps h.fit (by omega),fun h0=>absurd h0 h1⟩
 ·have hf:D.Fit (3+13 * (i+1)) (s.put E).1.d:=(S.oH h.fit E).mono (by omega)
  have hk:S.bV n (i+1) ((i+1) * 521100) (s.put E).1:=h3.mono (zA _) (by omega)
  exact⟨base_of hk hf hi,fun _=>⟨hk,hf,h4⟩⟩
theorem Snd.purge1 {v1 v2:Vw} (h1:Snd n i s v1) (h2:Snd n i s v2) (hb:i+s.tab.length≤100) (key id:ByteArray) (c:Nat) (f:Int) :
  ∃ s' i' c' f' u1 u2,Vw.purge1 key (v1,c,f) id=(u1,c',f')∧Vw.purge1 key (v2,c,f) id=(u2,c',f')∧Snd n i' s' u1∧Snd n i' s' u2∧i'+s'.tab.length≤i+s.tab.length∧(f=0→f'=0)∧(∀ x,s'.get x=if x=id∧v1.apart key id=false then none else s.get x):=by
 have hap:∀ v:Vw,Snd n i s v→v.apart key id=(match s.get id with | some E=>decide (E.k≠key) | none=>false):=fun v h=>by unfold Vw.apart;rw[h.entry];rfl
 have less:∀ v:Vw,Snd n i s v→∀ x F,(v.less id).mem x=some F→x≠id∧s.get x=some F:=fun v h x F hF=>by
  change (if x=id then none else v.mem x)=some F at hF
  by_cases hx:x=id
  ·rw[if_pos hx]at hF;cases hF
  ·rw[if_neg hx]at hF;exact⟨hx,h.mem x F hF⟩
 cases ha:v1.apart key id with
 | true =>
  have ha2:v2.apart key id=true:=(hap v2 h2).trans ((hap v1 h1).symm.trans ha)
  refine⟨s,i,c,f,v1,v2,?_,?_,h1,h2,zA _,fun h=>h,fun x=>by rw[if_neg (fun h=>by cases h.2)]⟩
  ·unfold Vw.purge1;rw[if_pos ha]
  ·unfold Vw.purge1;rw[if_pos ha2]
 | false =>
  have ha2:v2.apart key id=false:=(hap v2 h2).trans ((hap v1 h1).symm.trans ha)
  cases hst:V.has s.ids id with
  | false =>
   have hg:s.get id=none:=by
    cases hg:s.get id with
    | none=>rfl
    | some E =>
     have:=(aD8 h1.keeps id).2 (by rw[hg];rfl)
     rw[V.has_iff.2 this]at hst
     cases hst
   refine⟨s,i,c+1,f,v1.less id,v2.less id,?_,?_,⟨h1.st,h1.keeps,h1.fit,h1.hd,fun x F hF=>(less v1 h1 x F hF).2⟩,⟨h2.st,h2.keeps,h2.fit,h2.hd,fun x F hF=>(less v2 h2 x F hF).2⟩,zA _,fun h=>h,fun x=>?_⟩
   ·unfold Vw.purge1
    rw[if_neg (by rw[ha];decide)]
    dsimp only
    rw[h1.st]
    dsimp only
    rw[if_neg (by rw[hst];decide)]
   ·unfold Vw.purge1
    rw[if_neg (by rw[ha2];decide)]
    dsimp only
    rw[h2.st]
    dsimp only
    rw[if_neg (by rw[hst];decide)]
   ·by_cases hx:x=id
    ·rw[if_pos ⟨hx,rfl⟩,hx,hg]
    ·rw[if_neg (fun h=>hx h.1)]
  | true =>
   obtain⟨p,hp,hpe⟩:=List.mem_map.1 (V.has_iff.1 hst)
   have hfd:D.find s.tab id=some p.2:=by rw[← hpe];exact D.dM h1.keeps.up hp
   have hdl:=S.aNI hp
   rw[hpe]at hdl
   obtain⟨d1,d2,d3⟩:=h1.keeps.drop (by omega) (by have:=h1.keeps.len;omega) hfd
   have hfit:=S.aAE h1.fit id
   have htab:(s.drop id).1.tab.length+1≤s.tab.length:=by
    obtain⟨dd,ad,_⟩:=h1.keeps.drop0 (by omega) (by have:=h1.keeps.len;omega) hfd
    unfold S.Sto.drop
    rw[hfd]
    dsimp only
    rw[ad]
    dsimp only
    rw[if_neg (by omega),S.aEV]
    exact hdl
   have hnh:V.has (s.drop id).1.ids id=false:=by
    cases hh:V.has (s.drop id).1.ids id with
    | false=>rfl
    | true =>
     have:=(aD8 (i:=i+1) (d2.mono (zA _) (by omega)) id).1 (V.has_iff.1 hh)
     rw[d3,if_pos rfl]at this
     cases this
   have hK:S.bV n (i+1) ((i+1) * 521100) (s.drop id).1:=d2.mono (zA _) (by omega)
   have hstep:∀ v:Vw,Snd n i s v→v.apart key id=false→Vw.purge1 key (v,c,f) id=(({ v.less id with s:=some (s.drop id).1 }:Vw).hide id,c+1,if f=0 then 0 else f)∧Snd n (i+1) (s.drop id).1 (({ v.less id with s:=some (s.drop id).1 }:Vw).hide id):=fun v hv hva=>by
    refine⟨?_,⟨rfl,hK,hfit.mono (by omega),?_,fun x F hF=>?_⟩⟩
    ·unfold Vw.purge1
     rw[if_neg (by rw[hva];decide)]
     dsimp only
     rw[hv.st]
     dsimp only
     rw[if_pos hst,d1]
    ·have hq:({ v.less id with s:=some (s.drop id).1 }:Vw).stored id=false:=hnh
     show (if ({ v.less id with s:=some (s.drop id).1 }:Vw).stored id=true then _ else D.del v.hd id)=[]
     rw[hq,if_neg (by decide),hv.hd]
     rfl
    ·obtain⟨hx,hg⟩:=less v hv x F hF
     rw[d3,if_neg hx]
     exact hg
   obtain⟨p1,p2⟩:=hstep v1 h1 ha
   obtain⟨q1,q2⟩:=hstep v2 h2 ha2
   refine⟨_,i+1,_,_,_,_,p1,q1,p2,q2,by omega,fun h=>by rw[if_pos h],fun x=>?_⟩
   rw[d3]
   by_cases hx:x=id
   ·rw[if_pos hx,if_pos ⟨hx,rfl⟩]
   ·rw[if_neg hx,if_neg (fun h=>hx h.1)]
end
end C
theorem aGU (c:UInt8):∀ (n:Nat) (q:Bool) (cur l:List UInt8),l.length≤n→((T.pieces c q cur l).map List.length).sum≤cur.length+l.length:=by
 intro n
 induction n with
 | zero =>
  intro q cur l h
  have:l=[]:=List.eq_nil_of_length_eq_zero (by omega)
  subst this
  simp [T.pieces]
 | succ n ih =>
  intro q cur l h
  cases l with
  | nil=>simp [T.pieces]
  | cons x r =>
   rw[T.jK]
   simp only[List.length_cons]at h ⊢
   split
   ·cases r with
    | nil=>simp
    | cons y r' =>
     have:=ih q (cur++[x,y]) r' (by simp at h;omega)
     simp only[bC,List.length_cons,List.length_nil]at this ⊢;omega
   ·split
    ·have:=ih (!q) (cur++[x]) r (by omega)
     simp only[bC,List.length_cons,List.length_nil]at this;omega
    ·split
     ·have:=ih q [] r (by omega)
      simp only[List.map_cons,List.sum_cons,List.length_nil]at this ⊢;omega
     ·have:=ih q (cur++[x]) r (by omega)
      simp only[bC,List.length_cons,List.length_nil]at this;omega
theorem xA {α:Type} (f:α→Nat) (p:α→Bool):∀ l:List α,((l.filter p).map f).sum≤(l.map f).sum
 | []=>zA _
 | x::l=>by
  have:=xA f p l
  rw[List.filter_cons]
  split<;>simp only[List.map_cons,List.sum_cons]<;>omega
theorem nZ {α:Type} (f g:α→Nat) (h:∀ x,f x≤g x):∀ l:List α,(l.map f).sum≤(l.map g).sum
 | []=>zA _
 | x::l=>by
  have:=nZ f g h l
  have:=h x
  simp only[List.map_cons,List.sum_cons];omega
theorem aMS (s:ByteArray):((F.list s).map ByteArray.size).sum≤s.size:=by
 unfold F.list
 refine bD (xA _ _ _) ?_
 unfold F.split
 rw[List.map_map]
 have h1:=nZ (ByteArray.size∘fun p=>B (T.trim p)) List.length (fun p=>by show (B (T.trim p)).size≤_;rw[iZ];exact T.yQ p) (T.pieces 44 false [] (L s))
 have h2:=aGU 44 _ false [] (L s) (zA _)
 rw[List.length_nil,Nat.zero_add,← aS]at h2
 omega
theorem uT (nm:ByteArray):∀ ask:List FD,((V.elems ask nm).map ByteArray.size).sum+(V.elems ask nm).length≤2 * F.bulk ask
 | []=>zA _
 | f::l=>by
  have ih:=uT nm l
  have h1:=aMS f.2
  have h2:=aFG f.2
  unfold V.elems F.values at ih ⊢
  rw[List.filter_cons]
  simp only[F.bulk]
  split
  ·rw[List.map_cons,List.flatMap_cons,List.map_append,List.sum_append,bC];omega
  ·omega
theorem aP4 (l:List (List UInt8)):(Lib.join l [44]).length≤(l.map List.length).sum+l.length:=by
 cases l with
 | nil=>exact zF _
 | cons x r =>
  rw[Lib.join_length]
  have e:Lib.lens (x::r)=((x::r).map List.length).sum:=rfl
  rw[e]
  simp only[List.length_cons,List.length_nil,Nat.zero_add,Nat.one_mul]
  omega
theorem aP2 (ask:List FD) (nm:ByteArray):(V.line ask nm).length≤nm.size+2 * F.bulk ask+2:=by
 have h1:=uT nm ask
 have h2:=aP4 ((V.elems ask nm).map L)
 rw[List.map_map,List.length_map]at h2
 have h3:=nZ (List.length∘L) ByteArray.size (fun x=>by show (L x).length≤_;rw[← aS];exact zA _) (V.elems ask nm)
 unfold V.line T.fold
 rw[bC,bC,List.length_map,← aS]
 split
 ·simp only[List.length_cons,List.length_nil];omega
 ·simp only[List.length_cons,List.length_nil];omega
theorem aOL (ask:List FD) (K:Nat):∀ l:List ByteArray,(∀ x∈l,x.size≤K)→(V.key l ask).length≤l.length * (K+2 * F.bulk ask+2)
 | [],_=>zF _
 | x::l,h=>by
  have ih:=aOL ask K l (fun y hy=>h y (List.mem_cons_of_mem _ hy))
  have h1:=aP2 ask x
  have h2:=h x (by simp)
  unfold V.key at ih ⊢
  rw[List.flatMap_cons,bC,List.length_cons,Nat.add_mul,Nat.one_mul]
  omega
theorem yK:∀ fs:List FD,F.bulk fs≤(F.lines fs).length
 | []=>zA _
 | f::l=>by
  have:=yK l
  have h:=F.zN f
  unfold F.lines at this ⊢
  rw[List.flatMap_cons,bC,h]
  simp only[F.bulk]
  omega
theorem aGN {s:Int} {r:ByteArray} {m:Int} {fs:List FD} (h:F.gW s r m fs=0):F.bulk fs≤8192∧r.size≤8192:=by
 unfold F.gW at h
 split at h
 ·cases h
 split at h
 ·cases h
 unfold F.dP at h
 split at h
 ·split at h
  ·cases h
  ·have h1:=yK fs
   have h2:r.size≤(F.bG s r m).length:=by
    unfold F.bG
    rw[bC,← aS]
    omega
   omega
 ·rename_i hp
  exact absurd h hp
theorem aKF {E:O.Ent} (h:S.gU E=0):F.bulk E.fs≤8192∧E.r.size≤8192∧E.k.size≤4096∧E.v.size≤4096∧E.body.length≤65536:=by
 obtain⟨h1,h2,_⟩:=O.gB (S.kZ h)
 have ht:=O.nX h1 h2
 obtain⟨a1,a2⟩:=aGN ht.ok
 obtain⟨b1,b2,b3,_⟩:=gQ ht.okE
 exact⟨a1,a2,b1,b2,b3⟩
theorem enc_good {E:O.Ent} {ask:List FD} (h:S.gU E=0) (hb:F.bulk ask≤1048576):C.Good ask E:=by
 obtain⟨h1,h2,h3,h4,h5⟩:=aKF h
 have hl:=F.bU E.fs
 have ha:=F.bU ask
 have ht:=aLX E.fs V.vary
 refine⟨h,⟨by omega,jF (by omega),by omega,by omega,jF (by omega),fun l hl=>?_⟩,by omega,by omega,by omega⟩
 unfold V.names at hl
 split at hl
 ·cases hl
 injection hl with hl
 have hmem:∀ x∈l,x.size≤8192:=fun x hx=>by
  rw[← hl,iD]at hx
  exact bD (aMM hx) h1
 have hlen:l.length≤8192:=by
  rw[← hl]
  unfold setB
  refine bD (uZ _) ?_
  rw[sU]
  omega
 refine⟨by omega,fun x hx=>⟨by have:=hmem x hx;omega,by have:=uT x ask;omega⟩,?_⟩
 have h6:=aOL ask 8192 l hmem
 have h7:l.length * (8192+2 * F.bulk ask+2)≤8192 * (8192+2 * 1048576+2):=Nat.mul_le_mul hlen (by omega)
 omega
namespace C
theorem iI.good {s:S.Sto} {a:CSt} {ask:List FD} (h:iI s (abs a)) (hb:F.bulk ask≤1048576):∀ id E,C.entry a id=some E→C.Good ask E:=fun id E he=>enc_good (h.base.encs id E ((h.entry2 id).symm.trans he)).1 hb
end C
open Go.ChangeShapes Go.WideShapes Go.ChangeAt Go.RowKit Go.Deep
theorem aE0:Tryz.prog.underlying 25=some (.struct (Tryz.prog.fieldsOf 25)):=by kernel_rfl
theorem aDA:Tryz.prog.cellsOf 25=6:=by kernel_rfl
theorem jE:(Tryz.prog.fieldsOf 25).map (fun f=>(f.type,f.offset))=#[(22,0),(3,1),(23,2),(3,3),(3,4),(3,5)]:=by kernel_rfl
theorem aNA:Tryz.prog.underlying 22=some (.slice 97):=by kernel_rfl
theorem aED:Tryz.prog.cellsOf 22=1∧Tryz.prog.cellsOf 23=1:=⟨by kernel_rfl,by kernel_rfl⟩
theorem aRZ:Tryz.prog.cellsOf 3=1:=by kernel_rfl
section
variable {H:Type} {enc:TypeId × Value→H} {W:World} {base:Nat} {held:Bool}
theorem aA6 {fuel:Nat} {v:Value} {x:DataW H × List MemPlace} (h:DataW.trod enc Tryz.prog W base (fun _=>true) held fuel 23 [v]=some x):∃ A n c,v=.slice A n c:=by
 rcases open_slice Tryz.underlying23 h with ⟨h0,_⟩ | ⟨a,len,cap,m,k,D,Pl,hcs,_⟩
 ·exact⟨_,_,_,by simpa using h0⟩
 ·exact⟨_,_,_,by simpa using hcs⟩
theorem wJ {A:Option Addr} {n c:Nat} {fuel:Nat} {x:DataW H × List MemPlace} (hf:DataW.trod enc Tryz.prog W base (fun _=>true) held fuel 23 [.slice A n c]=some x) :
  ∃ zs:List Int,zs.length=n∧Rd W A n 1 (dS zs)∧zs.length≤Rows.uptoBulk x.1:=by
 obtain⟨d,p⟩:=x
 rcases open_ints Tryz.underlying23 Tryz.underlying3 aRZ hf with ⟨h0,_⟩ | ⟨a,len,cap,zs,hcs,_,hl,hm,hz,hd,hcell,hwf⟩
 ·simp only[List.cons.injEq,Value.slice.injEq,and_true]at h0
  obtain⟨rfl,rfl,rfl⟩:=h0
  exact⟨[],rfl,Rd.nil _ _ _,zF _⟩
 ·simp only[List.cons.injEq,Value.slice.injEq,and_true]at hcs
  obtain⟨rfl,rfl,rfl⟩:=hcs
  simp only[if_true]at hz
  refine⟨zs.take n,by simp;omega,?_,?_⟩
  ·refine⟨by simp [dS];omega,fun hn=>?_⟩
   have h0:=hcell 0 (by omega)
   have hspot:(a.add 0).spot=none:=World.cell?_spot h0
   obtain⟨b,o,sp⟩:=a
   have:sp=none:=by cases sp<;>simp_all [Addr.add]
   subst this
   have ea:∀ k,(⟨b,o,none⟩:Addr).add k=⟨b,o+k,none⟩:=fun k=>by unfold Addr.add;split<;>simp_all
   refine⟨b,o,rfl,World.block_lt_of_cell? W _ h0,fun j u hu=>?_⟩
   unfold dS at hu
   have hj:j < n:=by
    have:=(List.getElem?_eq_some_iff.1 hu).1
    simp at this
    omega
   have h1:=hcell j (by omega)
   rw[ea]at h1
   rw[h1]
   have e:zs.getD j 0=zs[j]'(by omega):=by simp [List.getD,List.getElem?_eq_getElem (show j < zs.length by omega)]
   rw[e]
   simp [hj,List.getElem?_eq_getElem (show j < zs.length by omega)]at hu
   rw[← hu]
  ·have hd2:=congrArg Prod.fst hd
   dsimp only at hd2 ⊢
   rw[hd2]
   simp only[Rows.uptoBulk,vJ,List.length_take]
   omega
theorem aGX {r:Reach} {b0:Nat} {v:Value} {d:DataW H} {p:List MemPlace} (hv:Value.okWide Tryz.prog W r b0 25 v) (h:DataW.Trod enc Tryz.prog W base (fun _=>true) held 25 v d p) :
  ∃ FA fn fc space A n c power slots mem,∃ zs:List Int,v=.agg #[.slice FA fn fc,.int .i64 space,.slice A n c,.int .i64 power,.int .i64 slots,.int .i64 mem]∧zs.length=n∧Rd W A n 1 (dS zs)∧zs.length≤Rows.uptoBulk d:=by
 obtain⟨cs,rfl,hcs⟩:=okWide_struct aE0 hv
 rw[aDA]at hcs
 obtain⟨a0,a1,a2,a3,a4,a5,rfl⟩:∃ a0 a1 a2 a3 a4 a5,cs=#[a0,a1,a2,a3,a4,a5]:=by
  obtain⟨l⟩:=cs
  match l,hcs with
  | [a0,a1,a2,a3,a4,a5],_=>exact⟨a0,a1,a2,a3,a4,a5,rfl⟩
 obtain⟨fuel,hf⟩:=h
 obtain⟨xs,n,rfl,hx,_,hxl,hall⟩:=DataW.trod_struct aE0 hf
 obtain⟨c1,c2,c3,c4⟩:=cells_one
 obtain⟨c5,c6⟩:=aED
 obtain⟨g0,e0,t0,o0⟩:=bQ jE 0 _ _ rfl
 obtain⟨g1,e1,t1,o1⟩:=bQ jE 1 _ _ rfl
 obtain⟨g2,e2,t2,o2⟩:=bQ jE 2 _ _ rfl
 obtain⟨g3,e3,t3,o3⟩:=bQ jE 3 _ _ rfl
 obtain⟨g4,e4,t4,o4⟩:=bQ jE 4 _ _ rfl
 obtain⟨g5,e5,t5,o5⟩:=bQ jE 5 _ _ rfl
 have h0:=hall 0 g0 e0
 have h1:=hall 1 g1 e1
 have h2:=hall 2 g2 e2
 have h3:=hall 3 g3 e3
 have h4:=hall 4 g4 e4
 have h5:=hall 5 g5 e5
 rw[t0,o0,c5]at h0
 rw[t1,o1,c2]at h1
 rw[t2,o2,c6]at h2
 rw[t3,o3,c2]at h3
 rw[t4,o4,c2]at h4
 rw[t5,o5,c2]at h5
 have hz:(Tryz.prog.fieldsOf 25).size=6:=by have:=congrArg Array.size jE;simpa using this
 rw[hz]at hxl
 obtain⟨y0,y1,y2,y3,y4,y5,rfl⟩:∃ y0 y1 y2 y3 y4 y5,xs=[y0,y1,y2,y3,y4,y5]:=by
  match xs,hxl with
  | [y0,y1,y2,y3,y4,y5],_=>exact⟨y0,y1,y2,y3,y4,y5,rfl⟩
 change DataW.trod _ _ _ _ _ _ _ _ [a0]=some y0 at h0
 change DataW.trod _ _ _ _ _ _ _ _ [a1]=some y1 at h1
 change DataW.trod _ _ _ _ _ _ _ _ [a2]=some y2 at h2
 change DataW.trod _ _ _ _ _ _ _ _ [a3]=some y3 at h3
 change DataW.trod _ _ _ _ _ _ _ _ [a4]=some y4 at h4
 change DataW.trod _ _ _ _ _ _ _ _ [a5]=some y5 at h5
 obtain⟨FA,fn,fc,rfl⟩:∃ A n c,a0=.slice A n c:=by
  rcases open_slice aNA h0 with ⟨h0,_⟩ | ⟨a,len,cap,m,k,D,Pl,hcs,_⟩
  ·exact⟨_,_,_,by simpa using h0⟩
  ·exact⟨_,_,_,by simpa using hcs⟩
 obtain⟨s1,r1,rfl,_⟩:=DataW.trod_int Tryz.underlying3 h1
 obtain⟨A,m,c,rfl⟩:=aA6 h2
 obtain⟨zs,l1,l2,l3⟩:=wJ h2
 obtain⟨s3,r3,rfl,_⟩:=DataW.trod_int Tryz.underlying3 h3
 obtain⟨s4,r4,rfl,_⟩:=DataW.trod_int Tryz.underlying3 h4
 obtain⟨s5,r5,rfl,_⟩:=DataW.trod_int Tryz.underlying3 h5
 simp only[List.cons.injEq,and_true]at r1 r3 r4 r5
 subst r1 r3 r4 r5
 refine⟨FA,fn,fc,s1,A,m,c,s3,s4,s5,zs,rfl,l1,l2,?_⟩
 have hd:=congrArg Prod.fst hx
 dsimp only at hd
 rw[hd]
 simp only[List.map_cons,List.map_nil,Rows.uptoBulk,Rows.uptoBulkAll]
 omega
end
end Go.Proofs.YthjeglnkgdpijaaGreatDoor
