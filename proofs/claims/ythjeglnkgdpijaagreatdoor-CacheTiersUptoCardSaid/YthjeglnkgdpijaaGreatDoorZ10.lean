/- What an entry that can be written, and a request of bounded size, are bounded by. Save, Find at a sound cache; the states of the Cache laws' first script. The walks of the Cache laws' cut and feeds. Conditions: as each theorem states them. -/
import Derived.Test.YthjeglnkgdpijaaGreatDoorZ09
set_option maxHeartbeats 2000000
set_option maxRecDepth 100000
namespace Go.Proofs.YthjeglnkgdpijaaGreatDoor
theorem aFW (c:UInt8):∀ (n:Nat) (q:Bool) (cur l:List UInt8),l.length≤n→((T.pieces c q cur l).map List.length).sum≤cur.length+l.length:=by
 intro n
 induction n with
 | zero =>
  intro q cur l h
  have:l=[]:=List.eq_nil_of_length_eq_zero (by omega)
  subst this
  simp [T.pieces]
 | succ n ih =>
  intro q cur l h
  cases l with
  | nil=>simp [T.pieces]
  | cons x r =>
   rw[T.iY]
   simp only[List.length_cons]at h ⊢
   split
   ·cases r with
    | nil=>simp
    | cons y r' =>
     have:=ih q (cur++[x,y]) r' (by simp at h;omega)
     simp only[bC,List.length_cons,List.length_nil]at this ⊢;omega
   ·split
    ·have:=ih (!q) (cur++[x]) r (by omega)
     simp only[bC,List.length_cons,List.length_nil]at this;omega
    ·split
     ·have:=ih q [] r (by omega)
      simp only[List.map_cons,List.sum_cons,List.length_nil]at this ⊢;omega
     ·have:=ih q (cur++[x]) r (by omega)
      simp only[bC,List.length_cons,List.length_nil]at this;omega
theorem wF {α:Type} (f:α→Nat) (p:α→Bool):∀ l:List α,((l.filter p).map f).sum≤(l.map f).sum
 | []=>zA _
 | x::l=>by
  have:=wF f p l
  rw[List.filter_cons]
  split<;>simp only[List.map_cons,List.sum_cons]<;>omega
theorem nJ {α:Type} (f g:α→Nat) (h:∀ x,f x≤g x):∀ l:List α,(l.map f).sum≤(l.map g).sum
 | []=>zA _
 | x::l=>by
  have:=nJ f g h l
  have:=h x
  simp only[List.map_cons,List.sum_cons];omega
theorem aLQ (s:ByteArray):((F.list s).map ByteArray.size).sum≤s.size:=by
 unfold F.list
 refine bD (wF _ _ _) ?_
 unfold F.split
 rw[List.map_map]
 have h1:=nJ (ByteArray.size∘fun p=>B (T.trim p)) List.length (fun p=>by show (B (T.trim p)).size≤_;rw[iK];exact T.xU p) (T.pieces 44 false [] (L s))
 have h2:=aFW 44 _ false [] (L s) (zA _)
 rw[List.length_nil,Nat.zero_add,← aQ]at h2
 omega
theorem uB (nm:ByteArray):∀ ask:List FD,((V.elems ask nm).map ByteArray.size).sum+(V.elems ask nm).length≤2 * F.bulk ask
 | []=>zA _
 | f::l=>by
  have ih:=uB nm l
  have h1:=aLQ f.2
  have h2:=aEL f.2
  unfold V.elems F.values at ih ⊢
  rw[List.filter_cons]
  simp only[F.bulk]
  split
  ·rw[List.map_cons,List.flatMap_cons,List.map_append,List.sum_append,bC];omega
  ·omega
theorem aOU (l:List (List UInt8)):(Lib.join l [44]).length≤(l.map List.length).sum+l.length:=by
 cases l with
 | nil=>exact zF _
 | cons x r =>
  rw[Lib.join_length]
  have e:Lib.lens (x::r)=((x::r).map List.length).sum:=rfl
  rw[e]
  simp only[List.length_cons,List.length_nil,Nat.zero_add,Nat.one_mul]
  omega
theorem aOS (ask:List FD) (nm:ByteArray):(V.line ask nm).length≤nm.size+2 * F.bulk ask+2:=by
 have h1:=uB nm ask
 have h2:=aOU ((V.elems ask nm).map L)
 rw[List.map_map,List.length_map]at h2
 have h3:=nJ (List.length∘L) ByteArray.size (fun x=>by show (L x).length≤_;rw[← aQ];exact zA _) (V.elems ask nm)
 unfold V.line T.fold
 rw[bC,bC,List.length_map,← aQ]
 split
 ·simp only[List.length_cons,List.length_nil];omega
 ·simp only[List.length_cons,List.length_nil];omega
theorem aNC (ask:List FD) (K:Nat):∀ l:List ByteArray,(∀ x∈l,x.size≤K)→(V.key l ask).length≤l.length * (K+2 * F.bulk ask+2)
 | [],_=>zF _
 | x::l,h=>by
  have ih:=aNC ask K l (fun y hy=>h y (List.mem_cons_of_mem _ hy))
  have h1:=aOS ask x
  have h2:=h x (by simp)
  unfold V.key at ih ⊢
  rw[List.flatMap_cons,bC,List.length_cons,Nat.add_mul,Nat.one_mul]
  omega
theorem xK:∀ fs:List FD,F.bulk fs≤(F.lines fs).length
 | []=>zA _
 | f::l=>by
  have:=xK l
  have h:=F.yP f
  unfold F.lines at this ⊢
  rw[List.flatMap_cons,bC,h]
  simp only[F.bulk]
  omega
theorem aFP {s:Int} {r:ByteArray} {m:Int} {fs:List FD} (h:F.fK s r m fs=0):F.bulk fs≤8192∧r.size≤8192:=by
 unfold F.fK at h
 split at h
 ·cases h
 split at h
 ·cases h
 unfold F.dK at h
 split at h
 ·split at h
  ·cases h
  ·have h1:=xK fs
   have h2:r.size≤(F.aZ s r m).length:=by
    unfold F.aZ
    rw[bC,← aQ]
    omega
   omega
 ·rename_i hp
  exact absurd h hp
theorem aBR {E:O.Ent} (h:S.iG E=0):F.bulk E.fs≤8192∧E.r.size≤8192∧E.k.size≤4096∧E.v.size≤4096∧E.body.length≤65536:=by
 obtain⟨h1,h2,_⟩:=O.gU (S.mW h)
 have ht:=O.nI h1 h2
 obtain⟨a1,a2⟩:=aFP ht.ok
 obtain⟨b1,b2,b3,_⟩:=fU ht.okE
 exact⟨a1,a2,b1,b2,b3⟩
theorem enc_good {E:O.Ent} {ask:List FD} (h:S.iG E=0) (hb:F.bulk ask≤1048576):C.Good ask E:=by
 obtain⟨h1,h2,h3,h4,h5⟩:=aBR h
 have hl:=F.dI E.fs
 have ha:=F.dI ask
 have ht:=aKV E.fs V.vary
 refine⟨h,⟨by omega,iR (by omega),by omega,by omega,iR (by omega),fun l hl=>?_⟩,by omega,by omega,by omega⟩
 unfold V.names at hl
 split at hl
 ·cases hl
 injection hl with hl
 have hmem:∀ x∈l,x.size≤8192:=fun x hx=>by
  rw[← hl,jB]at hx
  exact bD (aLK hx) h1
 have hlen:l.length≤8192:=by
  rw[← hl]
  unfold setB
  refine bD (lF _) ?_
  rw[lT]
  omega
 refine⟨by omega,fun x hx=>⟨by have:=hmem x hx;omega,by have:=uB x ask;omega⟩,?_⟩
 have h6:=aNC ask 8192 l hmem
 have h7:l.length * (8192+2 * F.bulk ask+2)≤8192 * (8192+2 * 1048576+2):=Nat.mul_le_mul hlen (by omega)
 omega
namespace C
theorem bV.good {s:S.Sto} {a:CSt} {ask:List FD} (h:bV s (abs a)) (hb:F.bulk ask≤1048576):∀ id E,C.entry a id=some E→C.Good ask E:=fun id E he=>enc_good (h.base.encs id E ((h.entry2 id).symm.trans he)).1 hb
end C
open Go Go.RowKit Go.Maps
theorem aO.out {F F':Nat→Prop} {w w':World} {k:Nat} (h:aO F w F' w') (hk:¬ F k) (hlt:k < w.heap.size):¬ F' k:=fun hf=>by
 rcases h.foot k hf with h1 | h1
 ·exact hk h1
 ·omega
structure aJ8 (F:Nat→Prop) (w:World) (F':Nat→Prop) (w':World) (l l':List It):Prop extends aO F w F' w' where
 newer:aPM w l l'
structure aHB (F:Nat→Prop) (w:World) (p:EP):Prop where
 own:gB w 0 p
 off:∀ k,ownB p.A p.c=some k∨ownB p.X p.d=some k→¬ F k
theorem aHB.went {F F':Nat→Prop} {w w':World} {p:EP} (h:aHB F w p) (hw:aO F w F' w'):aHB F' w' p :=
 ⟨⟨hw.row h.own.1 (fun k hk=>h.off k (.inl hk)),hw.row h.own.2 (fun k hk=>h.off k (.inr hk))⟩,fun k hk=>hw.out (h.off k hk) (by
  rcases hk with hk | hk
  ·exact (h.own.1.lt k hk).2
  ·exact (h.own.2.lt k hk).2)⟩
theorem aHB.below {F:Nat→Prop} {w w':World} {p:EP} (h:aHB F w p) (hb:Below w.heap.size w w'):aHB F w' p:=⟨h.own.below hb,h.off⟩
theorem aHB.nine {F:Nat→Prop} {w:World} {b:Nat} {p:EP} (h:aHB F w p) (ht:Tag w b 41) (y0 y1 y2 y3 y4 y5 y6 y7 y8:Value):aHB F (Go.Proofs.YthjeglnkgdpijaaGreatDoor.nine w b y0 y1 y2 y3 y4 y5 y6 y7 y8) p:=⟨h.own.nine_far ht y0 y1 y2 y3 y4 y5 y6 y7 y8,h.off⟩
theorem CAt.offE {B room k:Nat} {Z:CM} {a:CSt} {w:World} {cs:Array Value} (h:CAt B room Z a w) (hk:Blk w k cs 41):¬ Z.foot a k:=h.off hk.tag ⟨by decide,by decide,by decide,by decide⟩ ⟨by decide,by decide,by decide⟩ ⟨by decide,by decide⟩
def EP.lim (p:EP):Prop:=F.bulk p.E.fs+p.E.k.size+p.E.v.size+p.E.r.size+p.E.body.length≤1048576
theorem rY (B room b:Nat) (Z:CM) (a:CSt) (s:S.Sto) (p:EP) (w:World) (h:CAt B room Z a w) (hs:C.bV s (C.abs a)) (hb:C.Base (s.put p.E).1)
  (hget:(s.put p.E).2=0→(s.put p.E).1.get (S.aV p.E)=some p.E∧∀ x F,x≠S.aV p.E→s.get x=some F→(s.put p.E).1.get x=some F) (hp:gB w b p) (hbf:∀ k,Z.foot a k→k < b) (hz:p.lim) (hT:∀ u,Below B w u→Tabs u) (hB:B≤w.heap.size) :
  Calls Tryz.prog 11 #[.pointer (some ⟨Z.c,0,none⟩),p.v] w (fun e w'=>e=.returned (.int .i64 (s.put p.E).2)∧Below B w w'∧∃ Z' a',Z'.c=Z.c∧CAt B room Z' a' w'∧aJ8 (Z.foot a) w (Z'.foot a') w' a.l a'.l∧((s.put p.E).2=0→C.bV (s.put p.E).1 (C.abs a'))):=by
 have hst:a.s=some s:=hs.st
 have hhd:a.hd=[]:=hs.hd
 have hlb:=F.dI p.E.fs
 unfold EP.lim at hz
 refine (aK7 B room b 2000 2000 Z a p w h hp (by omega) (by omega) (by omega) (by omega) (by omega) (fun s' hs'=>?_) (by omega) (by rw[hhd];exact zF _) (fun u hu=>(hT u hu).2.2) hB (fun k hk hf=>?_)).mono ?_
 ·obtain rfl:s=s':=Option.some.inj (hst.symm.trans hs')
  exact⟨hs.base.fine,hb.fine⟩
 ·have h1:=hbf k hf
  rcases hk with hk | hk
  ·have h2:=(hp.1.lt k hk).1
   omega
  ·have h2:=(hp.2.lt k hk).1
   omega
 ·rintro e w' (⟨h1,rfl,h2⟩ | ⟨h1,l',hl,hm⟩)
  ·have e1:s.put p.E=(s,S.iG p.E):=by unfold S.Sto.put;rw[if_pos h1]
   refine⟨by rw[e1],h2.mono hB,Z,a,rfl,h.below h2,⟨aO.below h2 _,fun _ hx=>.inl hx⟩,fun h0=>?_⟩
   rw[e1]at h0
   exact absurd h0 h1
  ·simp only[hst]at hm
   obtain⟨rfl,X,hc,hw⟩:=hm
   refine⟨rfl,iD hw (fun k hk=>h.under hk) hB,{ Z with X:=X },_,rfl,hc,⟨hw,hl.2⟩,fun h0=>?_⟩
   obtain⟨g1,g2⟩:=hget h0
   exact hs.save hb g1 g2 hl h0
theorem wJ (B room b:Nat) (Z:CM) (a:CSt) (s:S.Sto) (p:EP) (w:World) (h:CAt B room Z a w) (hs:C.bV s (C.abs a)) (hb:C.Base (s.put p.E).1)
  (hget:(s.put p.E).2=0→(s.put p.E).1.get (S.aV p.E)=some p.E∧∀ x F,x≠S.aV p.E→s.get x=some F→(s.put p.E).1.get x=some F) (hp:gB w b p) (hbf:∀ k,Z.foot a k→k < b) (hz:p.lim) (hT:∀ u,Below B w u→Tabs u) (hB:B≤w.heap.size) :
  Calls Tryz.prog 11 #[.pointer (some ⟨Z.c,0,none⟩),p.v] w (fun e w'=>e=.returned (.int .i64 (s.put p.E).2)∧Below B w w'∧((s.put p.E).2=0→∃ Z' a',Z'.c=Z.c∧CAt B room Z' a' w'∧aJ8 (Z.foot a) w (Z'.foot a') w' a.l a'.l∧C.bV (s.put p.E).1 (C.abs a'))) :=
 (rY B room b Z a s p w h hs hb hget hp hbf hz hT hB).mono (by
  rintro e w' ⟨h1,h2,Z',a',h3,h4,h5,h6⟩
  exact⟨h1,h2,fun h0=>⟨Z',a',h3,h4,h5,h6 h0⟩⟩)
theorem nM (B room:Nat) (Z:CM) (a:CSt) (s:S.Sto) (key:ByteArray) (Y:Option Addr) (cy:Nat) (ask:List FD) (w:World) (h:CAt B room Z a w) (hs:C.bV s (C.abs a)) (hk:key.size≤1048576) (hb:F.bulk ask≤1048576) (hy:Rd w Y ask.length 2 (aI ask)) (hT:∀ u,Below B w u→Tabs u) (hB:B≤w.heap.size) :
  Calls Tryz.prog 13 #[.pointer (some ⟨Z.c,0,none⟩),.string key,.slice Y ask.length cy] w (fun e w'=>∃ (q:EP) (a':CSt),e=.returned (.tuple #[q.v,.bool (C.pick a key ask (C.aU (C.ids a) key)).isSome])∧q.E=((C.pick a key ask (C.aU (C.ids a) key)).map (·.2)).getD O.Ent.zero∧aHB (Z.foot a') w' q∧CAt B room Z a' w'∧aJ8 (Z.foot a) w (Z.foot a') w' a.l a'.l∧C.bV s (C.abs a')∧Below B w w'∧gB w' w.heap.size q):=by
 refine (aL5 B room 2000 Z a key Y cy ask w h (fun s' hs'=>?_) (by omega) (hs.good hb) (by omega) hy hT hB).mono ?_
 ·have hst:a.s=some s:=hs.st
  obtain rfl:s=s':=Option.some.inj (hst.symm.trans hs')
  exact hs.base.fine
 ·rintro e w' hret
  rcases C.sK a key ask (C.aU (C.ids a) key) with ⟨h0,_⟩ | ⟨id,_,E,h0,⟨h1,_⟩,_⟩
  ·rw[h0]at hret ⊢
   obtain⟨rfl,hb⟩:=hret
   exact⟨EP.nil,a,rfl,rfl,⟨⟨Row.none_ _ _ _ _,Row.none_ _ _ _ _⟩,fun k hk=>by rcases hk with hk | hk<;>cases hk⟩,h.below hb,⟨aO.below hb _,fun _ hx=>.inl hx⟩,hs,hb.mono hB,Row.none_ _ _ _ _,Row.none_ _ _ _ _⟩
  ·rw[h0]at hret ⊢
   obtain⟨q,l',rfl,hq,ho,hof,hc,hw,hl⟩:=hret
   exact⟨q,_,rfl,hq,⟨ho.mono (zF _),hof⟩,hc,⟨hw,hl.2⟩,hs.found h1 hl,iD hw (fun k hk=>h.under hk) hB,ho⟩
theorem rZ (B room:Nat) (Z:CM) (a:CSt) (key:ByteArray) (w:World) (h:CAt B room Z a w) (hk:key.size≤1048576)
  (hf:∀ k,k≤(C.aU (C.all a) key).length→((C.abs a).purge key ((C.aU (C.all a) key).take k)).1.hd.length≤1073741824∧∀ s,((C.abs a).purge key ((C.aU (C.all a) key).take k)).1.s=some s→C.Fine 2000 s) (hT:∀ u,Below B w u→Tabs u) (hB:B≤w.heap.size) :
  Calls Tryz.prog 10 #[.pointer (some ⟨Z.c,0,none⟩),.string key] w (fun e w'=>∃ Z' a',Z'.c=Z.c∧e=.returned (.tuple #[.int .i64 ((C.abs a).purge key (C.aU (C.all a) key)).2.1,.int .i64 ((C.abs a).purge key (C.aU (C.all a) key)).2.2])∧CAt B room Z' a' w'∧aJ8 (Z.foot a) w (Z'.foot a') w' a.l a'.l∧C.abs a'=((C.abs a).purge key (C.aU (C.all a) key)).1∧Below B w w'):=by
 refine (aH7 B room 2000 Z a key w h (by omega) (by omega) hf hT hB).mono ?_
 rintro e w' ⟨X,a',rfl,h1,h2,h3,h4⟩
 exact⟨{ Z with X:=X },a',rfl,rfl,h1,⟨h2,fun x hx=>.inl (h4 x hx)⟩,h3,iD h2 (fun k hk=>h.under hk) hB⟩
namespace O
instance:DecidableEq Ent:=fun a b=>decidable_of_iff (a.k=b.k∧a.v=b.v∧a.s=b.s∧a.r=b.r∧a.m=b.m∧a.fs=b.fs∧a.body=b.body∧a.asked=b.asked∧a.got=b.got) (by
 cases a;cases b
 simp only[Ent.mk.injEq])
end O
namespace C
def chk (s:S.Sto):Bool:=decide (s.tab.Pairwise fun p q=>D.ltB p.1 q.1=true)&&decide (s.used.length≤4096)&&decide (s.tab.length≤1000)&&decide (s.count≤1000)&&s.tab.all fun p=>decide (p.1.size≤4096)&&decide (p.2 < s.used.length)&&match s.get p.1 with
 | some E=>decide (S.iG E=0)&&decide (S.aV E=p.1)
 | none=>false
theorem qV {s:S.Sto} (h:chk s=true) (hf:D.Fit 2000 s.d):Base s:=by
 unfold chk at h
 simp only[Bool.and_eq_true,decide_eq_true_eq,List.all_eq_true]at h
 obtain⟨⟨⟨⟨h1,h2⟩,h3⟩,h4⟩,h5⟩:=h
 have hg:∀ p∈s.tab,∃ E,s.get p.1=some E∧S.iG E=0∧S.aV E=p.1:=fun p hp=>by
  have h6:=(h5 p hp).2
  cases hq:s.get p.1 with
  | none=>rw[hq]at h6;cases h6
  | some E =>
   rw[hq]at h6
   simp only[Bool.and_eq_true,decide_eq_true_eq]at h6
   exact⟨E,rfl,h6⟩
 have hi:∀ x E,s.get x=some E→∃ p∈s.tab,p.1=x:=fun x E hx=>by
  unfold S.Sto.get at hx
  cases hq:D.find s.tab x with
  | none=>rw[hq]at hx;cases hx
  | some no=>exact⟨_,D.aN hq,rfl⟩
 refine⟨⟨hf,h1,by omega,fun p hp=>by have:=(h5 p hp).1.1;omega,fun p hp=>(h5 p hp).1.2,h2,by omega⟩,fun x=>?_,fun x E hx=>?_⟩
 ·unfold S.Sto.ids
  rw[List.mem_map]
  constructor
  ·rintro⟨p,hp,rfl⟩
   obtain⟨E,hE,_⟩:=hg p hp
   rw[hE];rfl
  ·intro hx
   obtain⟨E,hE⟩:=Option.isSome_iff_exists.1 hx
   exact hi x E hE
 ·obtain⟨p,hp,rfl⟩:=hi x E hx
  obtain⟨F,hF,h6⟩:=hg p hp
  obtain rfl:F=E:=Option.some.inj (hF.symm.trans hx)
  exact h6
def idA:ByteArray:=⟨#[97,10]⟩
def idB:ByteArray:=⟨#[98,10]⟩
def uA:O.Ent:=⟨⟨#[97]⟩,⟨#[]⟩,200,⟨#[]⟩,1,[],[],0,1⟩
def aBS:O.Ent:=⟨⟨#[98]⟩,⟨#[]⟩,200,⟨#[]⟩,1,[],[],0,2⟩
def al0:S.Sto:=⟨(S.steps (D.bare 9999 [] (-1)) S.bZ).1,0,[],S.marks 9 []⟩
def al1:S.Sto:=(al0.put uA).1
def al2:S.Sto:=(al1.put aBS).1
def al3:S.Sto:=(al2.drop idA).1
theorem aMR:start 9999 [] (-1) 9=some (some al0):=by
 unfold start
 rw[if_neg (by decide),if_neg (by
  rintro (h | h | h | h)
  ·exact h ⟨by decide,by decide⟩
  ·exact absurd h (by decide)
  ·exact absurd h (by decide)
  ·exact h (by decide +kernel))]
 rfl
theorem aJ6:D.Fit 3 al0.d:=S.iE S.bZ S.oG (S.aE5 (-1) ⟨by decide,by decide⟩ (by decide))
theorem aJ5:D.Fit 16 al1.d:=S.yH aJ6 uA
theorem aJ4:D.Fit 29 al2.d:=S.yH aJ5 aBS
theorem aPC:D.Fit 37 al3.d:=S.aEZ aJ4 idA
theorem aQS:Base al0:=qV (by decide +kernel) (aJ6.mono (by decide))
theorem aQR:Base al1:=qV (by decide +kernel) (aJ5.mono (by decide))
theorem aQQ:Base al2:=qV (by decide +kernel) (aJ4.mono (by decide))
theorem aQP:Base al3:=qV (by decide +kernel) (aPC.mono (by decide))
theorem al_p1:(al0.put uA).2=0:=by decide +kernel
theorem al_p2:(al1.put aBS).2=0:=by decide +kernel
theorem al_p3:(al2.drop idA).2=0:=by decide +kernel
theorem al_i0:al0.ids=[]:=by decide +kernel
theorem al_i1:al1.ids=[idA]:=by decide +kernel
theorem aO9:al2.ids=[idA,idB]:=by decide +kernel
theorem aQN:al3.ids=[idB]:=by decide +kernel
theorem aQO:al1.get idA=some uA:=by decide +kernel
theorem aJ3:al2.get idA=some uA∧al2.get idB=some aBS:=by decide +kernel
theorem al_g3:al3.get idB=some aBS:=by decide +kernel
theorem aPB:(al0.put uA).1.get (S.aV uA)=some uA∧∀ x F,x≠S.aV uA→al0.get x=some F→(al0.put uA).1.get x=some F:=⟨aQO,fun x F _ h=>by
 have:=(aQS.gets x).2 (by rw[h];rfl)
 rw[al_i0]at this
 cases this⟩
theorem aPA:(al1.put aBS).1.get (S.aV aBS)=some aBS∧∀ x F,x≠S.aV aBS→al1.get x=some F→(al1.put aBS).1.get x=some F:=⟨aJ3.2,fun x F _ h=>by
 have:=(aQR.gets x).2 (by rw[h];rfl)
 rw[al_i1]at this
 obtain rfl:x=idA:=List.mem_singleton.1 this
 rw[aQO]at h
 rw[← h]
 exact aJ3.1⟩
theorem aD8 {x y:ByteArray} (h:D.ltB x y=true):setB [x,y]=[x,y]:=lW (jQ _) (List.pairwise_pair.2 h) (fun _=>jB)
theorem aK5 (x:ByteArray):setB [x]=[x]:=lW (jQ _) (List.pairwise_singleton _ _) (fun _=>jB)
theorem aK6:setB []=[]:=lW (jQ _) List.Pairwise.nil (fun _=>jB)
theorem aBC {E:O.Ent} (h1:E.fs=[]) (h2:E.v=⟨#[]⟩) (ask:List FD):V.matches E ask=true:=by
 unfold V.matches
 rw[h1,h2]
 have h3:V.names []=some []:=by
  unfold V.names
  rw[show F.tokens [] V.vary=[] from rfl,aK6]
  rfl
 rw[h3]
 exact decide_eq_true rfl
section
variable {a:CSt}
theorem aJ2 (h:bV al2 (abs a)):C.ids a=[idA,idB]:=by rw[h.ids,aO9];exact aD8 (by decide)
theorem aMU (h:bV al2 (abs a)):pick a ⟨#[97]⟩ [] (aU (C.ids a) ⟨#[97]⟩)=some (idA,uA):=by
 rw[aJ2 h,show aU [idA,idB] ⟨#[97]⟩=[idA] by decide]
 have hA:aKD a ⟨#[97]⟩ [] idA uA:=⟨(h.entry2 idA).trans aJ3.1,rfl,aBC rfl rfl _⟩
 rcases sK a ⟨#[97]⟩ [] [idA] with ⟨_,h2⟩ | ⟨id,h1,E,h2,h3,_⟩
 ·exact absurd hA (h2 idA (by simp) uA)
 ·obtain rfl:id=idA:=List.mem_singleton.1 h1
  rw[h2]
  obtain rfl:uA=E:=Option.some.inj (hA.1.symm.trans h3.1)
  rfl
theorem aMT (h:bV al3 (abs a)):pick a ⟨#[97]⟩ [] (aU (C.ids a) ⟨#[97]⟩)=none:=by
 rw[h.ids,aQN,aK5,show aU [idB] ⟨#[97]⟩=[] by decide]
 rfl
theorem aMS (h:bV al2 (abs a)):∃ u,aU (C.all a) ⟨#[97]⟩=[idA]∧(abs a).purge ⟨#[97]⟩ [idA]=(u,1,0)∧bV al3 u:=by
 have hall:C.all a=[idA,idB]:=by rw[h.all,aO9];exact aD8 (by decide)
 have hen:(abs a).entry idA=some uA:=(h.entry idA).trans aJ3.1
 have hap:(abs a).apart ⟨#[97]⟩ idA=false:=by unfold Vw.apart;rw[hen];rfl
 have hs:a.s=some al2:=h.st
 have hhd:a.hd=[]:=h.hd
 have hdr:al2.drop idA=(al3,0):=by
  have:=al_p3
  unfold al3
  rw[← this]
 refine⟨({ (abs a).less idA with s:=some al3 }:Vw).hide idA,by rw[hall];decide,?_,?_⟩
 ·unfold Vw.purge
  rw[List.foldl_cons,List.foldl_nil]
  unfold Vw.purge1
  rw[if_neg (by rw[hap];decide)]
  dsimp only
  rw[show (abs a).s=some al2 from hs]
  dsimp only
  rw[if_pos (by decide +kernel),hdr]
  rfl
 ·refine⟨aQP,rfl,?_,fun x F hF=>?_⟩
  ·have hq:({ (abs a).less idA with s:=some al3 }:Vw).stored idA=false:=by
    show V.has al3.ids idA=false
    rw[aQN]
    decide
   show (if ({ (abs a).less idA with s:=some al3 }:Vw).stored idA=true then _ else D.del a.hd idA)=[]
   rw[hq,if_neg (by decide),hhd]
   rfl
  ·change (if x=idA then none else (abs a).mem x)=some F at hF
   by_cases hx:x=idA
   ·rw[if_pos hx]at hF;cases hF
   ·rw[if_neg hx]at hF
    have h2:=h.mem x F hF
    have h3:=(aQQ.gets x).2 (by rw[h2];rfl)
    rw[aO9]at h3
    rcases List.mem_cons.1 h3 with h3 | h3
    ·exact absurd h3 hx
    ·obtain rfl:x=idB:=List.mem_singleton.1 h3
     rw[aJ3.2]at h2
     rw[← h2]
     exact al_g3
structure Four (s0 s1 s2 s3:S.Sto):Prop where
 start:start 9999 [] (-1) 9=some (some s0)
 b0:Base s0
 b1:Base s1
 b2:Base s2
 b3:Base s3
 p1:s0.put uA=(s1,0)
 p2:s1.put aBS=(s2,0)
 get1:s1.get (S.aV uA)=some uA∧∀ x F,x≠S.aV uA→s0.get x=some F→s1.get x=some F
 get2:s2.get (S.aV aBS)=some aBS∧∀ x F,x≠S.aV aBS→s1.get x=some F→s2.get x=some F
 ids2:∀ a,bV s2 (abs a)→C.ids a=[idA,idB]
 find2:∀ a,bV s2 (abs a)→pick a ⟨#[97]⟩ [] (aU (C.ids a) ⟨#[97]⟩)=some (idA,uA)
 find3:∀ a,bV s3 (abs a)→pick a ⟨#[97]⟩ [] (aU (C.ids a) ⟨#[97]⟩)=none
 purge:∀ a,bV s2 (abs a)→∃ u,aU (C.all a) ⟨#[97]⟩=[idA]∧(abs a).purge ⟨#[97]⟩ [idA]=(u,1,0)∧bV s3 u
theorem four:∃ s0 s1 s2 s3,Four s0 s1 s2 s3 :=
 ⟨al0,al1,al2,al3,aMR,aQS,aQR,aQQ,aQP,Prod.ext rfl al_p1,Prod.ext rfl al_p2,aPB,aPA,fun _=>aJ2,fun _=>aMU,fun _=>aMT,fun _=>aMS⟩
end
end C
end Go.Proofs.YthjeglnkgdpijaaGreatDoor
namespace Go.Proofs.YthjeglnkgdpijaaGreatDoor
open Go Go.RowKit
theorem aGA (A:Option Addr) (n c:Nat) (w:World) (hc:n≤c) :
  Calls Tryz.prog 8 #[.slice A n c] w (fun e w'=>e=.returned (.slice A (min n 50) c)∧w'=w):=by
 by_cases h:n > 50
 ·have hm:min n 50=50:=by omega
  have h1:(n:Int) > 50:=by omega
  have h2:(50:Int)≤(c:Int):=by omega
  have h3:50≤c:=by omega
  rw[hm]
  go_enter Tryz.func8,Tryz.ntmps8
  go_wp2
  go_ret
  exact⟨rfl,rfl⟩
 ·have hm:min n 50=n:=by omega
  have h1:¬ (n:Int) > 50:=by omega
  rw[hm]
  go_enter Tryz.func8,Tryz.ntmps8
  go_wp2
  go_ret
  exact⟨rfl,rfl⟩
theorem rd_q {w:World} {A:Option Addr} {n k:Nat} {l:List SQ} (h:Rd w A n 12 (dR l)) (hk:k < l.length) (hl:l.length=n) :
  ∃ b o,A=some ⟨b,o,none⟩∧b < w.heap.size∧∀ j v,((l[k]'hk).c)[j]?=some v→w.cell? ⟨b,o+k * 12+j,none⟩=some v:=by
 obtain⟨b,o,rfl,hlt,hc⟩:=h.2 (by omega)
 refine⟨b,o,rfl,hlt,fun j v hv=>?_⟩
 have hj:j < 12:=(List.getElem?_eq_some_iff.1 hv).1
 have:=hc (k * 12+j) v ((nN l k j hk hj).trans hv)
 rwa [← Nat.add_assoc]at this
def aHD (s:ByteArray):Prop:=(10:UInt8) ∉ L s
theorem aIF {s:ByteArray} (h:∀ j (hj:j < s.size),(s[j]'hj)≠10):aHD s:=fun hm=>by
 obtain⟨j,hj,e⟩:=List.getElem_of_mem hm
 exact h j (by rw[aQ];exact hj) e
theorem aLG {s t:ByteArray} (h:aHD (s++t)):aHD s∧aHD t:=by
 unfold aHD at *
 rw[eP,List.mem_append]at h
 exact⟨fun hm=>h (.inl hm),fun hm=>h (.inr hm)⟩
theorem aJF (A:Option Addr) (n c:Nat) (l:List SQ) (key:ByteArray) (w:World) (hl:l.length=n) (hn:n≤100) (hx:Rd w A n 12 (dR l)) (hs:∀ q∈l,q.p.E.k.size+q.key.size≤1099511627776) (hk:key.size≤1099511627776) :
  Calls Tryz.prog 9 #[.slice A n c,.string key] w (fun e w'=>∃ t,e=.returned (.bool t)∧Below w.heap.size w w'∧(t=false→(∀ q∈l,aHD q.p.E.k∧aHD q.key)∧aHD key)):=by
 have HL:=aH hl
 have HX:=aH hx
 have HS:=aH hs
 clear hl hx hs
 go_enter Tryz.func9,Tryz.ntmps9
 go_wp2
 go_loopw [5,6,7] (fun i _ _ wr=>∃ k:Nat,k≤n∧i=.int .i64 k∧(∀ q∈l.take k,aHD q.p.E.k∧aHD q.key)∧Below w.heap.size w wr) (fun i _ _ _=>n - (intOf i).toNat)
 case atStart=>exact⟨0,zF _,rfl,(fun _ h=>by cases h),zB _ _⟩
 case round =>
  obtain⟨k,hkn,rfl,hno,hbe⟩:=hrel
  have HNO:=aH hno
  have HBE:=aH hbe
  clear hno hbe
  obtain⟨wo,rfl⟩:∃ wo:World,wo=wr:=⟨_,rfl⟩
  by_cases hlt:k < n
  ·have hki:k < l.length:=by rw[HL.out];exact hlt
   have h100:(k:Int) < 100:=by omega
   obtain⟨b,o,rfl,hb,hat⟩:=rd_q (HX.out.below HBE.out) hki HL.out
   have hsz:=HS.out _ (List.getElem_mem hki)
   have HTK:Hid (l.take (k+1)=l.take k++[l[k]'hki]):=aH (bI hki)
   obtain⟨q,hq⟩:∃ q,l[k]'hki=q:=⟨_,rfl⟩
   rw[hq]at hat hsz HTK
   have y1:=hat 1 _ rfl
   have y10:=hat 10 _ rfl
   clear hat hq
   obtain⟨s1,hs1⟩:∃ s1,q.p.E.k=s1:=⟨_,rfl⟩
   obtain⟨s2,hs2⟩:∃ s2,q.key=s2:=⟨_,rfl⟩
   rw[hs1]at y1 hsz
   rw[hs2]at y10 hsz
   have H1:=aH hs1
   have H2:=aH hs2
   clear hs1 hs2
   have hcat:¬ 9223372036854775807 < s1.size+s2.size:=by omega
   obtain⟨s,hs⟩:∃ s,s1++s2=s:=⟨_,rfl⟩
   have hss:s.size=s1.size+s2.size:=by rw[← hs];exact ByteArray.size_append
   have HSS:=aH hs
   clear hs
   go_upto_region 4 with fail
   go_region
   rw[HSS.out]
   go_wp2
   go_loopw [7] (fun j wr=>∃ m:Nat,m≤s.size∧j=.int .i64 m∧(∀ i (h:i < s.size),i < m→(s[i]'h)≠10)∧Below w.heap.size w wr) (fun j _=>s.size - (intOf j).toNat)
   case atStart=>exact⟨0,zF _,rfl,fun i _ h=>absurd h (by omega),HBE.out.drew⟩
   case round =>
    obtain⟨m,hm,rfl,hno2,hbe2⟩:=hrel
    have HN2:=aH hno2
    have HB2:=aH hbe2
    clear hno2 hbe2
    by_cases hml:m < s.size
    ·by_cases h10:(s[m]'hml)=10
     ·have g:=fV (y:=10) h10
      replace g:(((s[m]'hml).toNat:Int)==10)=true:=g
      have HG:=aH h10
      clear h10
      go_wp2
      go_ret
      exact⟨true,rfl,HB2.out,fun h=>by cases h⟩
     ·have g:=eY (y:=10) h10
      replace g:(((s[m]'hml).toNat:Int)==10)=false:=g
      have HG:=aH h10
      clear h10
      go_wp2
      go_roundw
      case rel=>exact⟨m+1,hml,by go_num,fun i hi him=>by
       by_cases e:i=m
       ·subst e;exact HG.out
       ·exact HN2.out i hi (by omega),HB2.out⟩
      case measure=>simp [intOf];omega
    ·go_wp2
     go_roundw
     case rel=>exact⟨k+1,by omega,by go_num,by
      rw[HTK.out]
      intro q' hq'
      rcases List.mem_append.1 hq' with h | h
      ·exact HNO.out q' h
      ·rw[List.mem_singleton.1 h,H1.out,H2.out]
       refine aLG ?_
       rw[HSS.out]
       exact aIF fun j hj=>HN2.out j hj (by omega),HB2.out⟩
     case measure=>simp [intOf];omega
  ·have hkn2:k=n:=by omega
   subst hkn2
   have HL2:Hid (∀ q∈l,aHD q.p.E.k∧aHD q.key):=aH (by
    have:=HNO.out
    rwa [← HL.out,List.take_length]at this)
   go_wp2
   go_loopw [8] (fun j wr=>∃ m:Nat,m≤key.size∧j=.int .i64 m∧(∀ i (h:i < key.size),i < m→(key[i]'h)≠10)∧Below w.heap.size w wr) (fun j _=>key.size - (intOf j).toNat)
   case atStart=>exact⟨0,zF _,rfl,fun i _ h=>absurd h (by omega),HBE.out⟩
   case round =>
    obtain⟨m,hm,rfl,hno2,hbe2⟩:=hrel
    have HN2:=aH hno2
    have HB2:=aH hbe2
    clear hno2 hbe2
    by_cases hml:m < key.size
    ·by_cases h10:(key[m]'hml)=10
     ·have g:=fV (y:=10) h10
      replace g:(((key[m]'hml).toNat:Int)==10)=true:=g
      have HG:=aH h10
      clear h10
      go_wp2
      go_ret
      exact⟨true,rfl,HB2.out,fun h=>by cases h⟩
     ·have g:=eY (y:=10) h10
      replace g:(((key[m]'hml).toNat:Int)==10)=false:=g
      have HG:=aH h10
      clear h10
      go_wp2
      go_roundw
      case rel=>exact⟨m+1,hml,by go_num,fun i hi him=>by
       by_cases e:i=m
       ·subst e;exact HG.out
       ·exact HN2.out i hi (by omega),HB2.out⟩
      case measure=>simp [intOf];omega
    ·go_wp2
     go_ret
     exact⟨false,rfl,HB2.out,fun _=>⟨HL2.out,aIF fun j hj=>HN2.out j hj (by omega)⟩⟩
end Go.Proofs.YthjeglnkgdpijaaGreatDoor
