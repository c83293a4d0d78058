/- What an entry that can be written, and a request of bounded size, are bounded by. No program here. Save, Find at a sound cache; the states of the Cache laws' first script. The walk of the Cache laws' first script (printed by gen/cachet.py). Condition: the library's tables. -/
import Derived.Test.YthjeglnkgdpijaaGreatDoorZ07
set_option maxHeartbeats 8000000
set_option maxRecDepth 100000
namespace Go.Proofs.YthjeglnkgdpijaaGreatDoor
theorem pieces_sum (c:UInt8):∀ (n:Nat) (q:Bool) (cur l:List UInt8),l.length≤n→((T.pieces c q cur l).map List.length).sum≤cur.length+l.length:=by
 intro n
 induction n with
 | zero =>
  intro q cur l h
  have:l=[]:=List.eq_nil_of_length_eq_zero (by omega)
  subst this
  simp [T.pieces]
 | succ n ih =>
  intro q cur l h
  cases l with
  | nil=>simp [T.pieces]
  | cons x r =>
   rw[T.pieces_cons]
   simp only[List.length_cons]at h ⊢
   split
   ·cases r with
    | nil=>simp
    | cons y r' =>
     have:=ih q (cur++[x,y]) r' (by simp at h;omega)
     simp only[List.length_append,List.length_cons,List.length_nil]at this ⊢;omega
   ·split
    ·have:=ih (!q) (cur++[x]) r (by omega)
     simp only[List.length_append,List.length_cons,List.length_nil]at this;omega
    ·split
     ·have:=ih q [] r (by omega)
      simp only[List.map_cons,List.sum_cons,List.length_nil]at this ⊢;omega
     ·have:=ih q (cur++[x]) r (by omega)
      simp only[List.length_append,List.length_cons,List.length_nil]at this;omega
theorem sum_filter {α:Type} (f:α→Nat) (p:α→Bool):∀ l:List α,((l.filter p).map f).sum≤(l.map f).sum
 | []=>Nat.le_refl _
 | x::l=>by
  have:=sum_filter f p l
  rw[List.filter_cons]
  split<;>simp only[List.map_cons,List.sum_cons]<;>omega
theorem sum_map_le {α:Type} (f g:α→Nat) (h:∀ x,f x≤g x):∀ l:List α,(l.map f).sum≤(l.map g).sum
 | []=>Nat.le_refl _
 | x::l=>by
  have:=sum_map_le f g h l
  have:=h x
  simp only[List.map_cons,List.sum_cons];omega
theorem list_sum (s:ByteArray):((F.list s).map ByteArray.size).sum≤s.size:=by
 unfold F.list
 refine Nat.le_trans (sum_filter _ _ _) ?_
 unfold F.split
 rw[List.map_map]
 have h1:=sum_map_le (ByteArray.size∘fun p=>B (T.trim p)) List.length (fun p=>by show (B (T.trim p)).size≤_;rw[B_size];exact T.trim_len p) (T.pieces 44 false [] (L s))
 have h2:=pieces_sum 44 _ false [] (L s) (Nat.le_refl _)
 rw[List.length_nil,Nat.zero_add,← L_size]at h2
 omega
theorem elems_sum (nm:ByteArray):∀ ask:List FD,((V.elems ask nm).map ByteArray.size).sum+(V.elems ask nm).length≤2 * F.bulk ask
 | []=>Nat.le_refl _
 | f::l=>by
  have ih:=elems_sum nm l
  have h1:=list_sum f.2
  have h2:=list_len f.2
  unfold V.elems F.values at ih ⊢
  rw[List.filter_cons]
  simp only[F.bulk]
  split
  ·rw[List.map_cons,List.flatMap_cons,List.map_append,List.sum_append,List.length_append];omega
  ·omega
theorem join_le (l:List (List UInt8)):(Lib.join l [44]).length≤(l.map List.length).sum+l.length:=by
 cases l with
 | nil=>exact Nat.zero_le _
 | cons x r =>
  rw[Lib.join_length]
  have e:Lib.lens (x::r)=((x::r).map List.length).sum:=rfl
  rw[e]
  simp only[List.length_cons,List.length_nil,Nat.zero_add,Nat.one_mul]
  omega
theorem line_le (ask:List FD) (nm:ByteArray):(V.line ask nm).length≤nm.size+2 * F.bulk ask+2:=by
 have h1:=elems_sum nm ask
 have h2:=join_le ((V.elems ask nm).map L)
 rw[List.map_map,List.length_map]at h2
 have h3:=sum_map_le (List.length∘L) ByteArray.size (fun x=>by show (L x).length≤_;rw[← L_size];exact Nat.le_refl _) (V.elems ask nm)
 unfold V.line T.fold
 rw[List.length_append,List.length_append,List.length_map,← L_size]
 split
 ·simp only[List.length_cons,List.length_nil];omega
 ·simp only[List.length_cons,List.length_nil];omega
theorem key_le (ask:List FD) (K:Nat):∀ l:List ByteArray,(∀ x∈l,x.size≤K)→(V.key l ask).length≤l.length * (K+2 * F.bulk ask+2)
 | [],_=>Nat.zero_le _
 | x::l,h=>by
  have ih:=key_le ask K l (fun y hy=>h y (List.mem_cons_of_mem _ hy))
  have h1:=line_le ask x
  have h2:=h x (by simp)
  unfold V.key at ih ⊢
  rw[List.flatMap_cons,List.length_append,List.length_cons,Nat.add_mul,Nat.one_mul]
  omega
theorem bulk_lines:∀ fs:List FD,F.bulk fs≤(F.lines fs).length
 | []=>Nat.le_refl _
 | f::l=>by
  have:=bulk_lines l
  have h:=F.line_len f
  unfold F.lines at this ⊢
  rw[List.flatMap_cons,List.length_append,h]
  simp only[F.bulk]
  omega
theorem resp_small {s:Int} {r:ByteArray} {m:Int} {fs:List FD} (h:F.respE s r m fs=0):F.bulk fs≤8192∧r.size≤8192:=by
 unfold F.respE at h
 split at h
 ·cases h
 split at h
 ·cases h
 unfold F.wholeE at h
 split at h
 ·split at h
  ·cases h
  ·have h1:=bulk_lines fs
   have h2:r.size≤(F.respLine s r m).length:=by
    unfold F.respLine
    rw[List.length_append,← L_size]
    omega
   omega
 ·rename_i hp
  exact absurd h hp
theorem ent_small {E:O.Ent} (h:S.encE E=0):F.bulk E.fs≤8192∧E.r.size≤8192∧E.k.size≤4096∧E.v.size≤4096∧E.body.length≤65536:=by
 obtain⟨h1,h2,_⟩:=O.dec_some (S.dec_encB h)
 have ht:=O.told_of h1 h2
 obtain⟨a1,a2⟩:=resp_small ht.ok
 obtain⟨b1,b2,b3,_⟩:=okE_facts ht.okE
 exact⟨a1,a2,b1,b2,b3⟩
theorem enc_good {E:O.Ent} {ask:List FD} (h:S.encE E=0) (hb:F.bulk ask≤1048576):C.Good ask E:=by
 obtain⟨h1,h2,h3,h4,h5⟩:=ent_small h
 have hl:=F.len_le_bulk E.fs
 have ha:=F.len_le_bulk ask
 have ht:=toks_sum E.fs V.vary
 refine⟨h,⟨by omega,small_of_bulk (by omega),by omega,by omega,small_of_bulk (by omega),fun l hl=>?_⟩,by omega,by omega,by omega⟩
 unfold V.names at hl
 split at hl
 ·cases hl
 injection hl with hl
 have hmem:∀ x∈l,x.size≤8192:=fun x hx=>by
  rw[← hl,mem_setB]at hx
  exact Nat.le_trans (mem_toks hx) h1
 have hlen:l.length≤8192:=by
  rw[← hl]
  unfold setB
  refine Nat.le_trans (compactB_le _) ?_
  rw[sortB_len]
  omega
 refine⟨by omega,fun x hx=>⟨by have:=hmem x hx;omega,by have:=elems_sum x ask;omega⟩,?_⟩
 have h6:=key_le ask 8192 l hmem
 have h7:l.length * (8192+2 * F.bulk ask+2)≤8192 * (8192+2 * 1048576+2):=Nat.mul_le_mul hlen (by omega)
 omega
namespace C
theorem Snd0.good {s:S.Sto} {a:CSt} {ask:List FD} (h:Snd0 s (abs a)) (hb:F.bulk ask≤1048576):∀ id E,C.entry a id=some E→C.Good ask E:=fun id E he=>enc_good (h.base.encs id E ((h.entry2 id).symm.trans he)).1 hb
end C
open Go Go.RowKit Go.Maps
theorem Went.out {F F':Nat→Prop} {w w':World} {k:Nat} (h:Went F w F' w') (hk:¬ F k) (hlt:k < w.heap.size):¬ F' k:=fun hf=>by
 rcases h.foot k hf with h1 | h1
 ·exact hk h1
 ·omega
structure WentC (F:Nat→Prop) (w:World) (F':Nat→Prop) (w':World) (l l':List It):Prop extends Went F w F' w' where
 newer:Newer w l l'
structure OutE (F:Nat→Prop) (w:World) (p:EP):Prop where
 own:EOwn w 0 p
 off:∀ k,ownB p.A p.c=some k∨ownB p.X p.d=some k→¬ F k
theorem OutE.went {F F':Nat→Prop} {w w':World} {p:EP} (h:OutE F w p) (hw:Went F w F' w'):OutE F' w' p :=
 ⟨⟨hw.row h.own.1 (fun k hk=>h.off k (.inl hk)),hw.row h.own.2 (fun k hk=>h.off k (.inr hk))⟩,fun k hk=>hw.out (h.off k hk) (by
  rcases hk with hk | hk
  ·exact (h.own.1.lt k hk).2
  ·exact (h.own.2.lt k hk).2)⟩
theorem OutE.below {F:Nat→Prop} {w w':World} {p:EP} (h:OutE F w p) (hb:Below w.heap.size w w'):OutE F w' p:=⟨h.own.below hb,h.off⟩
theorem OutE.nine {F:Nat→Prop} {w:World} {b:Nat} {p:EP} (h:OutE F w p) (ht:Tag w b 41) (y0 y1 y2 y3 y4 y5 y6 y7 y8:Value):OutE F (Go.Proofs.YthjeglnkgdpijaaGreatDoor.nine w b y0 y1 y2 y3 y4 y5 y6 y7 y8) p:=⟨h.own.nine_far ht y0 y1 y2 y3 y4 y5 y6 y7 y8,h.off⟩
theorem CAt.offE {B room k:Nat} {Z:CM} {a:CSt} {w:World} {cs:Array Value} (h:CAt B room Z a w) (hk:Blk w k cs 41):¬ Z.foot a k:=h.off hk.tag ⟨by decide,by decide,by decide,by decide⟩ ⟨by decide,by decide,by decide⟩ ⟨by decide,by decide⟩
def EP.lim (p:EP):Prop:=F.bulk p.E.fs+p.E.k.size+p.E.v.size+p.E.r.size+p.E.body.length≤1048576
theorem saSave_any (B room b:Nat) (Z:CM) (a:CSt) (s:S.Sto) (p:EP) (w:World) (h:CAt B room Z a w) (hs:C.Snd0 s (C.abs a)) (hb:C.Base (s.put p.E).1)
  (hget:(s.put p.E).2=0→(s.put p.E).1.get (S.idOf p.E)=some p.E∧∀ x F,x≠S.idOf p.E→s.get x=some F→(s.put p.E).1.get x=some F) (hp:EOwn w b p) (hbf:∀ k,Z.foot a k→k < b) (hz:p.lim) (hT:∀ u,Below B w u→Tabs u) (hB:B≤w.heap.size) :
  Calls Tryz.prog 11 #[.pointer (some ⟨Z.c,0,none⟩),p.v] w (fun e w'=>e=.returned (.int .i64 (s.put p.E).2)∧Below B w w'∧((s.put p.E).2=0→∃ Z' a',Z'.c=Z.c∧CAt B room Z' a' w'∧WentC (Z.foot a) w (Z'.foot a') w' a.l a'.l∧C.Snd0 (s.put p.E).1 (C.abs a'))):=by
 have hst:a.s=some s:=hs.st
 have hhd:a.hd=[]:=hs.hd
 have hlb:=F.len_le_bulk p.E.fs
 unfold EP.lim at hz
 refine (save_any B room b 2000 2000 Z a p w h hp (by omega) (by omega) (by omega) (by omega) (by omega) (fun s' hs'=>?_) (by omega) (by rw[hhd];exact Nat.zero_le _) (fun u hu=>(hT u hu).2.2) hB (fun k hk hf=>?_)).mono ?_
 ·obtain rfl:s=s':=Option.some.inj (hst.symm.trans hs')
  exact⟨hs.base.fine,hb.fine⟩
 ·have h1:=hbf k hf
  rcases hk with hk | hk
  ·have h2:=(hp.1.lt k hk).1
   omega
  ·have h2:=(hp.2.lt k hk).1
   omega
 ·rintro e w' (⟨h1,rfl,h2⟩ | ⟨h1,l',hl,hm⟩)
  ·have e1:s.put p.E=(s,S.encE p.E):=by unfold S.Sto.put;rw[if_pos h1]
   refine⟨by rw[e1],h2.mono hB,fun h0=>?_⟩
   rw[e1]at h0
   exact absurd h0 h1
  ·simp only[hst]at hm
   obtain⟨rfl,X,hc,hw⟩:=hm
   refine⟨rfl,went_base hw (fun k hk=>h.under hk) hB,fun h0=>?_⟩
   obtain⟨g1,g2⟩:=hget h0
   exact⟨{ Z with X:=X },_,rfl,hc,⟨hw,hl.2⟩,hs.save hb g1 g2 hl h0⟩
theorem saFind_any (B room:Nat) (Z:CM) (a:CSt) (s:S.Sto) (key:ByteArray) (Y:Option Addr) (cy:Nat) (ask:List FD) (w:World) (h:CAt B room Z a w) (hs:C.Snd0 s (C.abs a)) (hk:key.size≤1048576) (hb:F.bulk ask≤1048576) (hy:Rd w Y ask.length 2 (fcells ask)) (hT:∀ u,Below B w u→Tabs u) (hB:B≤w.heap.size) :
  Calls Tryz.prog 13 #[.pointer (some ⟨Z.c,0,none⟩),.string key,.slice Y ask.length cy] w (fun e w'=>∃ (q:EP) (a':CSt),e=.returned (.tuple #[q.v,.bool (C.pick a key ask (C.begin_ (C.ids a) key)).isSome])∧q.E=((C.pick a key ask (C.begin_ (C.ids a) key)).map (·.2)).getD O.Ent.zero∧OutE (Z.foot a') w' q∧CAt B room Z a' w'∧WentC (Z.foot a) w (Z.foot a') w' a.l a'.l∧C.Snd0 s (C.abs a')∧Below B w w'):=by
 refine (find_any B room 2000 Z a key Y cy ask w h (fun s' hs'=>?_) (by omega) (hs.good hb) (by omega) hy hT hB).mono ?_
 ·have hst:a.s=some s:=hs.st
  obtain rfl:s=s':=Option.some.inj (hst.symm.trans hs')
  exact hs.base.fine
 ·rintro e w' hret
  rcases C.pick_spec a key ask (C.begin_ (C.ids a) key) with ⟨h0,_⟩ | ⟨id,_,E,h0,⟨h1,_⟩,_⟩
  ·rw[h0]at hret ⊢
   obtain⟨rfl,hb⟩:=hret
   exact⟨EP.nil,a,rfl,rfl,⟨⟨Row.none_ _ _ _ _,Row.none_ _ _ _ _⟩,fun k hk=>by rcases hk with hk | hk<;>cases hk⟩,h.below hb,⟨Went.below hb _,fun _ hx=>.inl hx⟩,hs,hb.mono hB⟩
  ·rw[h0]at hret ⊢
   obtain⟨q,l',rfl,hq,ho,hof,hc,hw,hl⟩:=hret
   exact⟨q,_,rfl,hq,⟨ho.mono (Nat.zero_le _),hof⟩,hc,⟨hw,hl.2⟩,hs.found h1 hl,went_base hw (fun k hk=>h.under hk) hB⟩
theorem saPurge_any (B room:Nat) (Z:CM) (a:CSt) (key:ByteArray) (w:World) (h:CAt B room Z a w) (hk:key.size≤1048576)
  (hf:∀ k,k≤(C.begin_ (C.all a) key).length→((C.abs a).purge key ((C.begin_ (C.all a) key).take k)).1.hd.length≤1073741824∧∀ s,((C.abs a).purge key ((C.begin_ (C.all a) key).take k)).1.s=some s→C.Fine 2000 s) (hT:∀ u,Below B w u→Tabs u) (hB:B≤w.heap.size) :
  Calls Tryz.prog 10 #[.pointer (some ⟨Z.c,0,none⟩),.string key] w (fun e w'=>∃ Z' a',Z'.c=Z.c∧e=.returned (.tuple #[.int .i64 ((C.abs a).purge key (C.begin_ (C.all a) key)).2.1,.int .i64 ((C.abs a).purge key (C.begin_ (C.all a) key)).2.2])∧CAt B room Z' a' w'∧WentC (Z.foot a) w (Z'.foot a') w' a.l a'.l∧C.abs a'=((C.abs a).purge key (C.begin_ (C.all a) key)).1∧Below B w w'):=by
 refine (purge_any B room 2000 Z a key w h (by omega) (by omega) hf hT hB).mono ?_
 rintro e w' ⟨X,a',rfl,h1,h2,h3,h4⟩
 exact⟨{ Z with X:=X },a',rfl,rfl,h1,⟨h2,fun x hx=>.inl (h4 x hx)⟩,h3,went_base h2 (fun k hk=>h.under hk) hB⟩
namespace O
instance:DecidableEq Ent:=fun a b=>decidable_of_iff (a.k=b.k∧a.v=b.v∧a.s=b.s∧a.r=b.r∧a.m=b.m∧a.fs=b.fs∧a.body=b.body∧a.asked=b.asked∧a.got=b.got) (by
 cases a;cases b
 simp only[Ent.mk.injEq])
end O
namespace C
def chk (s:S.Sto):Bool:=decide (s.tab.Pairwise fun p q=>D.ltB p.1 q.1=true)&&decide (s.used.length≤4096)&&decide (s.tab.length≤1000)&&decide (s.count≤1000)&&s.tab.all fun p=>decide (p.1.size≤4096)&&decide (p.2 < s.used.length)&&match s.get p.1 with
 | some E=>decide (S.encE E=0)&&decide (S.idOf E=p.1)
 | none=>false
theorem chk_base {s:S.Sto} (h:chk s=true) (hf:D.Fit 2000 s.d):Base s:=by
 unfold chk at h
 simp only[Bool.and_eq_true,decide_eq_true_eq,List.all_eq_true]at h
 obtain⟨⟨⟨⟨h1,h2⟩,h3⟩,h4⟩,h5⟩:=h
 have hg:∀ p∈s.tab,∃ E,s.get p.1=some E∧S.encE E=0∧S.idOf E=p.1:=fun p hp=>by
  have h6:=(h5 p hp).2
  cases hq:s.get p.1 with
  | none=>rw[hq]at h6;cases h6
  | some E =>
   rw[hq]at h6
   simp only[Bool.and_eq_true,decide_eq_true_eq]at h6
   exact⟨E,rfl,h6⟩
 have hi:∀ x E,s.get x=some E→∃ p∈s.tab,p.1=x:=fun x E hx=>by
  unfold S.Sto.get at hx
  cases hq:D.find s.tab x with
  | none=>rw[hq]at hx;cases hx
  | some no=>exact⟨_,D.find_mem hq,rfl⟩
 refine⟨⟨hf,h1,by omega,fun p hp=>by have:=(h5 p hp).1.1;omega,fun p hp=>(h5 p hp).1.2,h2,by omega⟩,fun x=>?_,fun x E hx=>?_⟩
 ·unfold S.Sto.ids
  rw[List.mem_map]
  constructor
  ·rintro⟨p,hp,rfl⟩
   obtain⟨E,hE,_⟩:=hg p hp
   rw[hE];rfl
  ·intro hx
   obtain⟨E,hE⟩:=Option.isSome_iff_exists.1 hx
   exact hi x E hE
 ·obtain⟨p,hp,rfl⟩:=hi x E hx
  obtain⟨F,hF,h6⟩:=hg p hp
  obtain rfl:F=E:=Option.some.inj (hF.symm.trans hx)
  exact h6
def idA:ByteArray:=⟨#[97,10]⟩
def idB:ByteArray:=⟨#[98,10]⟩
def entA:O.Ent:=⟨⟨#[97]⟩,⟨#[]⟩,200,⟨#[]⟩,1,[],[],0,1⟩
def entB:O.Ent:=⟨⟨#[98]⟩,⟨#[]⟩,200,⟨#[]⟩,1,[],[],0,2⟩
def al0:S.Sto:=⟨(S.steps (D.bare 9999 [] (-1)) S.firsts).1,0,[],S.marks 9 []⟩
def al1:S.Sto:=(al0.put entA).1
def al2:S.Sto:=(al1.put entB).1
def al3:S.Sto:=(al2.drop idA).1
theorem al_start:start 9999 [] (-1) 9=some (some al0):=by
 unfold start
 rw[if_neg (by decide),if_neg (by
  rintro (h | h | h | h)
  ·exact h ⟨by decide,by decide⟩
  ·exact absurd h (by decide)
  ·exact absurd h (by decide)
  ·exact h (by decide +kernel))]
 rfl
theorem al_fit0:D.Fit 3 al0.d:=S.steps_fit S.firsts S.firsts_fit (S.bare_fit (-1) ⟨by decide,by decide⟩ (by decide))
theorem al_fit1:D.Fit 16 al1.d:=S.put_fit al_fit0 entA
theorem al_fit2:D.Fit 29 al2.d:=S.put_fit al_fit1 entB
theorem al_fit3:D.Fit 37 al3.d:=S.drop_fit al_fit2 idA
theorem al_b0:Base al0:=chk_base (by decide +kernel) (al_fit0.mono (by decide))
theorem al_b1:Base al1:=chk_base (by decide +kernel) (al_fit1.mono (by decide))
theorem al_b2:Base al2:=chk_base (by decide +kernel) (al_fit2.mono (by decide))
theorem al_b3:Base al3:=chk_base (by decide +kernel) (al_fit3.mono (by decide))
theorem al_p1:(al0.put entA).2=0:=by decide +kernel
theorem al_p2:(al1.put entB).2=0:=by decide +kernel
theorem al_p3:(al2.drop idA).2=0:=by decide +kernel
theorem al_i0:al0.ids=[]:=by decide +kernel
theorem al_i1:al1.ids=[idA]:=by decide +kernel
theorem al_i2:al2.ids=[idA,idB]:=by decide +kernel
theorem al_i3:al3.ids=[idB]:=by decide +kernel
theorem al_g1:al1.get idA=some entA:=by decide +kernel
theorem al_g2:al2.get idA=some entA∧al2.get idB=some entB:=by decide +kernel
theorem al_g3:al3.get idB=some entB:=by decide +kernel
theorem al_get1:(al0.put entA).1.get (S.idOf entA)=some entA∧∀ x F,x≠S.idOf entA→al0.get x=some F→(al0.put entA).1.get x=some F:=⟨al_g1,fun x F _ h=>by
 have:=(al_b0.gets x).2 (by rw[h];rfl)
 rw[al_i0]at this
 cases this⟩
theorem al_get2:(al1.put entB).1.get (S.idOf entB)=some entB∧∀ x F,x≠S.idOf entB→al1.get x=some F→(al1.put entB).1.get x=some F:=⟨al_g2.2,fun x F _ h=>by
 have:=(al_b1.gets x).2 (by rw[h];rfl)
 rw[al_i1]at this
 obtain rfl:x=idA:=List.mem_singleton.1 this
 rw[al_g1]at h
 rw[← h]
 exact al_g2.1⟩
theorem setB_two {x y:ByteArray} (h:D.ltB x y=true):setB [x,y]=[x,y]:=rise_ext (setB_rise _) (List.pairwise_pair.2 h) (fun _=>mem_setB)
theorem setB_one (x:ByteArray):setB [x]=[x]:=rise_ext (setB_rise _) (List.pairwise_singleton _ _) (fun _=>mem_setB)
theorem setB_nil:setB []=[]:=rise_ext (setB_rise _) List.Pairwise.nil (fun _=>mem_setB)
theorem matches_bare {E:O.Ent} (h1:E.fs=[]) (h2:E.v=⟨#[]⟩) (ask:List FD):V.matches E ask=true:=by
 unfold V.matches
 rw[h1,h2]
 have h3:V.names []=some []:=by
  unfold V.names
  rw[show F.tokens [] V.vary=[] from rfl,setB_nil]
  rfl
 rw[h3]
 exact decide_eq_true rfl
section
variable {a:CSt}
theorem al_ids2 (h:Snd0 al2 (abs a)):C.ids a=[idA,idB]:=by rw[h.ids,al_i2];exact setB_two (by decide)
theorem al_find2 (h:Snd0 al2 (abs a)):pick a ⟨#[97]⟩ [] (begin_ (C.ids a) ⟨#[97]⟩)=some (idA,entA):=by
 rw[al_ids2 h,show begin_ [idA,idB] ⟨#[97]⟩=[idA] by decide]
 have hA:Fit1 a ⟨#[97]⟩ [] idA entA:=⟨(h.entry2 idA).trans al_g2.1,rfl,matches_bare rfl rfl _⟩
 rcases pick_spec a ⟨#[97]⟩ [] [idA] with ⟨_,h2⟩ | ⟨id,h1,E,h2,h3,_⟩
 ·exact absurd hA (h2 idA (by simp) entA)
 ·obtain rfl:id=idA:=List.mem_singleton.1 h1
  rw[h2]
  obtain rfl:entA=E:=Option.some.inj (hA.1.symm.trans h3.1)
  rfl
theorem al_find3 (h:Snd0 al3 (abs a)):pick a ⟨#[97]⟩ [] (begin_ (C.ids a) ⟨#[97]⟩)=none:=by
 rw[h.ids,al_i3,setB_one,show begin_ [idB] ⟨#[97]⟩=[] by decide]
 rfl
theorem al_purge (h:Snd0 al2 (abs a)):∃ u,begin_ (C.all a) ⟨#[97]⟩=[idA]∧(abs a).purge ⟨#[97]⟩ [idA]=(u,1,0)∧Snd0 al3 u:=by
 have hall:C.all a=[idA,idB]:=by rw[h.all,al_i2];exact setB_two (by decide)
 have hen:(abs a).entry idA=some entA:=(h.entry idA).trans al_g2.1
 have hap:(abs a).apart ⟨#[97]⟩ idA=false:=by unfold Vw.apart;rw[hen];rfl
 have hs:a.s=some al2:=h.st
 have hhd:a.hd=[]:=h.hd
 have hdr:al2.drop idA=(al3,0):=by
  have:=al_p3
  unfold al3
  rw[← this]
 refine⟨({ (abs a).less idA with s:=some al3 }:Vw).hide idA,by rw[hall];decide,?_,?_⟩
 ·unfold Vw.purge
  rw[List.foldl_cons,List.foldl_nil]
  unfold Vw.purge1
  rw[if_neg (by rw[hap];decide)]
  dsimp only
  rw[show (abs a).s=some al2 from hs]
  dsimp only
  rw[if_pos (by decide +kernel),hdr]
  rfl
 ·refine⟨al_b3,rfl,?_,fun x F hF=>?_⟩
  ·have hq:({ (abs a).less idA with s:=some al3 }:Vw).stored idA=false:=by
    show V.has al3.ids idA=false
    rw[al_i3]
    decide
   show (if ({ (abs a).less idA with s:=some al3 }:Vw).stored idA=true then _ else D.del a.hd idA)=[]
   rw[hq,if_neg (by decide),hhd]
   rfl
  ·change (if x=idA then none else (abs a).mem x)=some F at hF
   by_cases hx:x=idA
   ·rw[if_pos hx]at hF;cases hF
   ·rw[if_neg hx]at hF
    have h2:=h.mem x F hF
    have h3:=(al_b2.gets x).2 (by rw[h2];rfl)
    rw[al_i2]at h3
    rcases List.mem_cons.1 h3 with h3 | h3
    ·exact absurd h3 hx
    ·obtain rfl:x=idB:=List.mem_singleton.1 h3
     rw[al_g2.2]at h2
     rw[← h2]
     exact al_g3
structure Four (s0 s1 s2 s3:S.Sto):Prop where
 start:start 9999 [] (-1) 9=some (some s0)
 b0:Base s0
 b1:Base s1
 b2:Base s2
 b3:Base s3
 p1:s0.put entA=(s1,0)
 p2:s1.put entB=(s2,0)
 get1:s1.get (S.idOf entA)=some entA∧∀ x F,x≠S.idOf entA→s0.get x=some F→s1.get x=some F
 get2:s2.get (S.idOf entB)=some entB∧∀ x F,x≠S.idOf entB→s1.get x=some F→s2.get x=some F
 ids2:∀ a,Snd0 s2 (abs a)→C.ids a=[idA,idB]
 find2:∀ a,Snd0 s2 (abs a)→pick a ⟨#[97]⟩ [] (begin_ (C.ids a) ⟨#[97]⟩)=some (idA,entA)
 find3:∀ a,Snd0 s3 (abs a)→pick a ⟨#[97]⟩ [] (begin_ (C.ids a) ⟨#[97]⟩)=none
 purge:∀ a,Snd0 s2 (abs a)→∃ u,begin_ (C.all a) ⟨#[97]⟩=[idA]∧(abs a).purge ⟨#[97]⟩ [idA]=(u,1,0)∧Snd0 s3 u
theorem four:∃ s0 s1 s2 s3,Four s0 s1 s2 s3 :=
 ⟨al0,al1,al2,al3,al_start,al_b0,al_b1,al_b2,al_b3,Prod.ext rfl al_p1,Prod.ext rfl al_p2,al_get1,al_get2,fun _=>al_ids2,fun _=>al_find2,fun _=>al_find3,fun _=>al_purge⟩
end
end C
def C.ent (k:ByteArray) (g:Int):O.Ent:=⟨k,⟨#[]⟩,200,⟨#[]⟩,1,[],[],0,g⟩
def C.entP (k:ByteArray) (g:Int):EP:=⟨C.ent k g,none,0,none,0⟩
theorem C.entP_v (k:ByteArray) (g:Int):(C.entP k g).v=.agg #[.string k,.string ⟨#[]⟩,.int .i64 200,.string ⟨#[]⟩,.int .i64 1,.slice none 0 0,.slice none 0 0,.int .i64 0,.int .i64 g]:=rfl
theorem C.entP_own (k:ByteArray) (g:Int) (w:World) (b:Nat):EOwn w b (C.entP k g):=⟨Row.none_ _ _ _ _,Row.none_ _ _ _ _⟩
theorem lawEntry_any (k:ByteArray) (g:Int) (w:World):Calls Tryz.prog 19 #[.string k,.int .i64 g] w (fun e w'=>e=.returned (.agg #[.string k,.string ⟨#[]⟩,.int .i64 200,.string ⟨#[]⟩,.int .i64 1,.slice none 0 0,.slice none 0 0,.int .i64 0,.int .i64 g])∧Below w.heap.size w w'):=by
 obtain⟨w0,hw0⟩:∃ w0,w.alloc (.cells #[.string ⟨#[]⟩,.string ⟨#[]⟩,.int .i64 0,.string ⟨#[]⟩,.int .i64 0,.slice none 0 0,.slice none 0 0,.int .i64 0,.int .i64 0] 41)=w0:=⟨_,rfl⟩
 have hb0:Below w.heap.size w w0:=by rw[← hw0];exact (Below.refl _ _).alloc (Nat.le_refl _) _
 have hk0:Blk w0 w.heap.size #[.string ⟨#[]⟩,.string ⟨#[]⟩,.int .i64 0,.string ⟨#[]⟩,.int .i64 0,.slice none 0 0,.slice none 0 0,.int .i64 0,.int .i64 0] 41:=by rw[← hw0];exact Blk.new w _ _
 obtain⟨z0,z1,z2,z3,z4,z5,z6,z7,z8⟩:=hk0.cells9
 obtain⟨r0,r1,r2,r3,r4,r5,r6,r7,r8⟩:=hk0.free9
 have HB:=Lib.hid (below_nine hb0 (Nat.le_refl _) (.string k) (.string ⟨#[]⟩) (.int .i64 200) (.string ⟨#[]⟩) (.int .i64 1) (.slice none 0 0) (.slice none 0 0) (.int .i64 0) (.int .i64 g))
 obtain⟨v0,v1,v2,v3,v4,v5,v6,v7,v8⟩:=(hk0.set9 (.string k) (.string ⟨#[]⟩) (.int .i64 200) (.string ⟨#[]⟩) (.int .i64 1) (.slice none 0 0) (.slice none 0 0) (.int .i64 0) (.int .i64 g)).cells9
 unfold nine at HB v0 v1 v2 v3 v4 v5 v6 v7 v8
 clear hb0 hk0
 go_enter Tryz.func19,Tryz.ntmps19
 go_wp2
 refine bodyPost_ret (v:=.agg #[.string k,.string ⟨#[]⟩,.int .i64 200,.string ⟨#[]⟩,.int .i64 1,.slice none 0 0,.slice none 0 0,.int .i64 0,.int .i64 g]) (by simp [results,Tryz.results19,go_sem,v0,v1,v2,v3,v4,v5,v6,v7,v8]) rfl ?_
 exact⟨rfl,HB.out⟩
theorem tabs_of {w w1:World} {B:Nat} (ht:Tabs w) (hb:Below w.heap.size w w1) (hB:w.heap.size≤B):∀ u,Below B w1 u→Tabs u:=fun _ hu=>ht.below (hb.trans (hu.mono hB))
theorem Went.far9 {F F':Nat→Prop} {w w':World} {b:Nat} {cs:Array Value} {T:TypeId} (h:Went F w F' w') (hk:Blk w b cs T) (hn:¬ F b):Blk w' b cs T:=h.blk hk hn
theorem cacheAlive_any (w:World) (ht:Tabs w):Calls Tryz.prog 6 #[] w (RetB w true):=by
 obtain⟨s0,s1,s2,s3,hfour⟩:=C.four
 have HX:=Lib.hid hfour
 have HTB:=Lib.hid ht
 have hbg:=lawBegin_any 9999 none 0 [] (-1) 9 70 w (by decide) (Rd.nil _ _ _)
 rw[hfour.start]at hbg
 have HBG:=Lib.hid hbg
 dsimp only[List.length_nil]at HBG
 clear ht hbg hfour
 go_enter Tryz.func6,Tryz.ntmps6
 go_wp2_with fail
 refine HBG.out.mono ?_
 rintro e w1 ⟨B,Z,pd,rfl,hc1,hB1,hB2,hb1,hpd⟩
 obtain⟨ad,rfl⟩:=Option.isSome_iff_exists.1 (hpd rfl)
 have HC1:=Lib.hid hc1
 have HBB:=Lib.hid hB1
 have HB1:=Lib.hid hb1
 have HB2:=Lib.hid hB2
 have HS1:Hid (C.Snd0 s0 (C.abs ⟨some s0,[],[]⟩)):=Lib.hid ⟨HX.out.b0,rfl,rfl,fun x F h=>by cases h⟩
 have HEN:=Lib.hid (fun k g u=>lawEntry_any k g u)
 clear hc1 hB1 hB2 hb1 hpd HBG
 go_wp2_with fail
 refine (HEN.out _ _ _).mono ?_
 rintro e w2 ⟨rfl,hb2⟩
 have HC2:=Lib.hid (HC1.out.below hb2)
 have HB3:=Lib.hid (below_then HB1.out.size HB1.out hb2)
 have HZ2:=Lib.hid (Nat.le_trans HB2.out hb2.size)
 have HSA:=Lib.hid (saSave_any B _ w2.heap.size Z _ s0 (C.entP ⟨#[97]⟩ 1) w2 HC2.out HS1.out (by rw[show (C.entP ⟨#[97]⟩ 1).E=C.entA from rfl,HX.out.p1];exact HX.out.b1) (fun _=>by rw[show (C.entP ⟨#[97]⟩ 1).E=C.entA from rfl,HX.out.p1];exact HX.out.get1) (C.entP_own _ _ _ _) (fun k hk=>HC2.out.lt hk) (by unfold EP.lim;decide) (tabs_of HTB.out HB3.out HBB.out) HZ2.out)
 rw[C.entP_v,show ((C.entP ⟨#[97]⟩ 1).E)=C.entA from rfl,HX.out.p1]at HSA
 dsimp only at HSA
 clear hb2 HC1 HB1 HB2
 go_wp2_with fail
 refine HSA.out.mono ?_
 rintro e w3 ⟨rfl,hb3,hx3⟩
 obtain⟨Z3,a3,hz3,hc3,hw3,hs3⟩:=hx3 (by trivial)
 rw[← hz3]
 have HC3:=Lib.hid hc3
 have HS3:Hid (C.Snd0 s1 (C.abs a3)):=Lib.hid hs3
 have HB4:=Lib.hid (HB3.out.trans (hb3.mono HBB.out))
 have HZ3:=Lib.hid (Nat.le_trans HZ2.out hb3.size)
 clear hb3 hx3 hc3 hw3 hs3 hz3 HSA HC2 HB3 HS1 HZ2 Z
 go_wp2_with fail
 refine (HEN.out _ _ _).mono ?_
 rintro e w4 ⟨rfl,hb4⟩
 have HC4:=Lib.hid (HC3.out.below hb4)
 have HB5:=Lib.hid (below_then HB4.out.size HB4.out hb4)
 have HZ4:=Lib.hid (Nat.le_trans HZ3.out hb4.size)
 have HSB:=Lib.hid (saSave_any B _ w4.heap.size Z3 a3 s1 (C.entP ⟨#[98]⟩ 2) w4 HC4.out HS3.out (by rw[show (C.entP ⟨#[98]⟩ 2).E=C.entB from rfl,HX.out.p2];exact HX.out.b2) (fun _=>by rw[show (C.entP ⟨#[98]⟩ 2).E=C.entB from rfl,HX.out.p2];exact HX.out.get2) (C.entP_own _ _ _ _) (fun k hk=>HC4.out.lt hk) (by unfold EP.lim;decide) (tabs_of HTB.out HB5.out HBB.out) HZ4.out)
 rw[C.entP_v,show ((C.entP ⟨#[98]⟩ 2).E)=C.entB from rfl,HX.out.p2]at HSB
 dsimp only at HSB
 clear hb4 HC3 HB4 HEN HZ3
 go_wp2_with fail
 refine HSB.out.mono ?_
 rintro e w5 ⟨rfl,hb5,hx5⟩
 obtain⟨Z5,a5,hz5,hc5,hw5,hs5⟩:=hx5 (by trivial)
 rw[← hz5]
 have HC5:=Lib.hid hc5
 have HS5:Hid (C.Snd0 s2 (C.abs a5)):=Lib.hid hs5
 have HB6:=Lib.hid (HB5.out.trans (hb5.mono HBB.out))
 have HZ5:=Lib.hid (Nat.le_trans HZ4.out hb5.size)
 have HID:=Lib.hid (cacheIds_any B _ Z5 a5 2000 w5 hc5 (fun s hs=>by obtain rfl:s2=s:=Option.some.inj (HS5.out.st.symm.trans hs);exact HX.out.b2.fine))
 rw[HX.out.ids2 _ HS5.out]at HID
 clear hb5 hx5 hc5 hw5 hs5 hz5 HSB HC4 HB5 HS3 HZ4 Z3
 go_wp2_with fail
 refine HID.out.mono ?_
 rintro e w6 ⟨A6,c6,rfl,hr6,hb6⟩
 have hbe:Below w6.heap.size w6 (w6.alloc (.cells #[.string ⟨#[97,10]⟩,.string ⟨#[98,10]⟩] 9)):=(Below.refl _ _).alloc (Nat.le_refl _) _
 have HC6:=Lib.hid ((HC5.out.below hb6).below hbe)
 have HB7:=Lib.hid (below_then (Nat.le_trans HB6.out.size hb6.size) (below_then HB6.out.size HB6.out hb6) hbe)
 have HZ6:=Lib.hid (Nat.le_trans (Nat.le_trans HZ5.out hb6.size) hbe.size)
 have HST:=Lib.hid (sameTexts_any A6 (some ⟨w6.heap.size,0,none⟩) 2 c6 2 [C.idA,C.idB] _ rfl (by decide) (hr6.rd.below hbe) (Rd.newRow w6 9 #[.string ⟨#[97,10]⟩,.string ⟨#[98,10]⟩] 2 1 rfl))
 clear hr6 hb6 hbe HC5 HB6 HID HZ5
 go_wp2_with fail
 refine HST.out.mono ?_
 rintro e w7 ⟨rfl,hb7⟩
 have HC7:=Lib.hid (HC6.out.below hb7)
 have HB8:=Lib.hid (below_then HB7.out.size HB7.out hb7)
 have HZ7:=Lib.hid (Nat.le_trans HZ6.out hb7.size)
 have HFI:=Lib.hid (saFind_any B _ Z5 a5 s2 ⟨#[97]⟩ none 0 [] w7 HC7.out HS5.out (by decide) (by decide) (Rd.nil _ _ _) (tabs_of HTB.out HB8.out HBB.out) HZ7.out)
 rw[HX.out.find2 _ HS5.out]at HFI
 dsimp only[List.length_nil]at HFI
 clear hb7 HC6 HB7 HST HS5 HZ6
 go_wp2_with fail
 refine HFI.out.mono ?_
 rintro e w8 ⟨q,a8,rfl,hq8,-,hc8,hw8,hs8,hb8⟩
 obtain⟨w9,hw9⟩:∃ w9,w8.alloc (.cells #[.string ⟨#[]⟩,.string ⟨#[]⟩,.int .i64 0,.string ⟨#[]⟩,.int .i64 0,.slice none 0 0,.slice none 0 0,.int .i64 0,.int .i64 0] 41)=w9:=⟨_,rfl⟩
 have hb9:Below w8.heap.size w8 w9:=by rw[← hw9];exact (Below.refl _ _).alloc (Nat.le_refl _) _
 have hk9:Blk w9 w8.heap.size #[.string ⟨#[]⟩,.string ⟨#[]⟩,.int .i64 0,.string ⟨#[]⟩,.int .i64 0,.slice none 0 0,.slice none 0 0,.int .i64 0,.int .i64 0] 41:=by rw[← hw9];exact Blk.new w8 _ _
 obtain⟨z0,z1,z2,z3,z4,z5,z6,z7,z8⟩:=hk9.cells9
 obtain⟨r0,r1,r2,r3,r4,r5,r6,r7,r8⟩:=hk9.free9
 have hc9:=(hc8.below hb9).entry9 hk9 (.string q.E.k) (.string q.E.v) (.int .i64 q.E.s) (.string q.E.r) (.int .i64 q.E.m) (.slice q.A q.E.fs.length q.c) (.slice q.X q.E.body.length q.d) (.int .i64 q.E.asked) (.int .i64 q.E.got)
 have HB10:=Lib.hid (below_nine (below_then (Nat.le_trans HB8.out.size hw8.size) (HB8.out.trans (hb8.mono HBB.out)) hb9) (Nat.le_trans HB8.out.size hw8.size) (.string q.E.k) (.string q.E.v) (.int .i64 q.E.s) (.string q.E.r) (.int .i64 q.E.m) (.slice q.A q.E.fs.length q.c) (.slice q.X q.E.body.length q.d) (.int .i64 q.E.asked) (.int .i64 q.E.got))
 have HK10:=Lib.hid (hk9.set9 (.string q.E.k) (.string q.E.v) (.int .i64 q.E.s) (.string q.E.r) (.int .i64 q.E.m) (.slice q.A q.E.fs.length q.c) (.slice q.X q.E.body.length q.d) (.int .i64 q.E.asked) (.int .i64 q.E.got))
 have HZ10:Hid (B≤(nine w9 w8.heap.size (.string q.E.k) (.string q.E.v) (.int .i64 q.E.s) (.string q.E.r) (.int .i64 q.E.m) (.slice q.A q.E.fs.length q.c) (.slice q.X q.E.body.length q.d) (.int .i64 q.E.asked) (.int .i64 q.E.got)).heap.size):=Lib.hid (by
  have h1:=(went_nine (F:=fun k=>k=w8.heap.size) (w:=w9) (b:=w8.heap.size) rfl (.string q.E.k) (.string q.E.v) (.int .i64 q.E.s) (.string q.E.r) (.int .i64 q.E.m) (.slice q.A q.E.fs.length q.c) (.slice q.X q.E.body.length q.d) (.int .i64 q.E.asked) (.int .i64 q.E.got)).size
  have:=HZ7.out;have:=hw8.size;have:=hb9.size;omega)
 have HC10:=Lib.hid hc9
 have HS10:Hid (C.Snd0 s2 (C.abs a8)):=Lib.hid hs8
 have HQG:Hid (q.E.got=1):=Lib.hid (by rw[hq8];rfl)
 unfold EP.v entV
 unfold nine at HB10 HK10 HZ10 HC10
 clear hq8 hc8 hw8 hs8 hb8 hb9 hk9 hc9 HFI HC7 HB8 HZ7
 go_upto_region 7 with fail
 obtain⟨w10,hw10⟩:∃ w10,(((((((((w9.setCell ⟨w8.heap.size,0,none⟩ (.string q.E.k)).setCell ⟨w8.heap.size,1,none⟩ (.string q.E.v)).setCell ⟨w8.heap.size,2,none⟩ (.int .i64 q.E.s)).setCell ⟨w8.heap.size,3,none⟩ (.string q.E.r)).setCell ⟨w8.heap.size,4,none⟩ (.int .i64 q.E.m)).setCell ⟨w8.heap.size,5,none⟩ (.slice q.A q.E.fs.length q.c)).setCell ⟨w8.heap.size,6,none⟩ (.slice q.X q.E.body.length q.d)).setCell ⟨w8.heap.size,7,none⟩ (.int .i64 q.E.asked)).setCell ⟨w8.heap.size,8,none⟩ (.int .i64 q.E.got))=w10:=⟨_,rfl⟩
 rw[hw10]at HB10 HK10 HZ10 HC10 ⊢
 clear hw9 hw10 z0 z1 z2 z3 z4 z5 z6 z7 z8 r0 r1 r2 r3 r4 r5 r6 r7 r8
 generalize w8.heap.size=b4 at *
 obtain⟨u,hall,hpu,hsu⟩:=HX.out.purge _ HS10.out
 have HPG:=Lib.hid (saPurge_any B _ Z5 a8 ⟨#[97]⟩ w10 HC10.out (by decide) (by
  rw[hall]
  intro k hk
  rcases Nat.lt_or_ge k 1 with h1 | h1
  ·obtain rfl:k=0:=by omega
   refine⟨by show a8.hd.length≤_;rw[show a8.hd=[] from HS10.out.hd];exact Nat.zero_le _,fun s hs=>?_⟩
   obtain rfl:s2=s:=Option.some.inj (HS10.out.st.symm.trans hs)
   exact HX.out.b2.fine
  ·obtain rfl:k=1:=by simpa using Nat.le_antisymm hk h1
   rw[show [C.idA].take 1=[C.idA] from rfl,hpu]
   refine⟨by show u.hd.length≤_;rw[hsu.hd];exact Nat.zero_le _,fun s hs=>?_⟩
   obtain rfl:s3=s:=Option.some.inj (hsu.st.symm.trans hs)
   exact HX.out.b3.fine) (tabs_of HTB.out HB10.out HBB.out) HZ10.out)
 rw[hall,hpu]at HPG
 dsimp only at HPG
 have HSU:=Lib.hid hsu
 clear hall hpu hsu HS10
 go_wp2_with fail
 refine HPG.out.mono ?_
 rintro e w11 ⟨Z11,a11,hz11,rfl,hc11,hw11,ha11,hb11⟩
 rw[← hz11]
 have HK11:=Lib.hid (hw11.blk HK10.out (HC10.out.offE HK10.out))
 have HC11:=Lib.hid hc11
 have HB11:=Lib.hid (HB10.out.trans (hb11.mono HBB.out))
 have HZ11:=Lib.hid (Nat.le_trans HZ10.out hw11.size)
 have HS11:Hid (C.Snd0 s3 (C.abs a11)):=Lib.hid (by rw[ha11];exact HSU.out)
 have HF2:=Lib.hid (saFind_any B _ Z11 a11 s3 ⟨#[97]⟩ none 0 [] w11 HC11.out HS11.out (by decide) (by decide) (Rd.nil _ _ _) (tabs_of HTB.out HB11.out HBB.out) HZ11.out)
 rw[HX.out.find3 _ HS11.out]at HF2
 dsimp only[List.length_nil]at HF2
 clear hz11 hc11 hw11 ha11 hb11 HPG HK10 HC10 HB10 HZ10 HSU Z5
 go_wp2_with fail
 refine HF2.out.mono ?_
 rintro e w12 ⟨q2,a12,rfl,-,-,-,hw12,-,hb12⟩
 have HK12:=Lib.hid (hw12.blk HK11.out (HC11.out.offE HK11.out))
 have HB12:=Lib.hid (HB11.out.trans (hb12.mono HBB.out))
 obtain⟨w13,hw13⟩:∃ w13,w12.alloc (.cells #[.string ⟨#[]⟩,.string ⟨#[]⟩,.int .i64 0,.string ⟨#[]⟩,.int .i64 0,.slice none 0 0,.slice none 0 0,.int .i64 0,.int .i64 0] 41)=w13:=⟨_,rfl⟩
 have hb13:Below w12.heap.size w12 w13:=by rw[← hw13];exact (Below.refl _ _).alloc (Nat.le_refl _) _
 have hk13:Blk w13 w12.heap.size #[.string ⟨#[]⟩,.string ⟨#[]⟩,.int .i64 0,.string ⟨#[]⟩,.int .i64 0,.slice none 0 0,.slice none 0 0,.int .i64 0,.int .i64 0] 41:=by rw[← hw13];exact Blk.new w12 _ _
 obtain⟨z0,z1,z2,z3,z4,z5,z6,z7,z8⟩:=hk13.cells9
 obtain⟨r0,r1,r2,r3,r4,r5,r6,r7,r8⟩:=hk13.free9
 have hne:b4≠w12.heap.size:=by have:=HK12.out.lt;omega
 have HK13:=Lib.hid ((HK12.out.below hb13).nine_far hne (.string q2.E.k) (.string q2.E.v) (.int .i64 q2.E.s) (.string q2.E.r) (.int .i64 q2.E.m) (.slice q2.A q2.E.fs.length q2.c) (.slice q2.X q2.E.body.length q2.d) (.int .i64 q2.E.asked) (.int .i64 q2.E.got))
 have HB13:=Lib.hid (below_nine (below_then HB12.out.size HB12.out hb13) HB12.out.size (.string q2.E.k) (.string q2.E.v) (.int .i64 q2.E.s) (.string q2.E.r) (.int .i64 q2.E.m) (.slice q2.A q2.E.fs.length q2.c) (.slice q2.X q2.E.body.length q2.d) (.int .i64 q2.E.asked) (.int .i64 q2.E.got))
 unfold EP.v entV
 unfold nine at HK13 HB13
 have v8:=HK13.out.cell 8 (v:=.int .i64 q.E.got) rfl
 rw[HQG.out]at v8
 clear hw12 hb12 hb13 hk13 hne HF2 HK11 HC11 HB11 HK12 HB12
 go_upto_region 9 with fail
 obtain⟨w14,hw14⟩:∃ w14,(((((((((w13.setCell ⟨w12.heap.size,0,none⟩ (.string q2.E.k)).setCell ⟨w12.heap.size,1,none⟩ (.string q2.E.v)).setCell ⟨w12.heap.size,2,none⟩ (.int .i64 q2.E.s)).setCell ⟨w12.heap.size,3,none⟩ (.string q2.E.r)).setCell ⟨w12.heap.size,4,none⟩ (.int .i64 q2.E.m)).setCell ⟨w12.heap.size,5,none⟩ (.slice q2.A q2.E.fs.length q2.c)).setCell ⟨w12.heap.size,6,none⟩ (.slice q2.X q2.E.body.length q2.d)).setCell ⟨w12.heap.size,7,none⟩ (.int .i64 q2.E.asked)).setCell ⟨w12.heap.size,8,none⟩ (.int .i64 q2.E.got))=w14:=⟨_,rfl⟩
 rw[hw14]at HB13 v8 ⊢
 clear hw13 hw14 HK13 z0 z1 z2 z3 z4 z5 z6 z7 z8 r0 r1 r2 r3 r4 r5 r6 r7 r8
 go_wp2
 go_ret
 exact⟨rfl,HB13.out⟩
end Go.Proofs.YthjeglnkgdpijaaGreatDoor
