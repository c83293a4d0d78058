/- A bounded table of entries in memory: where it lies, what its items are, what other writes leave of it. Plain lemmas. The walk of the store's Open over a new disk. Conditions: as each theorem states them. -/
import Derived.Test.YthjeglnkgdpijaaGreatDoorZ26
set_option maxHeartbeats 4000000
set_option maxRecDepth 100000
namespace Go.Proofs.YthjeglnkgdpijaaGreatDoor
open Go Go.RowKit Go.Maps
open Lr (Ring nU aH9 Fr nx pv adr)
theorem Lr.mapT_ul:Tryz.prog.underlying 120=some (.map 9 119):=by kernel_rfl
theorem Lr.zeroNode (w:World):(zeroValue 119).run Tryz.prog w=.ok (.pointer none) w:=by kernel_rfl
def LrF (t m:Nat) (l:List It) (k:Nat):Prop:=k=t∨k=m∨∃ x∈l,x.k=k
structure fU (B t m room:Nat) (l:List It) (w:World):Prop where
 ring:Ring t l w
 tabc:aH9 w t room (Lr.used l) m
 node:∀ x∈l,nU w x
 items:∃ tb:D.NM,D.Up tb∧w.ownsMap Tryz.prog 9 D.jA m tb.length (D.datum (fun n=>n) tb)∧∀ id,D.find tb id=(Lr.peek l id).map (·.k)
 own:∀ x∈l,gZ w B x.p
 one:(Lr.ids l).Nodup
 fits:Lr.used l≤room∧room≤1073741824
 pos:∀ x∈l,1≤x.z
 small:∀ x∈l,x.id.size≤1073741824∧x.p.E.fs.length≤1099511627776∧x.p.E.body.length≤1099511627776
 ge:B≤t∧B≤m∧∀ x∈l,B≤x.k
section
variable {B t m room:Nat} {l:List It} {w w':World} {F F':Nat→Prop} {k:Nat}
theorem Lr.Ring.below {t:Nat} (h:Ring t l w) (hb:Below w.heap.size w w'):Ring t l w':=h.same (hb.block _ h.tb.lt) (fun y hy=>hb.block _ (h.nd y hy).lt)
theorem aII:∀ {l:List It},(∀ x∈l,1≤x.z)→l.length≤Lr.used l
 | [],_=>zF _
 | x::r,h=>by
  have h1:=aII (l:=r) (fun y hy=>h y (List.mem_cons_of_mem _ hy))
  have h2:=h x (by simp)
  unfold Lr.used at h1 ⊢
  rw[List.length_cons,List.map_cons,List.sum_cons]
  omega
theorem fU.len (h:fU B t m room l w):l.length≤1073741824:=by
 have:=aII h.pos
 have:=h.fits
 omega
theorem fU.map_tag (h:fU B t m room l w):aOY w m:=by
 obtain⟨tb,_,h2,_⟩:=h.items
 exact aC h2
theorem fU.went (h:fU B t m room l w) (hw:aO F w F' w') (hn:∀ k,LrF t m l k→¬ F k) (hr:∀ x∈l,∀ k,ownB x.p.A x.p.c=some k∨ownB x.p.X x.p.d=some k→¬ F k):fU B t m room l w':=by
 have ht:=hw.block t h.ring.tb.lt (hn t (.inl rfl))
 have hk:∀ y∈l,w'.heap[y.k]?=w.heap[y.k]?:=fun y hy=>hw.block _ (h.ring.nd y hy).lt (hn _ (.inr (.inr ⟨y,hy,rfl⟩)))
 obtain⟨tb,i1,i2,i3⟩:=h.items
 exact⟨h.ring.same ht hk,h.tabc.same ht,fun x hx=>(h.node x hx).same (hk x hx),⟨tb,i1,hw.map i2 (hn m (.inr (.inl rfl))),i3⟩,fun x hx=>⟨hw.row (h.own x hx).1 (fun k hk=>hr x hx k (.inl hk)),hw.row (h.own x hx).2 (fun k hk=>hr x hx k (.inr hk))⟩,h.one,h.fits,h.pos,h.small,h.ge⟩
theorem fU.below (h:fU B t m room l w) (hb:Below w.heap.size w w'):fU B t m room l w' :=
 h.went (aO.below hb (fun _=>False)) (fun _ _ h=>h) (fun _ _ _ _ h=>h)
theorem fU.lt (h:fU B t m room l w) (hk:LrF t m l k):k < w.heap.size:=by
 rcases hk with rfl | rfl | ⟨x,hx,rfl⟩
 ·exact h.ring.tb.lt
 ·obtain⟨_,_,e⟩:=h.map_tag
  exact (Array.getElem?_eq_some_iff.1 e).1
 ·exact (h.ring.nd x hx).lt
theorem fU.under (h:fU B t m room l w) (hk:LrF t m l k):B≤k:=by
 rcases hk with rfl | rfl | ⟨x,hx,rfl⟩
 ·exact h.ge.1
 ·exact h.ge.2.1
 ·exact h.ge.2.2 x hx
theorem fU.tag (h:fU B t m room l w) (hk:LrF t m l k):Tag w k Lr.tT∨Tag w k Lr.nT∨aOY w k:=by
 rcases hk with rfl | rfl | ⟨x,hx,rfl⟩
 ·exact .inl h.ring.tb.tag
 ·exact .inr (.inr h.map_tag)
 ·exact .inr (.inl (h.ring.nd x hx).tag)
theorem fU.off (h:fU B t m room l w) {T:TypeId} (ht:Tag w k T) (h1:T≠Lr.tT) (h2:T≠Lr.nT):¬ LrF t m l k:=fun hk=>by
 rcases h.tag hk with h3 | h3 | h3
 ·exact ht.ne h3 h1 rfl
 ·exact ht.ne h3 h2 rfl
 ·exact ht.map h3 rfl
theorem kS {p:EP} (h:gZ w B p) (hw:aO F w F' w') (hF:∀ k,F k→Tag w k Lr.tT∨Tag w k Lr.nT∨aOY w k):gZ w' B p:=by
 have hn:∀ {k T},Tag w k T→T≠Lr.tT→T≠Lr.nT→¬ F k:=fun ht h1 h2 hk=>by
  rcases hF _ hk with h3 | h3 | h3
  ·exact ht.ne h3 h1 rfl
  ·exact ht.ne h3 h2 rfl
  ·exact ht.map h3 rfl
 exact⟨hw.row h.1 (fun k hk=>hn (h.1.tag hk) (by decide) (by decide)),hw.row h.2 (fun k hk=>hn (h.2.tag hk) (by decide) (by decide))⟩
theorem eX (hF:F k) (i:Nat) (v:Value):aO F w F (w.setCell ⟨k,i,none⟩ v):=aO.grown (aT w k i v) (fun _ e=>by cases e;exact hF) (fun _ h=>.inl h)
end
structure bP (B t m room u:Nat) (tb:D.NM) (l0:List It) (w:World):Prop where
 fr:Fr w t Lr.tT
 tabc:aH9 w t room u m
 node:∀ x∈l0,nU w x∧Fr w x.k Lr.nT
 items:w.ownsMap Tryz.prog 9 D.jA m tb.length (D.datum (fun n=>n) tb)
 own:∀ x∈l0,gZ w B x.p
section
variable {B t m room u:Nat} {tb:D.NM} {l0 l:List It} {w w':World} {k j:Nat} {x:It}
theorem fU.base (h:fU B t m room l w):∃ tb,D.Up tb∧(∀ id,D.find tb id=(Lr.peek l id).map (·.k))∧bP B t m room (Lr.used l) tb l w:=by
 obtain⟨tb,i1,i2,i3⟩:=h.items
 exact⟨tb,i1,i3,h.ring.tb,h.tabc,fun x hx=>⟨h.node x hx,h.ring.nd x hx⟩,i2,h.own⟩
theorem bP.ne (h:bP B t m room u tb l0 w) (hk:Tag w k Lr.tT∨Tag w k Lr.nT):k≠m:=by
 rcases hk with hk | hk
 ·exact hk.map (aC h.items)
 ·exact hk.map (aC h.items)
theorem bP.tagK (h:bP B t m room u tb l0 w) (hk:k=t∨∃ y∈l0,y.k=k):Tag w k Lr.tT∨Tag w k Lr.nT:=by
 rcases hk with rfl | ⟨y,hy,rfl⟩
 ·exact .inl h.fr.tag
 ·exact .inr (h.node y hy).2.tag
theorem bP.tagF (h:bP B t m room u tb l0 w) (hk:LrF t m l0 k):Tag w k Lr.tT∨Tag w k Lr.nT∨aOY w k:=by
 rcases hk with rfl | rfl | ⟨y,hy,rfl⟩
 ·exact .inl h.fr.tag
 ·exact .inr (.inr (aC h.items))
 ·exact .inr (.inl (h.node y hy).2.tag)
theorem bP.set (h:bP B t m room u tb l0 w) (hk:k=t∨∃ y∈l0,y.k=k) {i:Nat} (hi:11≤i) (v:Value) :
  bP B t m room u tb l0 (w.setCell ⟨k,i,none⟩ v)∧aO (LrF t m l0) w (LrF t m l0) (w.setCell ⟨k,i,none⟩ v):=by
 have hF:LrF t m l0 k:=hk.elim .inl (fun h=>.inr (.inr h))
 have hw:=eX (w:=w) (F:=LrF t m l0) hF i v
 exact⟨⟨h.fr.set _ _ _,h.tabc.set (fun _=>by show 3≤i;omega) v,fun y hy=>⟨(h.node y hy).1.set (fun _=>hi) v,(h.node y hy).2.set _ _ _⟩,h.items.kept (aT w k i v) (fun e=>h.ne (h.tagK hk) (by simpa using e.symm)),fun y hy=>kS (h.own y hy) hw (fun k hk=>h.tagF hk)⟩,hw⟩
theorem bP.below (h:bP B t m room u tb l0 w) (hb:Below w.heap.size w w'):bP B t m room u tb l0 w':=by
 have hlt:∀ y∈l0,w'.heap[y.k]?=w.heap[y.k]?:=fun y hy=>hb.block _ (h.node y hy).2.lt
 exact⟨h.fr.same (hb.block _ h.fr.lt),h.tabc.same (hb.block _ h.fr.lt),fun y hy=>⟨(h.node y hy).1.same (hlt y hy),(h.node y hy).2.same (hlt y hy)⟩,
  h.items.kept (show w.grownBy w' none from⟨hb.os,hb.tape,hb.output,hb.size,fun k hk _=>hb.block k hk⟩) (by simp),fun y hy=>(h.own y hy).below hb⟩
theorem bP.turn {tb':D.NM} (h:bP B t m room u tb l0 w) (ho:w'.ownsMap Tryz.prog 9 D.jA m tb'.length (D.datum (fun n=>n) tb')) (hg:w.grownBy w' (some m)) :
  bP B t m room u tb' l0 w'∧aO (LrF t m l0) w (LrF t m l0) w'∧w'.heap[t]?=w.heap[t]?∧∀ y∈l0,w'.heap[y.k]?=w.heap[y.k]?:=by
 have hne:∀ {k},(Tag w k Lr.tT∨Tag w k Lr.nT)→w'.heap[k]?=w.heap[k]?:=fun {k} hk=>by
  have hlt:k < w.heap.size:=by
   rcases hk with ⟨_,_,e⟩ | ⟨_,_,e⟩
   ·exact (Array.getElem?_eq_some_iff.1 e).1
   ·exact (Array.getElem?_eq_some_iff.1 e).1
  exact hg.block k hlt (fun e=>h.ne hk (by simpa using e))
 have hT:=hne (.inl h.fr.tag)
 have hN:∀ y∈l0,w'.heap[y.k]?=w.heap[y.k]?:=fun y hy=>hne (.inr (h.node y hy).2.tag)
 have hw:aO (LrF t m l0) w (LrF t m l0) w':=aO.grown hg (fun k e=>by cases e;exact .inr (.inl rfl)) (fun _ h=>.inl h)
 exact⟨⟨h.fr.same hT,h.tabc.same hT,fun y hy=>⟨(h.node y hy).1.same (hN y hy),(h.node y hy).2.same (hN y hy)⟩,ho,fun y hy=>kS (h.own y hy) hw (fun k hk=>h.tagF hk)⟩,hw,hT,hN⟩
theorem bP.count (h:bP B t m room u tb l0 w) (hr:Ring t l w) (u':Nat):bP B t m room u' tb l0 (w.setCell ⟨t,1,none⟩ (.int .i64 u'))∧Ring t l (w.setCell ⟨t,1,none⟩ (.int .i64 u'))∧aO (LrF t m l0) w (LrF t m l0) (w.setCell ⟨t,1,none⟩ (.int .i64 u')):=by
 have hw:=eX (w:=w) (F:=LrF t m l0) (.inl rfl) 1 (.int .i64 u')
 obtain⟨c0,c1,c2⟩:=h.tabc
 have hnt:∀ y∈l0,y.k≠t:=fun y hy=>(h.node y hy).2.tag.ne h.fr.tag (by decide)
 have hN:∀ y∈l0,(w.setCell ⟨t,1,none⟩ (.int .i64 u')).heap[y.k]?=w.heap[y.k]?:=fun y hy=>Below.heap_setCell w ⟨t,1,none⟩ _ _ (hnt y hy)
 refine⟨⟨h.fr.set _ _ _,⟨?_,Lr.fC c1 _,?_⟩,fun y hy=>⟨(h.node y hy).1.same (hN y hy),(h.node y hy).2.set _ _ _⟩,h.items.kept (aT w t 1 _) (fun e=>h.ne (.inl h.fr.tag) (by simpa using e.symm)),fun y hy=>kS (h.own y hy) hw (fun k hk=>h.tagF hk)⟩,⟨fun i hi=>?_,hr.tb.set _ _ _,fun y hy=>(hr.nd y hy).set _ _ _,hr.apart⟩,hw⟩
 ·exact (Lr.aG (fun e=>by have:1=0:=congrArg Addr.off e;omega) _).trans c0
 ·exact (Lr.aG (fun e=>by have:1=2:=congrArg Addr.off e;omega) _).trans c2
 ·obtain⟨l1,l2⟩:=hr.link i hi
  refine⟨(Lr.aG (fun e=>?_) _).trans l1,(Lr.aG (fun e=>?_) _).trans l2⟩
  ·have e2:1=(adr t l i).off+12:=congrArg Addr.off e
   omega
  ·have e2:1=(adr t l (i+1)).off+11:=congrArg Addr.off e
   omega
theorem bP.unlink (h:bP B t m room u tb l0 w) (hr:Ring t l w) (hs:∀ y∈l,y∈l0) (hj:j < l.length) {b1 o1 b2 o2:Nat} (f1:adr t l j=⟨b1,o1,none⟩) (f2:adr t l (j+2)=⟨b2,o2,none⟩) (k1:b1=t∨∃ y∈l,y.k=b1) (k2:b2=t∨∃ y∈l,y.k=b2) :
  bP B t m room u tb l0 ((w.setCell ⟨b1,o1+12,none⟩ (.pointer (some ⟨b2,o2,none⟩))).setCell ⟨b2,o2+11,none⟩ (.pointer (some ⟨b1,o1,none⟩))) ∧
  Ring t (l.eraseIdx j) ((w.setCell ⟨b1,o1+12,none⟩ (.pointer (some ⟨b2,o2,none⟩))).setCell ⟨b2,o2+11,none⟩ (.pointer (some ⟨b1,o1,none⟩))) ∧
  aO (LrF t m l0) w (LrF t m l0) ((w.setCell ⟨b1,o1+12,none⟩ (.pointer (some ⟨b2,o2,none⟩))).setCell ⟨b2,o2+11,none⟩ (.pointer (some ⟨b1,o1,none⟩))):=by
 have hR:=hr.unlink hj
 rw[f1,f2]at hR
 obtain⟨a1,a2⟩:=h.set (k1.imp id (fun⟨y,hy,e⟩=>⟨y,hs y hy,e⟩)) (i:=o1+12) (by omega) (.pointer (some ⟨b2,o2,none⟩))
 obtain⟨a3,a4⟩:=a1.set (k2.imp id (fun⟨y,hy,e⟩=>⟨y,hs y hy,e⟩)) (i:=o2+11) (by omega) (.pointer (some ⟨b1,o1,none⟩))
 exact⟨a3,hR,a2.trans a4⟩
theorem bP.front (h:bP B t m room u tb l0 w) (hr:Ring t l w) (hs:∀ y∈l,y∈l0) (hx:x∈l0) (hn:∀ y∈l,y.k≠x.k) {b o:Nat} (f:adr t l 1=⟨b,o,none⟩) (kb:b=t∨∃ y∈l,y.k=b) {u1 u2:Value} (c1:w.cell? ⟨x.k,11,none⟩=some u1) (c2:w.cell? ⟨x.k,12,none⟩=some u2) :
  bP B t m room u tb l0 ((((w.setCell ⟨x.k,11,none⟩ (.pointer (some ⟨t,3,none⟩))).setCell ⟨x.k,12,none⟩ (.pointer (some ⟨b,o,none⟩))).setCell ⟨t,15,none⟩ (.pointer (some ⟨x.k,0,none⟩))).setCell ⟨b,o+11,none⟩ (.pointer (some ⟨x.k,0,none⟩))) ∧
  Ring t (x::l) ((((w.setCell ⟨x.k,11,none⟩ (.pointer (some ⟨t,3,none⟩))).setCell ⟨x.k,12,none⟩ (.pointer (some ⟨b,o,none⟩))).setCell ⟨t,15,none⟩ (.pointer (some ⟨x.k,0,none⟩))).setCell ⟨b,o+11,none⟩ (.pointer (some ⟨x.k,0,none⟩))) ∧
  aO (LrF t m l0) w (LrF t m l0) ((((w.setCell ⟨x.k,11,none⟩ (.pointer (some ⟨t,3,none⟩))).setCell ⟨x.k,12,none⟩ (.pointer (some ⟨b,o,none⟩))).setCell ⟨t,15,none⟩ (.pointer (some ⟨x.k,0,none⟩))).setCell ⟨b,o+11,none⟩ (.pointer (some ⟨x.k,0,none⟩))):=by
 have hR:=hr.front (h.node x hx).2 hn ((h.node x hx).2.tag.ne h.fr.tag (by decide)) c1 c2
 rw[f]at hR
 have qx:x.k=t∨∃ y∈l0,y.k=x.k:=.inr ⟨x,hx,rfl⟩
 obtain⟨a1,a2⟩:=h.set qx (i:=11) (by omega) (.pointer (some ⟨t,3,none⟩))
 obtain⟨a3,a4⟩:=a1.set qx (i:=12) (by omega) (.pointer (some ⟨b,o,none⟩))
 obtain⟨a5,a6⟩:=a3.set (.inl rfl) (i:=15) (by omega) (.pointer (some ⟨x.k,0,none⟩))
 obtain⟨a7,a8⟩:=a5.set (kb.imp id (fun⟨y,hy,e⟩=>⟨y,hs y hy,e⟩)) (i:=o+11) (by omega) (.pointer (some ⟨x.k,0,none⟩))
 exact⟨a7,hR,((a2.trans a4).trans a6).trans a8⟩
theorem bP.at_ (h:bP B t m room (Lr.used l) tb l0 w) (hr:Ring t l w) (hs:∀ y∈l,y∈l0) (hu:D.Up tb) (hf:∀ id,D.find tb id=(Lr.peek l id).map (·.k)) (h1:(Lr.ids l).Nodup) (h2:Lr.used l≤room∧room≤1073741824) (h3:∀ y∈l,1≤y.z)
  (h4:∀ y∈l,y.id.size≤1073741824∧y.p.E.fs.length≤1099511627776∧y.p.E.body.length≤1099511627776) (h5:B≤t∧B≤m∧∀ y∈l,B≤y.k):fU B t m room l w :=
 ⟨hr,h.tabc,fun y hy=>(h.node y (hs y hy)).1,⟨tb,hu,h.items,hf⟩,fun y hy=>h.own y (hs y hy),h1,h2,h3,h4,h5⟩
theorem bP.look (h:bP B t m room u tb l0 w) (id:ByteArray) (hs:id.size≤1073741824) :
  (Instr.lookup 120 (.map (some m)) (.string id) false).run Tryz.prog w=.ok (D.lG (fun n=>n) (D.find tb id)) w:=by
 obtain⟨v,ps,hr,hv⟩:=h.items.lookup (string_keyed dA) Lr.mapT_ul (Lr.zeroNode w) (zd:=.nil) (zp:=[]) rfl (jU id (by simp only[maxLen];omega))
 rw[hr]
 rw[D.lC]at hv
 cases hf:D.find tb id with
 | none=>rw[hf]at hv;rw[D.aE9 hv];rfl
 | some no=>rw[hf]at hv;rw[D.zG hv];rfl
end
theorem aAS:Tryz.prog.underlying 74=some (.map 9 88):=by kernel_rfl
theorem aEQ (w:World):(zeroValue 88).run Tryz.prog w=.ok (.agg #[]) w:=by kernel_rfl
theorem aIJ {b:Nat} {w:World} (h:w.ownsMap Tryz.prog 9 (unitElem (H:=Unit)) b 0 (.map [])) (nm:ByteArray) (hs:nm.size≤maxLen) :
  (Instr.lookup 74 (.map (some b)) (.string nm) true).run Tryz.prog w=.ok (.tuple #[.agg #[],.bool false]) w:=by
 obtain⟨v,ps,hr,hv⟩:=h.look_ok (string_keyed dA) aAS (aEQ w) (zd:=.agg []) (zp:=[]) unitElem_mk (jU nm hs)
 obtain⟨rfl,_⟩:=unitElem_inv hv
 exact hr
theorem aP5 (nm:ByteArray) (w:World):Calls Tryz.prog 58 #[.string nm,.string ⟨#[111,47]⟩] w (vX w (.bool (S.isO nm))):=by
 have e:Lib.hasPrefix (L nm) (L ⟨#[111,47]⟩)=S.isO nm:=by
  unfold S.isO
  rw[← Lib.hasPrefix_of_take]
  have e2:(L (⟨#[111,47]⟩:ByteArray))=[111,47]:=rfl
  rw[e2,Bool.eq_iff_iff]
  simp only[Bool.and_eq_true,decide_eq_true_eq,beq_iff_eq,List.length_cons,List.length_nil]
  constructor
  ·exact fun h=>h.2
  ·intro h
   refine⟨?_,h⟩
   have:=congrArg List.length h
   rw[List.length_take]at this
   simp at this
   omega
 rw[← e]
 exact iU nm _ w
theorem Tryz.infoT:(Tryz.prog.info? 4).map (fun i=>(i.zero,i.size,i.bytes))=some (some (.bool false),1,1):=by kernel_rfl
theorem aJI (n:Nat) (h1:n≤1099511627776):∃ C:Array Value,C.toList=S.bools (S.marks n [])∧∀ w:World,(Instr.makeSlice 107 (.int .i64 n) (.int .i64 n)).run Tryz.prog w=.ok (.slice (some ⟨w.heap.size,0,none⟩) n n) (w.alloc (.cells C 4)):=by
 obtain⟨i0,hi0,hz0,hz1,hz2⟩:=info_parts Tryz.infoT
 have hmk:=fun w=>run_make (P:=Tryz.prog) w 107 4 i0 _ Tryz.underlying107 hi0 hz0 .i64 .i64 (n:Int) (n:Int) (by omega) (Int.le_refl _) (by rw[hz2];omega) (by omega)
 simp only[hz1,Nat.mul_one,Int.toNat_natCast]at hmk
 refine⟨_,?_,hmk⟩
 rw[S.aJH]
 unfold S.bools
 rw[List.map_replicate]
 apply List.ext_getElem
 ·simp [madeCells]
 ·intro i h1 h2
  simp [madeCells,Value.cells]
  rw[Nat.mod_one]
  rfl
theorem eU.new {B l n:Nat} {M:DM} {d:D.Dsk} {w w1:World} {tb g st:Nat} {bs:List Bool} {C:Array Value} {count:Nat} (h:jX B l M d count w) (hb:Below w.heap.size w w1) (h1:w.heap.size≤tb) (h2:w.heap.size≤g) (h3:w.heap.size≤st)
  (hm:w1.ownsMap Tryz.prog 9 S.xW tb 0 (.map [])) (hC:C.toList=S.bools bs) (hn:bs.length=n) (hn4:n≤4096) (hg:Blk w1 g C 4) (hs:Blk w1 st #[.pointer (some ⟨M.d,0,none⟩),.pointer (some ⟨l,0,none⟩),.map (some tb),.slice (some ⟨g,0,none⟩) n n] 109) :
  eU B ⟨M,st,l,tb,some ⟨g,0,none⟩,n⟩ ⟨d,count,[],bs⟩ w1∧aO (aZ l M d) w ((⟨M,st,l,tb,some ⟨g,0,none⟩,n⟩:SM).foot ⟨d,count,[],bs⟩) w1:=by
 subst hn
 have hB:=h.disk.base
 have hsz:C.size=bs.length:=by have:=congrArg List.length hC;simpa [S.bools] using this
 refine⟨⟨h.below hb,hs,hm,⟨?_,?_⟩,.inl ⟨by simp [S.bools],.inr ⟨g,bs.length,C,rfl,by omega,hg,zA _,?_,by omega,?_⟩⟩,⟨by show B≤st;omega,by show B≤tb;omega⟩⟩,(aO.below hb (aZ l M d)).wide (fun _ h=>h) (fun k hk=>?_)⟩
 ·have:=h.disk.now.lt
  show tb≠M.mN
  omega
 ·have:=h.disk.safe.lt
  show tb≠M.mS
  omega
 ·simp only[maxLen];omega
 ·rw[Nat.mul_one,hC,List.take_of_length_le (by simp [S.bools])]
 ·rcases hk with hk | hk | hk | hk | hk
  ·exact .inl (.inl hk)
  ·exact .inl (.inr hk)
  ·exact .inr (.inr (by rw[hk];exact h3))
  ·exact .inr (.inr (by rw[hk];exact h1))
  ·refine .inr (.inr ?_)
   unfold ownB at hk
   split at hk
   ·cases hk
   ·cases hk;exact h2
def aSA (B:Nat) (M:DM) (d:D.Dsk) (n:Nat) (w:World) (e:Ending) (w':World):Prop :=
 (∃ code:Int,code≠0∧(d.down=false→(S.steps d S.dB).2.2≠0)∧e=.returned (.tuple #[.pointer none,.int .i64 code])∧aO (M.foot d) w (fun _=>False) w') ∨
 (d.down=false∧(S.steps d S.dB).2.2=0∧∃ X d3,(S.steps d S.dB).1=d3∧e=.returned (.tuple #[.pointer (some ⟨X.st,0,none⟩),.int .i64 0])∧eU B X ⟨d3,0,[],S.marks n []⟩ w'∧aO (M.foot d) w (X.foot ⟨d3,0,[],S.marks n []⟩) w'∧X.M.d=M.d)
theorem aDV (p:Value) (slots:Int) (w:World) (h:slots < 0∨4096 < slots):Calls Tryz.prog 25 #[p,.int .i64 slots] w (vX w (.tuple #[.pointer none,.int .i64 131])):=by
 by_cases h0:slots < 0
 ·go_enter Tryz.func25,Tryz.ntmps25
  go_wp2
  go_ret2
  exact⟨rfl,rfl⟩
 ·have h1:slots > 4096:=by omega
  go_enter Tryz.func25,Tryz.ntmps25
  go_wp2
  go_ret2
  exact⟨rfl,rfl⟩
theorem aI6 (B:Nat) (M:DM) (d:D.Dsk) (m n:Nat) (w:World) (h:dD B M d w) (hf:D.Fit m d) (hm:m≤134000000) (hnew:S.has d.list S.dE=false) (hrd:d.read S.bT=([],if d.down=true then 93 else 90)) (hno:∀ nm∈(S.steps d S.dB).1.list,S.isO nm=false∧nm.size≤4096) (hn:n≤4096) :
  Calls Tryz.prog 25 #[.pointer (some ⟨M.d,0,none⟩),.int .i64 n] w (aSA B M d n w):=by
 have HLO:=aH (aBY B M d m w h hf (by omega) hnew hrd)
 have hf3:=S.gK S.dB S.kY hf
 rw[show S.dB.length=3 from rfl]at hf3
 have HF3:=aH hf3
 have HNO3:=aH hno
 obtain⟨C,hC,hmk⟩:=aJI n (by omega)
 have hmm:=@run_makeMap Tryz.prog
 have g0:¬ (n:Int) < 0:=by omega
 have g1:¬ (n:Int) > 4096:=by omega
 clear h hf hnew hrd hno hf3
 go_enter Tryz.func25,Tryz.ntmps25
 go_wp2_with fail
 refine HLO.out.mono ?_
 rintro e w1 (⟨code,hc,hcs,rfl,hw1⟩ | ⟨hdn,d3,hd3,hs3,l,M1,rfl,hl1,hw1,hm1⟩)
 ·have HC:=aH hc
  have HW1:=aH hw1
  have HCS:=aH hcs
  have hcb:(code != 0)=true:=bne_iff_ne.2 hc
  clear hcs hw1 HLO hmk hmm
  go_wp2
  go_ret2
  exact .inl ⟨code,HC.out,HCS.out,rfl,HW1.out⟩
 rw[hd3]at HF3 HNO3
 have HF:=HF3
 have HNO:=HNO3
 have HDN:=aH hdn
 have HD3:=aH hd3
 have HSC:=aH hs3
 clear hdn hd3 hs3 HF3 HNO3
 have HL1:=aH hl1
 have HW1:=aH hw1
 have HM1:=aH hm1
 clear hl1 hw1 hm1 HLO
 go_upto_region 7 with fail
 obtain⟨W1,hW1⟩:∃ W1,w1.alloc (.map #[] 0)=W1:=⟨_,rfl⟩
 have hs1:W1.heap.size=w1.heap.size+1:=by rw[← hW1];exact bJ ..
 have hm0:W1.ownsMap Tryz.prog 9 S.xW w1.heap.size 0 (.map []):=by rw[← hW1];exact World.ownsMap_made w1 Tryz.prog 9 S.xW
 have hb1:Below w1.heap.size w1 W1:=by rw[← hW1];exact (zB _ _).alloc (zA _) _
 rw[hW1]
 obtain⟨W2,hW2⟩:∃ W2,W1.alloc (.cells C 4)=W2:=⟨_,rfl⟩
 have hs2:W2.heap.size=w1.heap.size+1+1:=by rw[← hW2,← hs1];exact bJ ..
 have hg2:Blk W2 (w1.heap.size+1) C 4:=by rw[← hW2,← hs1];exact Blk.new W1 _ _
 have hb2:Below W1.heap.size W1 W2:=by rw[← hW2];exact (zB _ _).alloc (zA _) _
 rw[hW2]
 obtain⟨W3,hW3⟩:∃ W3,W2.alloc (.cells #[.pointer (some ⟨M.d,0,none⟩),.pointer (some ⟨l,0,none⟩),.map (some w1.heap.size),.slice (some ⟨w1.heap.size+1,0,none⟩) n n] 109)=W3:=⟨_,rfl⟩
 have hk3:Blk W3 (w1.heap.size+1+1) #[.pointer (some ⟨M.d,0,none⟩),.pointer (some ⟨l,0,none⟩),.map (some w1.heap.size),.slice (some ⟨w1.heap.size+1,0,none⟩) n n] 109:=by rw[← hW3,← hs2];exact Blk.new W2 _ _
 have hb3:Below W2.heap.size W2 W3:=by rw[← hW3];exact (zB _ _).alloc (zA _) _
 rw[hW3]
 have hb23:=aA hb2.size hb2 hb3
 have hb13:=aA hb1.size hb1 hb23
 have hmk3:W3.ownsMap Tryz.prog 9 S.xW w1.heap.size 0 (.map []):=hm0.kept (show W1.grownBy W3 none from⟨hb23.os,hb23.tape,hb23.output,hb23.size,fun k hk _=>hb23.block k hk⟩) (by simp)
 have hg3:Blk W3 (w1.heap.size+1) C 4:=hg2.below hb3
 obtain⟨hst,hwt⟩:=eU.new HL1.out hb13 (tb:=w1.heap.size) (g:=w1.heap.size+1) (st:=w1.heap.size+1+1) (n:=n) (zA _) (by omega) (by omega) hmk3 hC (S.cZ n []) hn hg3 (by rw[HM1.out];exact hk3)
 have HS3:=aH hst
 have HW3:=aH (HW1.out.trans hwt)
 clear hmk hst hwt hg3 hmk3 hb13 hb23 hb3 hk3 hb2 hg2 hs2 hb1 hm0 hs1 hW1 hW2 hW3 HL1 HW1 hC g0 g1
 obtain⟨X,hX⟩:∃ X:SM,X=⟨M1,w1.heap.size+1+1,l,w1.heap.size,some ⟨w1.heap.size+1,0,none⟩,n⟩:=⟨_,rfl⟩
 rw[← hX]at HS3 HW3
 have e1:w1.heap.size+1+1=X.st:=by rw[hX]
 have e2:l=X.lg:=by rw[hX]
 have e3:M1=X.M:=by rw[hX]
 rw[e1,e2]
 rw[e3]at HM1
 clear hX e1 e2 e3
 go_wp2_with fail
 go_loopw [46] (fun i wr=>i=.int .i64 0∧wr=W3) (fun _ _=>0)
 case atStart=>exact⟨rfl,rfl⟩
 case round =>
  obtain⟨rfl,rfl⟩:=hrel
  go_upto_region 15 with fail
  obtain⟨W4,hW4⟩:∃ W4,wr.alloc (.map #[] 0)=W4:=⟨_,rfl⟩
  have HU4:=aH (World.ownsMap_made wr Tryz.prog 9 (unitElem (H:=Unit)))
  have hb4:Below wr.heap.size wr W4:=by rw[← hW4];exact (zB _ _).alloc (zA _) _
  rw[hW4]at HU4 ⊢
  have HS4:=aH (HS3.out.below hb4)
  have HW4:=aH (HW3.out.trans (aO.below hb4 _))
  have hkp:wr.heap.size < W4.heap.size:=by rw[← hW4,bJ];omega
  have HKP:=aH hkp
  clear hW4 hb4 HS3 HW3 hkp
  generalize wr.heap.size=kp at *
  have HID:=aH (zS B X _ W4 HS4.out List.Pairwise.nil (by show 0≤_;omega))
  have tl:=aC6 HS4.out.tab
  obtain⟨y0,y1,y2,y3⟩:=HS4.out.cells
  clear y0 y1 y3
  dsimp only[List.length_nil]at tl
  go_wp2_with fail
  clear tl y2
  refine HID.out.mono ?_
  rintro e w5 ⟨A5,c5,rfl,hr5,hb5⟩
  have HU5:=aH (HU4.out.kept (show W4.grownBy w5 none from⟨hb5.os,hb5.tape,hb5.output,hb5.size,fun k hk _=>hb5.block k hk⟩) (by simp))
  have HS5:=aH (HS4.out.below hb5)
  have HW5:=aH (HW4.out.trans (aO.below hb5 _))
  clear hr5 hb5 HU4 HS4 HW4 HID HKP
  dsimp only[S.Sto.ids,List.map_nil,List.length_nil]
  go_wp2_with fail
  go_loopw [77] (fun i wr=>i=.int .i64 0∧wr=w5) (fun _ _=>0)
  case atStart=>exact⟨rfl,rfl⟩
  case round =>
   obtain⟨rfl,rfl⟩:=hrel
   obtain⟨wo,rfl⟩:∃ wo:World,wo=wr:=⟨_,rfl⟩
   have HLI:=aH (uU B X.M _ wo HS5.out.log.disk HF.out.ok (bD HF.out.now (by omega)))
   rw[HM1.out]at HLI
   have tl:=aC6 HS5.out.tab
   obtain⟨y0,y1,y2,y3⟩:=HS5.out.cells
   clear y0 y1 y3
   dsimp only[List.length_nil]at tl
   go_wp2_with fail
   clear tl y2
   refine HLI.out.mono ?_
   rintro e w6 ⟨A6,c6,rfl,hr6,hb6⟩
   have HU6:=aH (HU5.out.kept (show wo.grownBy w6 none from⟨hb6.os,hb6.tape,hb6.output,hb6.size,fun k hk _=>hb6.block k hk⟩) (by simp))
   have HS6:=aH (HS5.out.below hb6)
   have HW6:=aH (HW5.out.trans (aO.below hb6 _))
   have HR6:=aH hr6.rd
   clear hr6 hb6 HU5 HS5 HW5 HLI
   obtain⟨ns,hns⟩:∃ ns,d3.list=ns:=⟨_,rfl⟩
   rw[hns]at HR6 HNO ⊢
   have hnl:ns.length≤134000003:=by
    rw[← hns]
    have:=HF.out.now
    have h2:d3.list.length≤d3.now.length:=by unfold D.Dsk.list;split<;>simp
    omega
   clear hns
   go_wp2_with fail
   go_loopw [125] (fun i wr=>∃ k:Nat,k≤ns.length∧i=.int .i64 k∧Below w6.heap.size w6 wr) (fun i _=>ns.length - (intOf i).toNat)
   case atStart=>exact⟨0,zF _,rfl,zB _ _⟩
   case round =>
    obtain⟨k,hk,rfl,hb7⟩:=hrel
    have HB7:=aH hb7
    obtain⟨wp,rfl⟩:∃ wp:World,wp=wr:=⟨_,rfl⟩
    by_cases hlt:k < ns.length
    ·obtain⟨b,o,rfl,hbl,y0⟩:=(HR6.out.below hb7).str hlt rfl
     obtain⟨hO,hsz⟩:=HNO.out (ns[k]'hlt) (List.getElem_mem hlt)
     have hlk:=aIJ (HU6.out.kept (show w6.grownBy wp none from⟨hb7.os,hb7.tape,hb7.output,hb7.size,fun k hk _=>hb7.block k hk⟩) (by simp)) (ns[k]'hlt) (by simp only[maxLen];omega)
     have HIO:=aH (fun u=>aP5 (ns[k]'hlt) u)
     rw[hO]at HIO
     clear hO hsz hb7
     generalize ns[k]'hlt=nm at *
     go_wp2_with fail
     refine (HIO.out _).mono ?_
     rintro e w8 ⟨rfl,rfl⟩
     have HB8:=aH (HB7.out.alloc HB7.out.size (.cells #[] 88):Below w6.heap.size w6 (wp.alloc (.cells #[] 88)))
     clear hlk HIO y0
     go_wp2
     go_roundw
     case rel=>exact⟨k+1,by omega,by go_num,HB8.out⟩
     case measure=>simp [intOf];omega
    ·have hke:k=ns.length:=by omega
     subst hke
     have HS8:=aH (HS6.out.below hb7)
     have HW8:=aH (HW6.out.trans (aO.below hb7 _))
     have HTI:=aH (yT B X _ (m+3) wp HS8.out HF.out (by omega) List.Pairwise.nil (by show 0≤_;omega) (fun _ h=>by cases h) (by show 0≤_;omega))
     clear hb7 HB7 HS6 HW6 HU6 HR6 HNO
     go_wp2_with fail
     refine HTI.out.mono ?_
     rintro e w9 ⟨rfl,X9,hs9,hw9,hst9,hd9,hlg9⟩
     have htd:(⟨d3,0,[],S.marks n []⟩:S.Sto).tidy=⟨d3,0,[],S.marks n []⟩:=by
      unfold S.Sto.tidy
      rw[if_pos (by show 0≤_;omega)]
     rw[htd]at hs9 hw9
     have HS9:=aH hs9
     have HW9:=aH (HW8.out.trans hw9)
     have HD9:=aH (hd9.trans HM1.out)
     rw[← hst9]
     clear hs9 hw9 hd9 hlg9 hst9 HTI HS8 HW8 htd
     go_wp2
     go_ret2
     exact .inr ⟨HDN.out,HSC.out,X9,d3,HD3.out,rfl,HS9.out,HW9.out,HD9.out⟩
end Go.Proofs.YthjeglnkgdpijaaGreatDoor
