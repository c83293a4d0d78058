/- The walks of cache's entry, stored and hide. The walks of the library's IndexFunc and DeleteFunc over texts, at any function value that answers a predicate and makes new memory alone. Conditions: as each theorem states them. -/
import Derived.Test.YthjeglnkgdpijaaGreatDoorZ04
set_option maxHeartbeats 4000000
set_option maxRecDepth 100000
namespace Go.Proofs.YthjeglnkgdpijaaGreatDoor
open Go Go.RowKit Go.Maps
namespace C
def entry (a:CSt) (id:ByteArray):Option O.Ent:=match Lr.peek a.l id with
 | some x=>some x.p.E
 | none=>match a.s with
  | some s=>s.get id
  | none=>none
end C
def aQY (B:Nat) (Z:CM) (a:CSt) (w:World) (x:Option O.Ent) (e:Ending) (w':World):Prop :=
 ∃ p:EP,e=.returned (.tuple #[p.v,.bool x.isSome])∧p.E=x.getD O.Ent.zero∧gB w' B p∧Below w.heap.size w w'∧∀ k,ownB p.A p.c=some k∨ownB p.X p.d=some k→¬ Z.foot a k
theorem CAt.lt {B room k:Nat} {Z:CM} {a:CSt} {w:World} (h:CAt B room Z a w) (hk:Z.foot a k):k < w.heap.size:=by
 rcases hk with hk | rfl | ⟨s,hs,hk⟩
 ·exact h.mem.lt hk
 ·exact h.hid.lt
 ·exact (h.sto s hs).lt hk
theorem CAt.offs {B room k:Nat} {Z:CM} {a:CSt} {w:World} (h:CAt B room Z a w) {x:It} (hx:x∈a.l) (hk:ownB x.p.A x.p.c=some k∨ownB x.p.X x.p.d=some k):¬ Z.foot a k:=by
 have ht:∃ T,Tag w k T∧T≠Lr.tT∧T≠Lr.nT:=by
  rcases hk with hk | hk
  ·exact⟨_,(h.mem.own x hx).1.tag hk,by decide,by decide⟩
  ·exact⟨_,(h.mem.own x hx).2.tag hk,by decide,by decide⟩
 obtain⟨T,h1,h2,h3⟩:=ht
 rintro (hf | rfl | ⟨s,hs,hf⟩)
 ·exact h.mem.off h1 h2 h3 hf
 ·exact h1.map (aF h.hid) rfl
 ·exact h.sep s hs x hx k hk hf
section
variable {w:World} {b b':Nat} {cs:Array Value} {T:TypeId}
theorem Blk.nine_far (h:Blk w b cs T) (hn:b≠b') (y0 y1 y2 y3 y4 y5 y6 y7 y8:Value):Blk (nine w b' y0 y1 y2 y3 y4 y5 y6 y7 y8) b cs T :=
 (dW (F:=fun k=>k=b') rfl y0 y1 y2 y3 y4 y5 y6 y7 y8).blk h hn
theorem gB.nine_far {B:Nat} {p:EP} (h:gB w B p) (ht:Tag w b 41) (y0 y1 y2 y3 y4 y5 y6 y7 y8:Value):gB (nine w b y0 y1 y2 y3 y4 y5 y6 y7 y8) B p :=
 ⟨(dW (F:=fun k=>k=b) rfl y0 y1 y2 y3 y4 y5 y6 y7 y8).row h.1 (fun k hk=>(h.1.tag hk).ne ht (by decide)),(dW (F:=fun k=>k=b) rfl y0 y1 y2 y3 y4 y5 y6 y7 y8).row h.2 (fun k hk=>(h.2.tag hk).ne ht (by decide))⟩
end
theorem aBQ (B room:Nat) (Z:CM) (a:CSt) (id:ByteArray) (m:Nat) (w:World) (h:CAt B room Z a w) (hs:id.size≤1073741824) (hf:∀ s,a.s=some s→D.Fit m s.d∧∀ p∈s.tab,p.2 < 4096) (hm:m≤268435456) (ht:Tabs w) (hB:B≤w.heap.size) :
  Calls Tryz.prog 28 #[.pointer (some ⟨Z.c,0,none⟩),.string id] w (aQY B Z a w (C.entry a id)):=by
 obtain⟨w0,hw0⟩:∃ w0,w.alloc (.cells #[.string ⟨#[]⟩,.string ⟨#[]⟩,.int .i64 0,.string ⟨#[]⟩,.int .i64 0,.slice none 0 0,.slice none 0 0,.int .i64 0,.int .i64 0] 41)=w0:=⟨_,rfl⟩
 have hb0:Below w.heap.size w w0:=by rw[← hw0];exact (zB _ _).alloc (zA _) _
 have hk0:Blk w0 w.heap.size #[.string ⟨#[]⟩,.string ⟨#[]⟩,.int .i64 0,.string ⟨#[]⟩,.int .i64 0,.slice none 0 0,.slice none 0 0,.int .i64 0,.int .i64 0] 41:=by rw[← hw0];exact Blk.new w _ _
 have h0:=h.below hb0
 obtain⟨y,hy1,hy2,hy3,hy4⟩:∃ y:EP,itV (Lr.peek a.l id)=y.v∧gB w0 B y∧y.E=((Lr.peek a.l id).map (·.p.E)).getD O.Ent.zero∧∀ k,ownB y.A y.c=some k∨ownB y.X y.d=some k→¬ Z.foot a k:=by
  cases hp:Lr.peek a.l id with
  | none=>exact⟨EP.nil,rfl,⟨Row.none_ _ _ _ _,Row.none_ _ _ _ _⟩,rfl,fun k hk=>by rcases hk with hk | hk<;>cases hk⟩
  | some x=>exact⟨x.p,rfl,h0.mem.own x (List.mem_of_find?_eq_some hp),rfl,fun k hk=>h.offs (List.mem_of_find?_eq_some hp) hk⟩
 have HPK:=aH (kG B Z.t Z.m room a.l id w0 h0.mem hs)
 unfold aDV at HPK
 rw[hy1]at HPK
 obtain⟨y0,y1,y2⟩:=h0.cells
 have HB0:=aH hb0
 have HK0:=aH hk0
 have H0:=aH h0
 have HY:=aH hy2
 have HYE:=aH hy3
 have HYF:=aH hy4
 have HLT:=aH (fun k (hk:Z.foot a k)=>h.lt hk)
 have HF:=aH hf
 have HT:=aH (ht.below hb0)
 obtain⟨ok,hok⟩:∃ ok,(Lr.peek a.l id).isSome=ok:=⟨_,rfl⟩
 rw[hok]at HPK
 have HOK:=aH hok
 clear hb0 hk0 h0 hy1 hy2 hy3 hy4 hf ht hok h
 go_enter Tryz.func28,Tryz.ntmps28
 go_wp2_with fail
 clear hw0
 refine HPK.out.mono ?_
 rintro e w1 ⟨rfl,hb1⟩
 obtain⟨w2,hw2⟩:∃ w2,w1.alloc (.cells #[.string ⟨#[]⟩,.string ⟨#[]⟩,.int .i64 0,.string ⟨#[]⟩,.int .i64 0,.slice none 0 0,.slice none 0 0,.int .i64 0,.int .i64 0] 41)=w2:=⟨_,rfl⟩
 have hb2:Below w1.heap.size w1 w2:=by rw[← hw2];exact (zB _ _).alloc (zA _) _
 have hk2:Blk w2 w1.heap.size #[.string ⟨#[]⟩,.string ⟨#[]⟩,.int .i64 0,.string ⟨#[]⟩,.int .i64 0,.slice none 0 0,.slice none 0 0,.int .i64 0,.int .i64 0] 41:=by rw[← hw2];exact Blk.new w1 _ _
 obtain⟨z0,z1,z2,z3,z4,z5,z6,z7,z8⟩:=hk2.cells9
 obtain⟨g0,g1,g2,g3,g4,g5,g6,g7,g8⟩:=hk2.free9
 have hk3:=hk2.set9 (.string y.E.k) (.string y.E.v) (.int .i64 y.E.s) (.string y.E.r) (.int .i64 y.E.m) (.slice y.A y.E.fs.length y.c) (.slice y.X y.E.body.length y.d) (.int .i64 y.E.asked) (.int .i64 y.E.got)
 have hne:w.heap.size≠w1.heap.size:=by have h1:=hb1.size;have h2:=HK0.out.lt;omega
 have HK3:=aH ((((HK0.out.below hb1).below hb2)).nine_far hne (.string y.E.k) (.string y.E.v) (.int .i64 y.E.s) (.string y.E.r) (.int .i64 y.E.m) (.slice y.A y.E.fs.length y.c) (.slice y.X y.E.body.length y.d) (.int .i64 y.E.asked) (.int .i64 y.E.got))
 have HB3:=aH (aK (aA (bD HB0.out.size hb1.size) (aA HB0.out.size HB0.out hb1) hb2) (bD HB0.out.size hb1.size) (.string y.E.k) (.string y.E.v) (.int .i64 y.E.s) (.string y.E.r) (.int .i64 y.E.m) (.slice y.A y.E.fs.length y.c) (.slice y.X y.E.body.length y.d) (.int .i64 y.E.asked) (.int .i64 y.E.got))
 have HW3:=aH (aK hb2 (zA _) (.string y.E.k) (.string y.E.v) (.int .i64 y.E.s) (.string y.E.r) (.int .i64 y.E.m) (.slice y.A y.E.fs.length y.c) (.slice y.X y.E.body.length y.d) (.int .i64 y.E.asked) (.int .i64 y.E.got))
 have HY3:=aH (((HY.out.below hb1).below hb2).nine_far hk2.tag (.string y.E.k) (.string y.E.v) (.int .i64 y.E.s) (.string y.E.r) (.int .i64 y.E.m) (.slice y.A y.E.fs.length y.c) (.slice y.X y.E.body.length y.d) (.int .i64 y.E.asked) (.int .i64 y.E.got))
 have HB1:=aH hb1
 unfold nine at hk3 HK3 HB3 HY3 HW3
 obtain⟨w3,hw3⟩:∃ w3,(((((((((w2.setCell ⟨w1.heap.size,0,none⟩ (.string y.E.k)).setCell ⟨w1.heap.size,1,none⟩ (.string y.E.v)).setCell ⟨w1.heap.size,2,none⟩ (.int .i64 y.E.s)).setCell ⟨w1.heap.size,3,none⟩ (.string y.E.r)).setCell ⟨w1.heap.size,4,none⟩ (.int .i64 y.E.m)).setCell ⟨w1.heap.size,5,none⟩ (.slice y.A y.E.fs.length y.c)).setCell ⟨w1.heap.size,6,none⟩ (.slice y.X y.E.body.length y.d)).setCell ⟨w1.heap.size,7,none⟩ (.int .i64 y.E.asked)).setCell ⟨w1.heap.size,8,none⟩ (.int .i64 y.E.got))=w3:=⟨_,rfl⟩
 rw[hw3]at hk3 HK3 HB3 HY3 HW3
 obtain⟨x0,x1,x2,x3,x4,x5,x6,x7,x8⟩:=hk3.cells9
 obtain⟨r0,r1,r2,r3,r4,r5,r6,r7,r8⟩:=HK3.out.free9
 obtain⟨v0,v1,v2,v3,v4,v5,v6,v7,v8⟩:=HK3.out.cells9
 have H3:=aH ((H0.out.below hb1).below HW3.out)
 obtain⟨y0,y1,y2⟩:=H3.out.cells
 clear hb1 hk2 hk3 hb2 HPK
 unfold EP.v kK
 cases hp:Lr.peek a.l id with
 | some x =>
  have hok:ok=true:=by rw[← HOK.out,hp];rfl
  subst hok
  have HP:=aH hp
  clear hp
  go_wp2_with fail
  clear x0 x1 x2 x3 x4 x5 x6 x7 x8 v0 v1 v2 v3 v4 v5 v6 v7 v8 r0 r1 r2 r3 r4 r5 r6 r7 r8 z0 z1 z2 z3 z4 z5 z6 z7 z8 g0 g1 g2 g3 g4 g5 g6 g7 g8 hw3 hw2 y0 y1 y2
  obtain⟨d0,d1,d2,d3,d4,d5,d6,d7,d8⟩:=(HK3.out.set9 (.string y.E.k) (.string y.E.v) (.int .i64 y.E.s) (.string y.E.r) (.int .i64 y.E.m) (.slice y.A y.E.fs.length y.c) (.slice y.X y.E.body.length y.d) (.int .i64 y.E.asked) (.int .i64 y.E.got)).cells9
  unfold nine at d0 d1 d2 d3 d4 d5 d6 d7 d8
  refine bK (v:=.tuple #[.agg #[.string y.E.k,.string y.E.v,.int .i64 y.E.s,.string y.E.r,.int .i64 y.E.m,.slice y.A y.E.fs.length y.c,.slice y.X y.E.body.length y.d,.int .i64 y.E.asked,.int .i64 y.E.got],.bool true]) (by simp [results,Tryz.results28,go_sem,d0,d1,d2,d3,d4,d5,d6,d7,d8]) rfl ?_
  have hen:C.entry a id=some x.p.E:=by unfold C.entry;rw[HP.out]
  rw[hen]
  refine⟨y,rfl,?_,HY3.out.nine_far HK3.out.tag (.string y.E.k) (.string y.E.v) (.int .i64 y.E.s) (.string y.E.r) (.int .i64 y.E.m) (.slice y.A y.E.fs.length y.c) (.slice y.X y.E.body.length y.d) (.int .i64 y.E.asked) (.int .i64 y.E.got),aK HB3.out (zA _) (.string y.E.k) (.string y.E.v) (.int .i64 y.E.s) (.string y.E.r) (.int .i64 y.E.m) (.slice y.A y.E.fs.length y.c) (.slice y.X y.E.body.length y.d) (.int .i64 y.E.asked) (.int .i64 y.E.got),HYF.out⟩
  rw[HYE.out,HP.out]
  rfl
 | none =>
  have hok:ok=false:=by rw[← HOK.out,hp];rfl
  subst hok
  have HP:=aH hp
  clear hp
  cases hs2:a.s with
  | none =>
   rw[hs2]at y0
   have HS:=aH hs2
   clear hs2
   dsimp only[Option.map]at y0
   go_wp2_with fail
   clear x0 x1 x2 x3 x4 x5 x6 x7 x8 v0 v1 v2 v3 v4 v5 v6 v7 v8 r0 r1 r2 r3 r4 r5 r6 r7 r8 z0 z1 z2 z3 z4 z5 z6 z7 z8 g0 g1 g2 g3 g4 g5 g6 g7 g8 hw3 hw2 y0 y1 y2
   obtain⟨d0,d1,d2,d3,d4,d5,d6,d7,d8⟩:=(HK3.out.set9 (.string y.E.k) (.string y.E.v) (.int .i64 y.E.s) (.string y.E.r) (.int .i64 y.E.m) (.slice y.A y.E.fs.length y.c) (.slice y.X y.E.body.length y.d) (.int .i64 y.E.asked) (.int .i64 y.E.got)).cells9
   unfold nine at d0 d1 d2 d3 d4 d5 d6 d7 d8
   refine bK (v:=.tuple #[.agg #[.string y.E.k,.string y.E.v,.int .i64 y.E.s,.string y.E.r,.int .i64 y.E.m,.slice y.A y.E.fs.length y.c,.slice y.X y.E.body.length y.d,.int .i64 y.E.asked,.int .i64 y.E.got],.bool false]) (by simp [results,Tryz.results28,go_sem,d0,d1,d2,d3,d4,d5,d6,d7,d8]) rfl ?_
   have hen:C.entry a id=none:=by unfold C.entry;rw[HP.out];simp only;rw[HS.out]
   rw[hen]
   refine⟨y,rfl,?_,HY3.out.nine_far HK3.out.tag (.string y.E.k) (.string y.E.v) (.int .i64 y.E.s) (.string y.E.r) (.int .i64 y.E.m) (.slice y.A y.E.fs.length y.c) (.slice y.X y.E.body.length y.d) (.int .i64 y.E.asked) (.int .i64 y.E.got),aK HB3.out (zA _) (.string y.E.k) (.string y.E.v) (.int .i64 y.E.s) (.string y.E.r) (.int .i64 y.E.m) (.slice y.A y.E.fs.length y.c) (.slice y.X y.E.body.length y.d) (.int .i64 y.E.asked) (.int .i64 y.E.got),HYF.out⟩
   rw[HYE.out,HP.out]
   rfl
  | some s =>
   rw[hs2]at y0
   have HGT:=aH (aK4 B Z.X s id m w3 (H3.out.sto s hs2) (HF.out s hs2).1 hm (HF.out s hs2).2 (by omega) (HT.out.below (aA (bD (zA _) HB1.out.size) HB1.out HW3.out)))
   have HS:=aH hs2
   clear hs2
   dsimp only[Option.map]at y0
   go_wp2_with fail
   clear x0 x1 x2 x3 x4 x5 x6 x7 x8 v0 v1 v2 v3 v4 v5 v6 v7 v8 r0 r1 r2 r3 r4 r5 r6 r7 r8 z0 z1 z2 z3 z4 z5 z6 z7 z8 g0 g1 g2 g3 g4 g5 g6 g7 g8 hw3 hw2 y0 y1 y2
   refine HGT.out.mono ?_
   rintro e w4 ⟨A,c,Xb,dd,rfl,hr1,hr2,hb4⟩
   have HEN:Hid (C.entry a id=s.get id):=aH (by unfold C.entry;rw[HP.out];simp only;rw[HS.out])
   obtain⟨g,hgE,hgA,hgc,hgX,hgd⟩:∃ g:EP,g.E=(s.get id).getD O.Ent.zero∧g.A=A∧g.c=c∧g.X=Xb∧g.d=dd:=⟨⟨_,A,c,Xb,dd⟩,rfl,rfl,rfl,rfl,rfl⟩
   subst hgA hgc hgX hgd
   rw[← hgE]at hr1 hr2 ⊢
   obtain⟨okg,hokg⟩:∃ okg,(s.get id).isSome=okg:=⟨_,rfl⟩
   rw[hokg]
   have HGE:=aH hgE
   have HOG:=aH hokg
   have HK4:=aH (HK3.out.below hb4)
   have HB4:=aH (aA HB3.out.size HB3.out hb4)
   have HG4:=aH (⟨hr1.mono (bD hB HB3.out.size),hr2.mono (bD hB HB3.out.size)⟩:gB w4 B g)
   obtain⟨r0,r1,r2,r3,r4,r5,r6,r7,r8⟩:=HK4.out.free9
   obtain⟨v0,v1,v2,v3,v4,v5,v6,v7,v8⟩:=HK4.out.cells9
   have HGF:=aH (fun k (hk:ownB g.A g.c=some k∨ownB g.X g.d=some k) (hf:Z.foot a k)=>(by
    have h1:=HLT.out k hf
    have h2:=HB3.out.size
    rcases hk with hk | hk
    ·have h3:=(hr1.lt k hk).1
     omega
    ·have h3:=(hr2.lt k hk).1
     omega:False))
   clear hr1 hr2 hb4 hgE hokg HGT
   unfold kK
   go_wp2_with fail
   clear v0 v1 v2 v3 v4 v5 v6 v7 v8 r0 r1 r2 r3 r4 r5 r6 r7 r8
   obtain⟨d0,d1,d2,d3,d4,d5,d6,d7,d8⟩:=(HK4.out.set9 (.string g.E.k) (.string g.E.v) (.int .i64 g.E.s) (.string g.E.r) (.int .i64 g.E.m) (.slice g.A g.E.fs.length g.c) (.slice g.X g.E.body.length g.d) (.int .i64 g.E.asked) (.int .i64 g.E.got)).cells9
   unfold nine at d0 d1 d2 d3 d4 d5 d6 d7 d8
   refine bK (v:=.tuple #[.agg #[.string g.E.k,.string g.E.v,.int .i64 g.E.s,.string g.E.r,.int .i64 g.E.m,.slice g.A g.E.fs.length g.c,.slice g.X g.E.body.length g.d,.int .i64 g.E.asked,.int .i64 g.E.got],.bool okg]) (by simp [results,Tryz.results28,go_sem,d0,d1,d2,d3,d4,d5,d6,d7,d8]) rfl ?_
   rw[HEN.out]
   refine⟨g,by rw[HOG.out];rfl,HGE.out,gB.nine_far HG4.out HK4.out.tag (.string g.E.k) (.string g.E.v) (.int .i64 g.E.s) (.string g.E.r) (.int .i64 g.E.m) (.slice g.A g.E.fs.length g.c) (.slice g.X g.E.body.length g.d) (.int .i64 g.E.asked) (.int .i64 g.E.got),aK HB4.out (zA _) (.string g.E.k) (.string g.E.v) (.int .i64 g.E.s) (.string g.E.r) (.int .i64 g.E.m) (.slice g.A g.E.fs.length g.c) (.slice g.X g.E.body.length g.d) (.int .i64 g.E.asked) (.int .i64 g.E.got),HGF.out⟩
end Go.Proofs.YthjeglnkgdpijaaGreatDoor
namespace Go.Proofs.YthjeglnkgdpijaaGreatDoor
open Go Go.RowKit
structure aQU (g:Nat) (lb:Array Value) (p:ByteArray→Bool) (ok:ByteArray→Prop) (I:World→Prop) (gb:Option Nat):Prop where
 enter:∀ args w,(callFunc g args).run Tryz.prog w=.ok (.enter g args) w
 call:∀ x w,ok x→I w→Calls Tryz.prog g (#[.string x]++lb) w (pR w (p x))
 new:∀ w w',I w→Below w.heap.size w w'→I w'
 set:∀ w b i v,gb=some b→I w→I (w.setCell ⟨b,i,none⟩ v)
section
variable {g:Nat} {lb:Array Value} {p:ByteArray→Bool} {ok:ByteArray→Prop} {I:World→Prop} {gb:Option Nat} {α:Type}
def aQ3 (p:α→Bool) (l:List α) (r:Int):Prop:=(r=-1∧∀ x∈l,p x=false)∨∃ (k:Nat) (h:k < l.length),r=k∧p l[k]=true∧∀ x∈l.take k,p x=false
theorem aGD (A:Option Addr) (n c:Nat) (xs:List ByteArray) (w:World) (hn:n≤1099511627776) (hl:xs.length=n) (hok:∀ x∈xs,ok x) (H:aQU g lb p ok I gb) (hI:I w) (hx:Rd w A n 1 (aC xs)) :
  Calls Tryz.prog 87 #[.slice A n c,.func (.func g) #[] lb] w (fun e w'=>∃ r:Int,e=.returned (.int .i64 r)∧aQ3 p xs r∧Below w.heap.size w w'):=by
 have HL:=aH hl
 have HOK:=aH hok
 have HC:=aH H.call
 have HNW:=aH H.new
 have HI:=aH hI
 have eg:=H.enter
 clear hl hok H hI
 go_enter Tryz.func87,Tryz.ntmps87
 go_wp2
 go_loopw [5,8] (fun _ i wr=>∃ k:Nat,k≤n∧i=.int .i64 k∧(∀ x∈xs.take k,p x=false)∧Below w.heap.size w wr) (fun _ i _=>n - (intOf i).toNat)
 case atStart=>exact⟨0,zF _,rfl,by simp,zB _ _⟩
 case round =>
  obtain⟨k,hk,rfl,ha,hbel⟩:=hrel
  have HA:=aH ha
  have HB:=aH hbel
  clear ha
  by_cases hlt:k < n
  ·have hkl:k < xs.length:=by rw[HL.out];exact hlt
   obtain⟨b,o,rfl,hb,cx⟩:=(hx.below hbel).str hlt HL.out
   have hcc:=HC.out (xs[k]'hkl) wr (HOK.out _ (List.getElem_mem hkl)) (HNW.out _ _ HI.out hbel)
   obtain⟨x,hxk⟩:∃ x,x=xs[k]'hkl:=⟨_,rfl⟩
   rw[← hxk]at cx hcc
   have HK:=aH hxk
   clear hxk hbel
   obtain⟨t,ht⟩:∃ t,p x=t:=⟨_,rfl⟩
   rw[ht]at hcc
   have HT:=aH ht
   clear ht
   cases t with
   | true =>
    go_wp2_with (go_at_fn g;refine hcc.mono ?_;rintro e w1 ⟨rfl,hb1⟩)
    go_ret
    exact⟨k,rfl,.inr ⟨k,hkl,rfl,by rw[← HK.out];exact HT.out,HA.out⟩,oN HB.out hb1⟩
   | false =>
    go_wp2_with (go_at_fn g;refine hcc.mono ?_;rintro e w1 ⟨rfl,hb1⟩;have HB1:=aH (oN HB.out hb1))
    go_roundw
    case rel =>
     refine⟨k+1,by omega,by go_num,?_,HB1.out⟩
     intro y hy
     rw[bI hkl]at hy
     rcases List.mem_append.1 hy with hy | hy
     ·exact HA.out y hy
     ·rw[List.mem_singleton.1 hy,← HK.out];exact HT.out
    case measure=>simp [intOf];omega
  ·have hall:∀ x∈xs,p x=false:=by
    have:=HA.out
    rw[List.take_of_length_le (by rw[HL.out];omega)]at this
    exact this
   have HALL:=aH hall
   clear hall
   go_wp2
   go_ret
   exact⟨-1,rfl,.inl ⟨rfl,HALL.out⟩,hbel⟩
theorem aCQ (l:List ByteArray) (i:Nat):(aC l).take i=aC (l.take i):=by
 unfold aC
 rw[List.map_take]
theorem aFJ (l:List ByteArray) (i:Nat) (x:ByteArray):(aC l).set i (.string x)=aC (l.set i x):=by
 unfold aC
 rw[List.map_set]
theorem aQL {w:World} {base g n c i:Nat} {xs:List ByteArray} (h:w.ownsRow base 9 1 (.slice (some ⟨g,0,none⟩) n c) n (aC xs)) (hi:i < n) :
  ∃ W,(∀ ty,(Builtin.clear_ #[55] ty #[.slice (some ⟨g,i,none⟩) (n - i) (c - i)]).run Tryz.prog w=.ok (.tuple #[]) W)∧Row W base 9 1 (some ⟨g,0,none⟩) i c (aC (xs.take i))∧w.grownBy W (some g):=by
 rcases h.2 with ⟨h',_⟩ | ⟨g',cap,cur,hv,hb,hg,hnc,hcm,hcs,ht⟩
 ·cases h'
 ·cases hv
  have hz:∀ w:World,(zeroValue 9).run Tryz.prog w=.ok (.string ⟨#[]⟩) w:=Tryz.zeroValue9
  have hzs:(Builtin.zeroCells #[.string ⟨#[]⟩] (n - i)).size=n - i:=by simp [Builtin.zeroCells]
  have hz1:∀ v∈(Builtin.zeroCells #[.string ⟨#[]⟩] (n - i)).toList,v.oneCell'=true:=by
   intro v hv
   simp only[Builtin.zeroCells,Array.toList_map,List.mem_map]at hv
   obtain⟨j,_,rfl⟩:=hv
   show Value.oneCell' (#[Value.string ⟨#[]⟩][j % 1]!)=true
   rw[Nat.mod_one]
   rfl
  have hst:=run_storeCells_at Tryz.prog g i 9 (Builtin.zeroCells #[.string ⟨#[]⟩] (n - i)).toList 0 cur w hg (by rw[Array.length_toList,hzs];omega) hz1
  generalize hnew:(List.take (i+0) cur.toList++(Builtin.zeroCells #[.string ⟨#[]⟩] (n - i)).toList++List.drop (i+0+(Builtin.zeroCells #[.string ⟨#[]⟩] (n - i)).toList.length) cur.toList).toArray=new at hst
  have hs1:new.size=c * 1:=by
   rw[← hnew]
   simp only[List.size_toArray,bC,List.length_take,List.length_drop,Array.length_toList,hzs]
   omega
  have hs2:new.toList.take (i * 1)=aC (xs.take i):=by
   rw[Nat.mul_one]at ht ⊢
   rw[← hnew,Nat.add_zero,List.toList_toArray,List.append_assoc,List.take_append_of_le_length (by simp;omega),List.take_take,Nat.min_self,← aCQ,← ht,List.take_take,Nat.min_eq_left (by omega)]
  have hs3:(aC (xs.take i)).length=i * 1:=by
   have:=h.1
   unfold aC at this ⊢
   rw[List.length_map]at this ⊢
   rw[List.length_take]
   omega
  refine⟨w.setRow g new,fun ty=>?_,.inl ⟨hs3,.inr ⟨g,c,new,rfl,hb,setRow_heap w g cur _ _ _ hg,by omega,hcm,hs1,hs2⟩⟩,⟨rfl,rfl,rfl,by simp,fun k hk hne=>setRow_other w g k _ (fun e=>hne (by rw[e]))⟩⟩
  have hni:n - i≠0:=by omega
  obtain⟨q,hq⟩:∃ q,n - i=q+1:=⟨n - i - 1,by omega⟩
  rw[hq]at hst ⊢
  simp [Builtin.clear_,run_underlying Tryz.underlying55,hz,Value.cells,hst]
structure aKK (p:α→Bool) (fs xs:List α) (i j:Nat):Prop where
 len:xs.length=fs.length
 lt:i < j
 le:j≤fs.length
 front:xs.take i=(fs.take j).filter fun f=>!p f
 back:xs.drop j=fs.drop j
theorem aKK.at_ {p:α→Bool} {fs xs:List α} {i j:Nat} (h:aKK p fs xs i j) (hj:j < fs.length):∃ hx:j < xs.length,xs[j]=fs[j]:=by
 have hx:j < xs.length:=by rw[h.len];exact hj
 refine⟨hx,?_⟩
 have:=h.back
 rw[List.drop_eq_getElem_cons hx,List.drop_eq_getElem_cons hj]at this
 injection this
theorem aKK.skip {p:α→Bool} {fs xs:List α} {i j:Nat} (h:aKK p fs xs i j) (hj:j < fs.length) (hp:p fs[j]=true):aKK p fs xs i (j+1):=by
 obtain⟨h1,h2,h3,h4,h5⟩:=h
 refine⟨h1,by omega,by omega,?_,?_⟩
 ·rw[F.eX _ _ _ hj,if_neg (by simp [hp]),List.append_nil];exact h4
 ·rw[← List.drop_drop,← List.drop_drop,h5]
theorem aKK.move {p:α→Bool} {fs xs:List α} {i j:Nat} (h:aKK p fs xs i j) (hj:j < fs.length) (hp:p fs[j]=false):aKK p fs (xs.set i fs[j]) (i+1) (j+1):=by
 obtain⟨h1,h2,h3,h4,h5⟩:=h
 have hi:i < xs.length:=by omega
 refine⟨by simpa using h1,by omega,by omega,?_,?_⟩
 ·rw[F.eX _ _ _ hj,if_pos (by simp [hp]),← h4,bI (by simpa using hi)]
  simp [List.take_set_of_le]
 ·rw[List.drop_set_of_lt (by omega),← List.drop_drop,← List.drop_drop,h5]
theorem uD (base:Nat) (A:Option Addr) (n c:Nat) (xs:List ByteArray) (w:World) (hn:n≤1099511627776) (hok:∀ x∈xs,ok x) (H:aQU g lb p ok I (ownB A c)) (hI:I w) (hr:Row w base 9 1 A n c (aC xs)) :
  Calls Tryz.prog 43 #[.slice A n c,.func (.func g) #[] lb] w (fun e w'=>∃ A',e=.returned (.slice A' (xs.filter fun x=>!p x).length c)∧Row w' base 9 1 A' (xs.filter fun x=>!p x).length c (aC (xs.filter fun x=>!p x))∧w.grownBy w' (ownB A c)):=by
 have hcap:=hr.cap
 have hl:xs.length=n:=by
  have:=hr.rd.1
  unfold aC at this
  rw[List.length_map]at this
  omega
 have HX:=aH (aGD A n c xs w hn hl hok H hI hr.rd)
 have HL:=aH hl
 have HOK:=aH hok
 have HH:=aH H
 have HI:=aH hI
 clear hl hok H hI
 go_enter Tryz.func43,Tryz.ntmps43
 go_wp2_with fail
 refine HX.out.mono ?_
 rintro e w1 ⟨r,rfl,hat,hb1⟩
 have hr1:=hr.below hb1
 have hg1:w.grownBy w1 (ownB A c):=⟨hb1.os,hb1.tape,hb1.output,hb1.size,fun k hk _=>hb1.block k hk⟩
 have HI1:=aH (HH.out.new _ _ HI.out hb1)
 have HG1:=aH hg1
 clear HX hr hb1 hg1
 rcases hat with ⟨rfl,hall⟩ | ⟨i0,hi0,rfl,hp0,hbef⟩
 ·have hk:(xs.filter fun x=>!p x)=xs:=List.filter_eq_self.2 (fun x hx=>by simp [hall x hx])
  have HK:=aH hk
  clear hk hall
  go_wp2
  go_ret
  exact⟨A,by rw[HK.out,HL.out];rfl,by rw[HK.out,HL.out];exact hr1,HG1.out⟩
 ·have hin:i0 < n:=by rw[← HL.out];exact hi0
  rcases hr1 with hr1 | ⟨h0,_,_⟩
  case inr=>omega
  have hM0:aKK p xs xs i0 (i0+1):=by
   refine⟨rfl,by omega,by omega,?_,rfl⟩
   rw[F.eX _ _ _ hi0,if_neg (by simp [hp0]),List.append_nil]
   exact (List.filter_eq_self.2 (fun x hx=>by simp [hbef x hx])).symm
  have HM0:=aH hM0
  obtain⟨ga,cap,hga,hbase,hlt⟩:=hr1.form (by omega)
  cases hga
  have hown:ownB (some ⟨ga,0,none⟩) c=some ga:=by unfold ownB;rw[if_neg (by omega)];rfl
  rw[hown]at HG1 HH
  have HOW:=aH hown
  have eg:=HH.out.enter
  have hne:((i0:Int)==-1)=false:=by rw[beq_eq_false_iff_ne];omega
  clear hp0 hbef hM0 hown
  go_wp2
  go_loopw [5,6,7] (fun i j _ wr=>∃ (a b:Nat) (ys:List ByteArray),i=.int .i64 a∧j=.int .i64 b∧b≤n∧a < b∧aKK p xs ys a b∧wr.ownsRow base 9 1 (.slice (some ⟨ga,0,none⟩) n c) n (aC ys)∧w1.grownBy wr (some ga)∧I wr) (fun _ j _ _=>n - (intOf j).toNat)
  case atStart=>exact⟨i0,i0+1,xs,rfl,by go_num,by omega,by omega,HM0.out,hr1,World.grownBy.refl _ _,HI1.out⟩
  case round =>
   clear hr1
   obtain⟨a,b,ys,rfl,rfl,hbn,hab,hmv,hrow,hbel,hIr⟩:=hrel
   have HMV:=aH hmv
   have HGR:=aH hbel
   have HIR:=aH hIr
   clear hmv hbel hIr
   by_cases hltb:b < n
   ·have hbl:b < xs.length:=by rw[HL.out];exact hltb
    obtain⟨hxl,hxe⟩:=HMV.out.at_ hbl
    have hal:a < ys.length:=by omega
    have hylen:ys.length=n:=by rw[HMV.out.len,HL.out]
    have cb:=hrow.cellAt b (by omega)
    have e1:(aC ys)[b]?=some (.string (xs[b]'hbl)):=by rw[← hxe];unfold aC;rw[List.getElem?_map,List.getElem?_eq_getElem hxl];rfl
    have e2:(aC ys)[a]?=some (.string (ys[a]'hal)):=by unfold aC;rw[List.getElem?_map,List.getElem?_eq_getElem hal];rfl
    rw[e1]at cb
    obtain⟨ya,hya⟩:∃ ya,ys[a]'hal=ya:=⟨_,rfl⟩
    rw[hya]at e2
    have hskip:=fun h=>HMV.out.skip hbl h
    have hmove:=fun h=>HMV.out.move hbl h
    have hcc:=HH.out.call (xs[b]'hbl) wr (HOK.out _ (List.getElem_mem hbl)) HIR.out
    obtain⟨x,hxk⟩:∃ x,x=xs[b]'hbl:=⟨_,rfl⟩
    rw[← hxk]at cb hskip hmove hcc
    have HE2:=aH e2
    clear hxk e1 hxe e2 hya
    have HSK:=aH hskip
    have HMO:=aH hmove
    clear hskip hmove
    obtain⟨t,ht⟩:∃ t,p x=t:=⟨_,rfl⟩
    rw[ht]at hcc HSK HMO
    have HRW:=aH hrow
    clear ht hrow
    cases t with
    | true =>
     have HS:=aH (HSK.out rfl)
     clear HSK HMO
     go_wp2_with (go_at_fn g;refine hcc.mono ?_;rintro e w2 ⟨rfl,hb2⟩;have hg2:wr.grownBy w2 none:=⟨hb2.os,hb2.tape,hb2.output,hb2.size,fun k hk _=>hb2.block k hk⟩;have HR2:=aH (HRW.out.kept hg2 (by simp [Value.ownBlock]));have HG2:=aH (HGR.out.trans (hg2.but (some ga)));have HI2:=aH (HH.out.new _ _ HIR.out hb2);clear hg2)
     go_roundw
     case rel=>exact⟨a,b+1,ys,rfl,by go_num,by omega,by omega,HS.out,HR2.out,HG2.out,HI2.out⟩
     case measure=>simp [intOf];omega
    | false =>
     have HS:=aH (HMO.out rfl)
     clear HSK HMO
     go_wp2_with (go_at_fn g;refine hcc.mono ?_;rintro e w2 ⟨rfl,hb2⟩;have hg2:wr.grownBy w2 none:=⟨hb2.os,hb2.tape,hb2.output,hb2.size,fun k hk _=>hb2.block k hk⟩;have hr2:=HRW.out.kept hg2 (by simp [Value.ownBlock]);have HG2:=aH (HGR.out.trans (hg2.but (some ga)));have HI2:=aH (HH.out.new _ _ HIR.out hb2);have ca:=hr2.cellAt a (by omega);rw[HE2.out]at ca;have fa:=hr2.frozenAt a;have hst:=hr2.stored a (.string x);have HST:=aH hst.2;have hrw:=hst.1;rw[aFJ]at hrw;have HRW2:=aH hrw;clear hg2 hr2 hst hrw)
     go_roundw
     case rel =>
      exact⟨a+1,b+1,_,by go_num,by go_num,by omega,by omega,HS.out,HRW2.out,HG2.out.trans (aT _ _ _ _),HH.out.set _ _ _ _ rfl HI2.out⟩
     case measure=>simp [intOf];omega
   ·have hbn':b=xs.length:=by rw[HL.out];omega
    have hxt:ys.take a=xs.filter fun x=>!p x:=by
     have:=HMV.out.front
     rw[hbn',List.take_length]at this
     exact this
    have hal:(xs.filter fun x=>!p x).length=a:=by
     rw[← hxt,List.length_take,HMV.out.len];omega
    have han:a < n:=by omega
    obtain⟨W,hcl,hrW,hgW⟩:=aQL hrow han
    rw[hxt]at hrW
    have HAL:=aH hal
    have HRW:=aH hrW
    have HGW:=aH hgW
    have hca:¬ c=a:=by omega
    have hca2:¬ (c:Int)=(a:Int):=by omega
    have hac:(a:Int)≤(n:Int):=by omega
    have han2:a≤n:=by omega
    have hac2:a≤c:=by omega
    clear hbn' hxt hal hrow hrW hgW
    go_wp2
    go_ret
    refine⟨some ⟨ga,0,none⟩,by rw[HAL.out];rfl,by rw[HAL.out];exact HRW.out,?_⟩
    rw[HOW.out]
    exact (HG1.out.trans HGR.out).trans HGW.out
end
end Go.Proofs.YthjeglnkgdpijaaGreatDoor
