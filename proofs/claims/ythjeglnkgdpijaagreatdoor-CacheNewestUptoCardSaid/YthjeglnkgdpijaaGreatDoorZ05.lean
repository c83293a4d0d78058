/- The walks of cache's entry, stored and hide (printed by gen/cachec.py). The walks of cache's stored and hide. The walk of disk.New without files, with faults: a disk of no file. Conditions: at most 2^40 faults. -/
import Derived.Test.YthjeglnkgdpijaaGreatDoorZ04
set_option maxHeartbeats 4000000
set_option maxRecDepth 100000
namespace Go.Proofs.YthjeglnkgdpijaaGreatDoor
open Go Go.RowKit Go.Maps
namespace C
def entry (a:CSt) (id:ByteArray):Option O.Ent:=match Lr.peek a.l id with
 | some x=>some x.p.E
 | none=>match a.s with
  | some s=>s.get id
  | none=>none
end C
def RetHit (B:Nat) (Z:CM) (a:CSt) (w:World) (x:Option O.Ent) (e:Ending) (w':World):Prop :=
 ∃ p:EP,e=.returned (.tuple #[p.v,.bool x.isSome])∧p.E=x.getD O.Ent.zero∧EOwn w' B p∧Below w.heap.size w w'∧∀ k,ownB p.A p.c=some k∨ownB p.X p.d=some k→¬ Z.foot a k
theorem CAt.lt {B room k:Nat} {Z:CM} {a:CSt} {w:World} (h:CAt B room Z a w) (hk:Z.foot a k):k < w.heap.size:=by
 rcases hk with hk | rfl | ⟨s,hs,hk⟩
 ·exact h.mem.lt hk
 ·exact h.hid.lt
 ·exact (h.sto s hs).lt hk
theorem CAt.offs {B room k:Nat} {Z:CM} {a:CSt} {w:World} (h:CAt B room Z a w) {x:It} (hx:x∈a.l) (hk:ownB x.p.A x.p.c=some k∨ownB x.p.X x.p.d=some k):¬ Z.foot a k:=by
 have ht:∃ T,Tag w k T∧T≠Lr.tT∧T≠Lr.nT:=by
  rcases hk with hk | hk
  ·exact⟨_,(h.mem.own x hx).1.tag hk,by decide,by decide⟩
  ·exact⟨_,(h.mem.own x hx).2.tag hk,by decide,by decide⟩
 obtain⟨T,h1,h2,h3⟩:=ht
 rintro (hf | rfl | ⟨s,hs,hf⟩)
 ·exact h.mem.off h1 h2 h3 hf
 ·exact h1.map (ownsMap_tag h.hid) rfl
 ·exact h.sep s hs x hx k hk hf
section
variable {w:World} {b b':Nat} {cs:Array Value} {T:TypeId}
theorem Blk.nine_far (h:Blk w b cs T) (hn:b≠b') (y0 y1 y2 y3 y4 y5 y6 y7 y8:Value):Blk (nine w b' y0 y1 y2 y3 y4 y5 y6 y7 y8) b cs T :=
 (went_nine (F:=fun k=>k=b') rfl y0 y1 y2 y3 y4 y5 y6 y7 y8).blk h hn
theorem EOwn.nine_far {B:Nat} {p:EP} (h:EOwn w B p) (ht:Tag w b 41) (y0 y1 y2 y3 y4 y5 y6 y7 y8:Value):EOwn (nine w b y0 y1 y2 y3 y4 y5 y6 y7 y8) B p :=
 ⟨(went_nine (F:=fun k=>k=b) rfl y0 y1 y2 y3 y4 y5 y6 y7 y8).row h.1 (fun k hk=>(h.1.tag hk).ne ht (by decide)),(went_nine (F:=fun k=>k=b) rfl y0 y1 y2 y3 y4 y5 y6 y7 y8).row h.2 (fun k hk=>(h.2.tag hk).ne ht (by decide))⟩
end
theorem entry_any (B room:Nat) (Z:CM) (a:CSt) (id:ByteArray) (m:Nat) (w:World) (h:CAt B room Z a w) (hs:id.size≤1073741824) (hf:∀ s,a.s=some s→D.Fit m s.d∧∀ p∈s.tab,p.2 < 4096) (hm:m≤268435456) (ht:Tabs w) (hB:B≤w.heap.size) :
  Calls Tryz.prog 28 #[.pointer (some ⟨Z.c,0,none⟩),.string id] w (RetHit B Z a w (C.entry a id)):=by
 obtain⟨w0,hw0⟩:∃ w0,w.alloc (.cells #[.string ⟨#[]⟩,.string ⟨#[]⟩,.int .i64 0,.string ⟨#[]⟩,.int .i64 0,.slice none 0 0,.slice none 0 0,.int .i64 0,.int .i64 0] 41)=w0:=⟨_,rfl⟩
 have hb0:Below w.heap.size w w0:=by rw[← hw0];exact (Below.refl _ _).alloc (Nat.le_refl _) _
 have hk0:Blk w0 w.heap.size #[.string ⟨#[]⟩,.string ⟨#[]⟩,.int .i64 0,.string ⟨#[]⟩,.int .i64 0,.slice none 0 0,.slice none 0 0,.int .i64 0,.int .i64 0] 41:=by rw[← hw0];exact Blk.new w _ _
 have h0:=h.below hb0
 obtain⟨y,hy1,hy2,hy3,hy4⟩:∃ y:EP,itV (Lr.peek a.l id)=y.v∧EOwn w0 B y∧y.E=((Lr.peek a.l id).map (·.p.E)).getD O.Ent.zero∧∀ k,ownB y.A y.c=some k∨ownB y.X y.d=some k→¬ Z.foot a k:=by
  cases hp:Lr.peek a.l id with
  | none=>exact⟨EP.nil,rfl,⟨Row.none_ _ _ _ _,Row.none_ _ _ _ _⟩,rfl,fun k hk=>by rcases hk with hk | hk<;>cases hk⟩
  | some x=>exact⟨x.p,rfl,h0.mem.own x (List.mem_of_find?_eq_some hp),rfl,fun k hk=>h.offs (List.mem_of_find?_eq_some hp) hk⟩
 have HPK:=Lib.hid (lrPeek_any B Z.t Z.m room a.l id w0 h0.mem hs)
 unfold RetPeek at HPK
 rw[hy1]at HPK
 obtain⟨y0,y1,y2⟩:=h0.cells
 have HB0:=Lib.hid hb0
 have HK0:=Lib.hid hk0
 have H0:=Lib.hid h0
 have HY:=Lib.hid hy2
 have HYE:=Lib.hid hy3
 have HYF:=Lib.hid hy4
 have HLT:=Lib.hid (fun k (hk:Z.foot a k)=>h.lt hk)
 have HF:=Lib.hid hf
 have HT:=Lib.hid (ht.below hb0)
 obtain⟨ok,hok⟩:∃ ok,(Lr.peek a.l id).isSome=ok:=⟨_,rfl⟩
 rw[hok]at HPK
 have HOK:=Lib.hid hok
 clear hb0 hk0 h0 hy1 hy2 hy3 hy4 hf ht hok h
 go_enter Tryz.func28,Tryz.ntmps28
 go_wp2_with fail
 clear hw0
 refine HPK.out.mono ?_
 rintro e w1 ⟨rfl,hb1⟩
 obtain⟨w2,hw2⟩:∃ w2,w1.alloc (.cells #[.string ⟨#[]⟩,.string ⟨#[]⟩,.int .i64 0,.string ⟨#[]⟩,.int .i64 0,.slice none 0 0,.slice none 0 0,.int .i64 0,.int .i64 0] 41)=w2:=⟨_,rfl⟩
 have hb2:Below w1.heap.size w1 w2:=by rw[← hw2];exact (Below.refl _ _).alloc (Nat.le_refl _) _
 have hk2:Blk w2 w1.heap.size #[.string ⟨#[]⟩,.string ⟨#[]⟩,.int .i64 0,.string ⟨#[]⟩,.int .i64 0,.slice none 0 0,.slice none 0 0,.int .i64 0,.int .i64 0] 41:=by rw[← hw2];exact Blk.new w1 _ _
 obtain⟨z0,z1,z2,z3,z4,z5,z6,z7,z8⟩:=hk2.cells9
 obtain⟨g0,g1,g2,g3,g4,g5,g6,g7,g8⟩:=hk2.free9
 have hk3:=hk2.set9 (.string y.E.k) (.string y.E.v) (.int .i64 y.E.s) (.string y.E.r) (.int .i64 y.E.m) (.slice y.A y.E.fs.length y.c) (.slice y.X y.E.body.length y.d) (.int .i64 y.E.asked) (.int .i64 y.E.got)
 have hne:w.heap.size≠w1.heap.size:=by have h1:=hb1.size;have h2:=HK0.out.lt;omega
 have HK3:=Lib.hid ((((HK0.out.below hb1).below hb2)).nine_far hne (.string y.E.k) (.string y.E.v) (.int .i64 y.E.s) (.string y.E.r) (.int .i64 y.E.m) (.slice y.A y.E.fs.length y.c) (.slice y.X y.E.body.length y.d) (.int .i64 y.E.asked) (.int .i64 y.E.got))
 have HB3:=Lib.hid (below_nine (below_then (Nat.le_trans HB0.out.size hb1.size) (below_then HB0.out.size HB0.out hb1) hb2) (Nat.le_trans HB0.out.size hb1.size) (.string y.E.k) (.string y.E.v) (.int .i64 y.E.s) (.string y.E.r) (.int .i64 y.E.m) (.slice y.A y.E.fs.length y.c) (.slice y.X y.E.body.length y.d) (.int .i64 y.E.asked) (.int .i64 y.E.got))
 have HW3:=Lib.hid (below_nine hb2 (Nat.le_refl _) (.string y.E.k) (.string y.E.v) (.int .i64 y.E.s) (.string y.E.r) (.int .i64 y.E.m) (.slice y.A y.E.fs.length y.c) (.slice y.X y.E.body.length y.d) (.int .i64 y.E.asked) (.int .i64 y.E.got))
 have HY3:=Lib.hid (((HY.out.below hb1).below hb2).nine_far hk2.tag (.string y.E.k) (.string y.E.v) (.int .i64 y.E.s) (.string y.E.r) (.int .i64 y.E.m) (.slice y.A y.E.fs.length y.c) (.slice y.X y.E.body.length y.d) (.int .i64 y.E.asked) (.int .i64 y.E.got))
 have HB1:=Lib.hid hb1
 unfold nine at hk3 HK3 HB3 HY3 HW3
 obtain⟨w3,hw3⟩:∃ w3,(((((((((w2.setCell ⟨w1.heap.size,0,none⟩ (.string y.E.k)).setCell ⟨w1.heap.size,1,none⟩ (.string y.E.v)).setCell ⟨w1.heap.size,2,none⟩ (.int .i64 y.E.s)).setCell ⟨w1.heap.size,3,none⟩ (.string y.E.r)).setCell ⟨w1.heap.size,4,none⟩ (.int .i64 y.E.m)).setCell ⟨w1.heap.size,5,none⟩ (.slice y.A y.E.fs.length y.c)).setCell ⟨w1.heap.size,6,none⟩ (.slice y.X y.E.body.length y.d)).setCell ⟨w1.heap.size,7,none⟩ (.int .i64 y.E.asked)).setCell ⟨w1.heap.size,8,none⟩ (.int .i64 y.E.got))=w3:=⟨_,rfl⟩
 rw[hw3]at hk3 HK3 HB3 HY3 HW3
 obtain⟨x0,x1,x2,x3,x4,x5,x6,x7,x8⟩:=hk3.cells9
 obtain⟨r0,r1,r2,r3,r4,r5,r6,r7,r8⟩:=HK3.out.free9
 obtain⟨v0,v1,v2,v3,v4,v5,v6,v7,v8⟩:=HK3.out.cells9
 have H3:=Lib.hid ((H0.out.below hb1).below HW3.out)
 obtain⟨y0,y1,y2⟩:=H3.out.cells
 clear hb1 hk2 hk3 hb2 HPK
 unfold EP.v entV
 cases hp:Lr.peek a.l id with
 | some x =>
  have hok:ok=true:=by rw[← HOK.out,hp];rfl
  subst hok
  have HP:=Lib.hid hp
  clear hp
  go_wp2_with fail
  clear x0 x1 x2 x3 x4 x5 x6 x7 x8 v0 v1 v2 v3 v4 v5 v6 v7 v8 r0 r1 r2 r3 r4 r5 r6 r7 r8 z0 z1 z2 z3 z4 z5 z6 z7 z8 g0 g1 g2 g3 g4 g5 g6 g7 g8 hw3 hw2 y0 y1 y2
  obtain⟨d0,d1,d2,d3,d4,d5,d6,d7,d8⟩:=(HK3.out.set9 (.string y.E.k) (.string y.E.v) (.int .i64 y.E.s) (.string y.E.r) (.int .i64 y.E.m) (.slice y.A y.E.fs.length y.c) (.slice y.X y.E.body.length y.d) (.int .i64 y.E.asked) (.int .i64 y.E.got)).cells9
  unfold nine at d0 d1 d2 d3 d4 d5 d6 d7 d8
  refine bodyPost_ret (v:=.tuple #[.agg #[.string y.E.k,.string y.E.v,.int .i64 y.E.s,.string y.E.r,.int .i64 y.E.m,.slice y.A y.E.fs.length y.c,.slice y.X y.E.body.length y.d,.int .i64 y.E.asked,.int .i64 y.E.got],.bool true]) (by simp [results,Tryz.results28,go_sem,d0,d1,d2,d3,d4,d5,d6,d7,d8]) rfl ?_
  have hen:C.entry a id=some x.p.E:=by unfold C.entry;rw[HP.out]
  rw[hen]
  refine⟨y,rfl,?_,HY3.out.nine_far HK3.out.tag (.string y.E.k) (.string y.E.v) (.int .i64 y.E.s) (.string y.E.r) (.int .i64 y.E.m) (.slice y.A y.E.fs.length y.c) (.slice y.X y.E.body.length y.d) (.int .i64 y.E.asked) (.int .i64 y.E.got),below_nine HB3.out (Nat.le_refl _) (.string y.E.k) (.string y.E.v) (.int .i64 y.E.s) (.string y.E.r) (.int .i64 y.E.m) (.slice y.A y.E.fs.length y.c) (.slice y.X y.E.body.length y.d) (.int .i64 y.E.asked) (.int .i64 y.E.got),HYF.out⟩
  rw[HYE.out,HP.out]
  rfl
 | none =>
  have hok:ok=false:=by rw[← HOK.out,hp];rfl
  subst hok
  have HP:=Lib.hid hp
  clear hp
  cases hs2:a.s with
  | none =>
   rw[hs2]at y0
   have HS:=Lib.hid hs2
   clear hs2
   dsimp only[Option.map]at y0
   go_wp2_with fail
   clear x0 x1 x2 x3 x4 x5 x6 x7 x8 v0 v1 v2 v3 v4 v5 v6 v7 v8 r0 r1 r2 r3 r4 r5 r6 r7 r8 z0 z1 z2 z3 z4 z5 z6 z7 z8 g0 g1 g2 g3 g4 g5 g6 g7 g8 hw3 hw2 y0 y1 y2
   obtain⟨d0,d1,d2,d3,d4,d5,d6,d7,d8⟩:=(HK3.out.set9 (.string y.E.k) (.string y.E.v) (.int .i64 y.E.s) (.string y.E.r) (.int .i64 y.E.m) (.slice y.A y.E.fs.length y.c) (.slice y.X y.E.body.length y.d) (.int .i64 y.E.asked) (.int .i64 y.E.got)).cells9
   unfold nine at d0 d1 d2 d3 d4 d5 d6 d7 d8
   refine bodyPost_ret (v:=.tuple #[.agg #[.string y.E.k,.string y.E.v,.int .i64 y.E.s,.string y.E.r,.int .i64 y.E.m,.slice y.A y.E.fs.length y.c,.slice y.X y.E.body.length y.d,.int .i64 y.E.asked,.int .i64 y.E.got],.bool false]) (by simp [results,Tryz.results28,go_sem,d0,d1,d2,d3,d4,d5,d6,d7,d8]) rfl ?_
   have hen:C.entry a id=none:=by unfold C.entry;rw[HP.out];simp only;rw[HS.out]
   rw[hen]
   refine⟨y,rfl,?_,HY3.out.nine_far HK3.out.tag (.string y.E.k) (.string y.E.v) (.int .i64 y.E.s) (.string y.E.r) (.int .i64 y.E.m) (.slice y.A y.E.fs.length y.c) (.slice y.X y.E.body.length y.d) (.int .i64 y.E.asked) (.int .i64 y.E.got),below_nine HB3.out (Nat.le_refl _) (.string y.E.k) (.string y.E.v) (.int .i64 y.E.s) (.string y.E.r) (.int .i64 y.E.m) (.slice y.A y.E.fs.length y.c) (.slice y.X y.E.body.length y.d) (.int .i64 y.E.asked) (.int .i64 y.E.got),HYF.out⟩
   rw[HYE.out,HP.out]
   rfl
  | some s =>
   rw[hs2]at y0
   have HGT:=Lib.hid (sget_any B Z.X s id m w3 (H3.out.sto s hs2) (HF.out s hs2).1 hm (HF.out s hs2).2 (by omega) (HT.out.below (below_then (Nat.le_trans (Nat.le_refl _) HB1.out.size) HB1.out HW3.out)))
   have HS:=Lib.hid hs2
   clear hs2
   dsimp only[Option.map]at y0
   go_wp2_with fail
   clear x0 x1 x2 x3 x4 x5 x6 x7 x8 v0 v1 v2 v3 v4 v5 v6 v7 v8 r0 r1 r2 r3 r4 r5 r6 r7 r8 z0 z1 z2 z3 z4 z5 z6 z7 z8 g0 g1 g2 g3 g4 g5 g6 g7 g8 hw3 hw2 y0 y1 y2
   refine HGT.out.mono ?_
   rintro e w4 ⟨A,c,Xb,dd,rfl,hr1,hr2,hb4⟩
   have HEN:Hid (C.entry a id=s.get id):=Lib.hid (by unfold C.entry;rw[HP.out];simp only;rw[HS.out])
   obtain⟨g,hgE,hgA,hgc,hgX,hgd⟩:∃ g:EP,g.E=(s.get id).getD O.Ent.zero∧g.A=A∧g.c=c∧g.X=Xb∧g.d=dd:=⟨⟨_,A,c,Xb,dd⟩,rfl,rfl,rfl,rfl,rfl⟩
   subst hgA hgc hgX hgd
   rw[← hgE]at hr1 hr2 ⊢
   obtain⟨okg,hokg⟩:∃ okg,(s.get id).isSome=okg:=⟨_,rfl⟩
   rw[hokg]
   have HGE:=Lib.hid hgE
   have HOG:=Lib.hid hokg
   have HK4:=Lib.hid (HK3.out.below hb4)
   have HB4:=Lib.hid (below_then HB3.out.size HB3.out hb4)
   have HG4:=Lib.hid (⟨hr1.mono (Nat.le_trans hB HB3.out.size),hr2.mono (Nat.le_trans hB HB3.out.size)⟩:EOwn w4 B g)
   obtain⟨r0,r1,r2,r3,r4,r5,r6,r7,r8⟩:=HK4.out.free9
   obtain⟨v0,v1,v2,v3,v4,v5,v6,v7,v8⟩:=HK4.out.cells9
   have HGF:=Lib.hid (fun k (hk:ownB g.A g.c=some k∨ownB g.X g.d=some k) (hf:Z.foot a k)=>(by
    have h1:=HLT.out k hf
    have h2:=HB3.out.size
    rcases hk with hk | hk
    ·have h3:=(hr1.lt k hk).1
     omega
    ·have h3:=(hr2.lt k hk).1
     omega:False))
   clear hr1 hr2 hb4 hgE hokg HGT
   unfold entV
   go_wp2_with fail
   clear v0 v1 v2 v3 v4 v5 v6 v7 v8 r0 r1 r2 r3 r4 r5 r6 r7 r8
   obtain⟨d0,d1,d2,d3,d4,d5,d6,d7,d8⟩:=(HK4.out.set9 (.string g.E.k) (.string g.E.v) (.int .i64 g.E.s) (.string g.E.r) (.int .i64 g.E.m) (.slice g.A g.E.fs.length g.c) (.slice g.X g.E.body.length g.d) (.int .i64 g.E.asked) (.int .i64 g.E.got)).cells9
   unfold nine at d0 d1 d2 d3 d4 d5 d6 d7 d8
   refine bodyPost_ret (v:=.tuple #[.agg #[.string g.E.k,.string g.E.v,.int .i64 g.E.s,.string g.E.r,.int .i64 g.E.m,.slice g.A g.E.fs.length g.c,.slice g.X g.E.body.length g.d,.int .i64 g.E.asked,.int .i64 g.E.got],.bool okg]) (by simp [results,Tryz.results28,go_sem,d0,d1,d2,d3,d4,d5,d6,d7,d8]) rfl ?_
   rw[HEN.out]
   refine⟨g,by rw[HOG.out];rfl,HGE.out,EOwn.nine_far HG4.out HK4.out.tag (.string g.E.k) (.string g.E.v) (.int .i64 g.E.s) (.string g.E.r) (.int .i64 g.E.m) (.slice g.A g.E.fs.length g.c) (.slice g.X g.E.body.length g.d) (.int .i64 g.E.asked) (.int .i64 g.E.got),below_nine HB4.out (Nat.le_refl _) (.string g.E.k) (.string g.E.v) (.int .i64 g.E.s) (.string g.E.r) (.int .i64 g.E.m) (.slice g.A g.E.fs.length g.c) (.slice g.X g.E.body.length g.d) (.int .i64 g.E.asked) (.int .i64 g.E.got),HGF.out⟩
namespace C
structure Fine (m:Nat) (s:S.Sto):Prop where
 fit:D.Fit m s.d
 up:D.Up s.tab
 len:s.tab.length≤262144
 sz:∀ p∈s.tab,p.1.size≤1048576
 no:∀ p∈s.tab,p.2 < s.used.length
 used:s.used.length≤4096
 cnt:s.count≤549755813888
def stored (a:CSt) (id:ByteArray):Bool:=match a.s with
 | some s=>V.has s.ids id
 | none=>false
def hide (a:CSt) (id:ByteArray) (yes:Bool):CSt:={ a with hd:=if (yes&&stored a id)=true then D.put a.hd id 0 else D.del a.hd id }
end C
theorem stored_any (B room:Nat) (Z:CM) (a:CSt) (id:ByteArray) (m:Nat) (w:World) (h:CAt B room Z a w) (hf:∀ s,a.s=some s→C.Fine m s) :
  Calls Tryz.prog 30 #[.pointer (some ⟨Z.c,0,none⟩),.string id] w (RetB w (C.stored a id)):=by
 obtain⟨y0,y1,y2⟩:=h.cells
 cases hs:a.s with
 | none =>
  rw[hs]at y0
  dsimp only[Option.map]at y0
  have HV:Hid (C.stored a id=false):=Lib.hid (by unfold C.stored;rw[hs])
  clear h hf hs y1 y2
  go_enter Tryz.func30,Tryz.ntmps30
  go_wp2_with fail
  all_goals (go_ret;exact⟨ret_bool HV.out.symm,Below.refl _ _⟩)
 | some s =>
  rw[hs]at y0
  dsimp only[Option.map]at y0
  have HV:Hid (C.stored a id=V.has s.ids id):=Lib.hid (by unfold C.stored;rw[hs])
  have hl:s.ids.length=s.tab.length:=by unfold S.Sto.ids;rw[List.length_map]
  have hl2:=(hf s hs).len
  have HI:=Lib.hid (ids_any B Z.X s w (h.sto s hs) (hf s hs).up (by omega))
  have HL:Hid (s.ids.length≤1099511627776):=Lib.hid (by omega)
  clear h hf hs y1 y2 hl hl2
  go_enter Tryz.func30,Tryz.ntmps30
  go_wp2_with fail
  refine HI.out.mono ?_
  rintro e w1 ⟨A,c,rfl,hr,hb⟩
  have HC:=Lib.hid (containsRow_any A s.ids.length c s.ids id w1 hr.rd HL.out)
  have HB:=Lib.hid hb
  clear hr hb HI y0
  go_wp2_with fail
  refine HC.out.mono ?_
  rintro e w2 ⟨rfl,rfl⟩
  go_wp2
  go_ret
  exact⟨ret_bool HV.out.symm,HB.out⟩
theorem hide_any (B room:Nat) (Z:CM) (a:CSt) (id:ByteArray) (yes:Bool) (m:Nat) (w:World) (h:CAt B room Z a w) (hf:∀ s,a.s=some s→C.Fine m s) (hi:id.size≤1073741824) (hd:a.hd.length≤1073741824) :
  Calls Tryz.prog 32 #[.pointer (some ⟨Z.c,0,none⟩),.string id,.bool yes] w (fun e w'=>e=.returned (.tuple #[])∧CAt B room Z (C.hide a id yes) w'∧Went (Z.foot a) w (Z.foot (C.hide a id yes)) w'):=by
 have HST:=Lib.hid (stored_any B room Z a id m w h hf)
 have HH:=Lib.hid h
 obtain⟨y0,y1,y2⟩:=h.cells
 have HDEL:Hid (∀ u u',CAt B room Z a u→Went (Z.foot a) w (Z.foot a) u→(yes&&C.stored a id)=false→(∃ n,u'.ownsMap Tryz.prog 9 unitE Z.hm n (D.datU (D.del a.hd id)))→u.grownBy u' (some Z.hm)→CAt B room Z (C.hide a id yes) u'∧Went (Z.foot a) w (Z.foot (C.hide a id yes)) u'):=Lib.hid (fun u u' h1 h2 h3 h4 h5=>by
  obtain⟨n,h4⟩:=h4
  obtain⟨q1,q2⟩:=h1.hides (unit_tight h4) (D.up_del h1.up _) h5
  unfold C.hide
  rw[h3]
  exact⟨q1,h2.trans q2⟩)
 cases yes with
 | false =>
  clear h hf HST
  go_enter Tryz.func32,Tryz.ntmps32
  go_wp2_with (at_delete;refine wpList_delete_own _ rfl _ _ 74 9 rfl 88 (string_keyed strT_ul) unT_ul unitE Z.hm a.hd.length (D.datU a.hd) rfl HH.out.hid (.string id) (D.key id) rfl (nmKey id (by simp only[maxLen];omega)) ?_;intro w9 hown9 hturn9)
  all_goals
   rw[D.datU_del]at hown9
   obtain⟨q1,q2⟩:=HDEL.out w w9 HH.out (Went.refl _ _) rfl ⟨_,hown9⟩ hturn9.grown
   go_end0
   exact⟨rfl,q1,q2⟩
 | true =>
  clear h hf
  go_enter Tryz.func32,Tryz.ntmps32
  go_wp2_with fail
  refine HST.out.mono ?_
  rintro e w1 ⟨rfl,hb⟩
  have H1:=Lib.hid (HH.out.below hb)
  have HW1:=Lib.hid (Went.below hb (Z.foot a))
  obtain⟨v0,v1,v2⟩:=H1.out.cells
  clear hb HST y0 y1 y2
  cases hs:C.stored a id with
  | true =>
   have HS:=Lib.hid hs
   clear hs
   go_wp2_with (at_mapUpdate;refine wpList_mapUpdate_own _ rfl _ _ _ 74 rfl 9 88 (string_keyed strT_ul) unT_ul unitE Z.hm a.hd.length (D.datU a.hd) rfl H1.out.hid (by simp only[maxLen];omega) (.string id) (.agg #[]) (D.key id) rfl rfl (nmKey id (by simp only[maxLen];omega)) (.agg []) [] unitElem_mk ?_;intro w9 hown9 hgrow9)
   rw[D.datU_put _ _ 0]at hown9
   obtain⟨q1,q2⟩:=H1.out.hides (unit_tight hown9) (D.up_put H1.out.up _ _) hgrow9
   have hh:C.hide a id true={ a with hd:=D.put a.hd id 0 }:=by unfold C.hide;rw[HS.out];rfl
   go_end0
   rw[hh]
   exact⟨rfl,q1,HW1.out.trans q2⟩
  | false =>
   have HS:=Lib.hid hs
   clear hs
   go_wp2_with (at_delete;refine wpList_delete_own _ rfl _ _ 74 9 rfl 88 (string_keyed strT_ul) unT_ul unitE Z.hm a.hd.length (D.datU a.hd) rfl H1.out.hid (.string id) (D.key id) rfl (nmKey id (by simp only[maxLen];omega)) ?_;intro w9 hown9 hturn9)
   rw[D.datU_del]at hown9
   obtain⟨q1,q2⟩:=HDEL.out w1 w9 H1.out HW1.out (by rw[HS.out];rfl) ⟨_,hown9⟩ hturn9.grown
   go_end0
   exact⟨rfl,q1,q2⟩
theorem cloneI_any (A:Option Addr) (n c:Nat) (zs:List Int) (w:World) (hn:n≤1099511627776) (hx:Rd w A n 1 (icells zs)) (hnil:A=none→n=0∧c=0) :
  Calls Tryz.prog 47 #[.slice A n c] w (RetRow w 3 1 n (icells zs)):=by
 cases A with
 | none =>
  obtain⟨rfl,rfl⟩:=hnil rfl
  have hfs:icells zs=[]:=List.eq_nil_of_length_eq_zero (by simpa using hx.1)
  rw[hfs]
  exact (cloneNil_any w).mono (fun e w' h=>⟨none,0,h.1,Row.none_ _ _ _ _,by rw[h.2];exact Below.refl _ _⟩)
 | some ad =>
  have he:=fun w=>Lib.run_eql_slice_nil (P:=Tryz.prog) w 23 _ (some ad) n c (h:=Tryz.underlying23)
  clear hnil
  go_enter Tryz.func47,Tryz.ntmps47
  go_wp2_with (at_builtin;refine appI _ rfl (.tmp 5) (.tmp 6) rfl w.heap.size _ 0 0 [] rfl (Row.empty _ _ _ _ _) (some ad) n c zs rfl (hx.alloc _) (by omega) (by simp) ?_;intro A1 c1 w1 hr1 ha1;simp only[Nat.zero_add,List.nil_append]at hr1)
  go_ret
  exact⟨A1,c1,by simp,hr1,((Below.refl _ _).alloc (Nat.le_refl _) _).trans (ha1.below (Row.empty _ _ 3 1 _) (by simp))⟩
def D.bare (room:Int) (fails:List Int) (power:Int):D.Dsk:=⟨[],[],[],[],[],room,fails,power,0⟩
theorem DkAt.bare (w w1:World) (room power:Int) (fails:List Int) (FA:Option Addr) (fc:Nat) (a b d:Nat) (ha:w.heap.size≤a) (hB:w.heap.size≤b) (hd:w.heap.size≤d) (hab:a≠b)
  (hN:w1.ownsMap Tryz.prog 9 D.ptrR a 0 (.map [])) (hS:w1.ownsMap Tryz.prog 9 D.ptrR b 0 (.map [])) (hF:Row w1 w.heap.size 3 1 FA fails.length fc (icells fails))
  (hk:Blk w1 d #[.map (some a),.map (some b),.slice none 0 0,.int .i64 0,.int .i64 room,.slice FA fails.length fc,.int .i64 power,.int .i64 0] 95) :
  DkAt w.heap.size ⟨d,a,b,none,0,[],fun _=>0,fun _=>none,fun _=>0,FA,fc⟩ (D.bare room fails power) w1 :=
 ⟨hk,hN,hS,hab,Row.none_ _ _ _ _,trivial,hF,fun _ hn=>absurd hn (Nat.not_lt_zero _),fun _ _ hi=>absurd hi (Nat.not_lt_zero _),⟨hd,ha,hB⟩⟩
def RetNewD (w:World) (room:Int) (fails:List Int) (power:Int) (e:Ending) (w':World):Prop :=
 (¬ (0≤room∧room≤1073741824)∧e=.returned (.tuple #[.pointer none,.int .i64 131])∧Below w.heap.size w w') ∨
 (0≤room∧room≤1073741824∧∃ M,e=.returned (.tuple #[.pointer (some ⟨M.d,0,none⟩),.int .i64 0])∧DkAt w.heap.size M (D.bare room fails power) w'∧Below w.heap.size w w')
theorem newD_any (FS:Option Addr) (fs:Nat) (A:Option Addr) (c:Nat) (fails:List Int) (room power:Int) (w:World) (hn:fails.length≤1099511627776) (hx:Rd w A fails.length 1 (icells fails)) (hnil:A=none→fails.length=0∧c=0) :
  Calls Tryz.prog 23 #[.slice FS 0 fs,.int .i64 room,.slice A fails.length c,.int .i64 power] w (RetNewD w room fails power):=by
 by_cases h0:0≤room
 rotate_left
 ·have h0i:room < 0:=by omega
  go_enter Tryz.func23,Tryz.ntmps23
  go_wp2
  go_ret2
  exact .inl ⟨fun h=>by omega,rfl,Below.refl _ _⟩
 by_cases h1:room≤1073741824
 rotate_left
 ·have h1i:room > 1073741824:=by omega
  have h0i:¬ room < 0:=by omega
  go_enter Tryz.func23,Tryz.ntmps23
  go_wp2
  go_ret2
  exact .inl ⟨fun h=>by omega,rfl,Below.refl _ _⟩
 have h0i:¬ room < 0:=by omega
 have h1i:¬ room > 1073741824:=by omega
 have hmm:=@run_makeMap Tryz.prog
 have HCN:=Lib.hid (fun u (hu:Below w.heap.size w u)=>cloneI_any A fails.length c fails u hn (hx.below hu) hnil)
 obtain⟨fn,hfn⟩:∃ fn,fails.length=fn:=⟨_,rfl⟩
 rw[hfn]at HCN ⊢
 have HFN:=Lib.hid hfn
 clear hfn hn hx hnil
 obtain⟨M0,hM0⟩:∃ M0,w.alloc (.map #[] 0)=M0:=⟨_,rfl⟩
 have hs0:M0.heap.size=w.heap.size+1:=by rw[← hM0];exact World.size_alloc ..
 have HN:=Lib.hid ((World.ownsMap_made w Tryz.prog 9 D.ptrR))
 rw[hM0]at HN
 have hb0:Below w.heap.size w M0:=by rw[← hM0];exact (Below.refl _ _).alloc (Nat.le_refl _) _
 have HB0:=Lib.hid hb0
 have HS0:=Lib.hid hs0
 clear hb0 hs0
 go_enter Tryz.func23,Tryz.ntmps23
 go_wp2_with fail
 clear hmm hM0
 refine (HCN.out M0 HB0.out).mono ?_
 rintro e w1 ⟨FA,fcc,rfl,hrF,hbF⟩
 have HBF:=Lib.hid hbF
 have HRF:=Lib.hid (hrF.mono HB0.out.size)
 clear hbF hrF HCN
 obtain⟨D0,hD0⟩:∃ D0,D0=w1.alloc (.cells #[.map (some w.heap.size),.map none,.slice none 0 0,.int .i64 0,.int .i64 room,.slice FA fn fcc,.int .i64 power,.int .i64 0] 95):=⟨_,rfl⟩
 have HK:=Lib.hid (Blk.new w1 #[.map (some w.heap.size),.map none,.slice none 0 0,.int .i64 0,.int .i64 room,.slice FA fn fcc,.int .i64 power,.int .i64 0] 95)
 rw[← hD0]at HK
 have hbd:Below w1.heap.size w1 D0:=by rw[hD0];exact (Below.refl _ _).alloc (Nat.le_refl _) _
 have hb2:=below_then HBF.out.size HBF.out hbd
 have HB1:=Lib.hid (below_then HB0.out.size HB0.out hb2)
 have HN1:Hid (D0.ownsMap Tryz.prog 9 D.ptrR w.heap.size 0 (.map [])):=Lib.hid (HN.out.kept (show M0.grownBy D0 none from⟨hb2.os,hb2.tape,hb2.output,hb2.size,fun k hk _=>hb2.block k hk⟩) (by simp))
 have HRD:=Lib.hid (HRF.out.below hbd)
 have HCL:=Lib.hid (cloneM_any ⟨0,0,0,none,0,[],fun _=>0,fun _=>none,fun _=>0,none,0⟩ [] w.heap.size D0 HN1.out)
 have HZ:Hid (w.heap.size+1≤w1.heap.size):=Lib.hid (by have:=HS0.out;have:=HBF.out.size;omega)
 clear HN hb2 hbd
 go_upto_region 4 with fail
 simp only[← hD0]
 obtain⟨bd,hbd⟩:∃ bd,w1.heap.size=bd:=⟨_,rfl⟩
 rw[hbd]at HK HZ ⊢
 have z0:D0.cell? ⟨bd,0,none⟩=some (.map (some w.heap.size)):=HK.out.cell 0 rfl
 clear hD0 hbd HBF HRF
 go_wp2
 go_loopw [29] (fun i wr=>i=.int .i64 0∧D0=wr) (fun _ _=>0)
 case atStart=>exact⟨rfl,rfl⟩
 case round =>
 obtain⟨rfl,rfl⟩:=hrel
 go_wp2_with fail
 clear z0
 refine HCL.out.mono ?_
 rintro e w2 ⟨rfl,hm2,hb2,hlt⟩
 have HK2:=Lib.hid (HK.out.below hb2)
 have z1:w2.cell? ⟨bd,1,none⟩=some (.map none):=HK2.out.cell 1 rfl
 have f1:=HK2.out.free 1
 have HB2:=Lib.hid (below_then HB1.out.size HB1.out hb2)
 have hge:w.heap.size < D0.heap.size:=HN1.out.lt
 have hg1:=grown_set w2 bd 1 (.map (some D0.heap.size))
 have hT:=HK2.out.tag
 have HN2:=Lib.hid ((HN1.out.kept (show D0.grownBy w2 none from⟨hb2.os,hb2.tape,hb2.output,hb2.size,fun k hk _=>hb2.block k hk⟩) (by simp)).kept hg1 (fun e=>absurd (show bd=w.heap.size by simpa using e.symm) (by have:=HZ.out;omega)))
 have HS2:=Lib.hid (hm2.kept hg1 (fun e=>hT.map (ownsMap_tag hm2) (by simpa using e.symm)))
 have HR2:=Lib.hid ((HRD.out.below hb2).keptG hg1 (fun k hk e=>((HRD.out.below hb2).tag hk).ne hT (by decide) (by simpa using e.symm)))
 have HK3:=Lib.hid (HK2.out.set 1 (.map (some D0.heap.size)))
 have HB3:=Lib.hid (below_set HB2.out (b:=bd) (by have:=HZ.out;omega) 1 (.map (some D0.heap.size)))
 clear hm2 hb2 hg1 HN1 HCL HK HB1 HRD
 go_wp2
 go_ret2
 refine .inr ⟨h0,h1,_,rfl,DkAt.bare w _ room power fails FA fcc w.heap.size D0.heap.size bd (Nat.le_refl _) (Nat.le_of_lt hge) (by have:=HZ.out;omega) (by omega) HN2.out HS2.out (by rw[HFN.out];exact HR2.out) ?_,HB3.out⟩
 rw[HFN.out]
 exact HK3.out
end Go.Proofs.YthjeglnkgdpijaaGreatDoor
