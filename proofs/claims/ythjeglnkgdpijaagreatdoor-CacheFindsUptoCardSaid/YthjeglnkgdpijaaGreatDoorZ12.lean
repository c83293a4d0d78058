/- The walk of CopyEntry once more: its lists are typed rows of the call's own (turned from XObjK). Two caches in one memory: a step of the one leaves the other as it is. The cache's Save, Find and Purge over any disk; what is saved last of a list. Conditions: as each theorem states them. -/
import Derived.Test.YthjeglnkgdpijaaGreatDoorZ11
set_option maxHeartbeats 2000000
set_option maxRecDepth 100000
namespace Go.Proofs.YthjeglnkgdpijaaGreatDoor
open Go.RowKit
theorem wI (A:Option Addr) (c:Nat) (bs:List UInt8) (w:World) (hn:bs.length≤1099511627776) (hx:Rd w A bs.length 1 (aB bs)) :
  Calls Tryz.prog 20 #[.slice A bs.length c] w (eP w 5 1 bs.length (aB bs)):=by
 have HX:=aH (hx.alloc (.cells #[] 5))
 clear hx
 go_enter Tryz.func20,Tryz.ntmps20
 go_wp2_with (at_builtin;refine aQ0 _ rfl (.tmp 5) (.tmp 6) rfl w.heap.size _ 0 0 [] rfl (Row.empty _ _ _ _ _) A bs.length c bs rfl HX.out (by omega) (by rw[bJ];omega) ?_;intro A1 c1 w1 hr1 ha1)
 have hb:=((zB w.heap.size w).alloc (zA _) (.cells #[] 5)).trans (ha1.below (Row.empty _ w.heap.size 5 1 _) (by rw[bJ];omega))
 have e:0+bs.length=bs.length:=Nat.zero_add _
 rw[e]at hr1
 go_ret
 exact⟨A1,c1,rfl,hr1,hb⟩
def aQW (k v:ByteArray) (s:Int) (r:ByteArray) (m:Int) (fs:List FD) (body:List UInt8) (asked got:Int) (w:World) (e:Ending) (w':World):Prop :=
 ∃ A c X d,e=.returned (.agg #[.string k,.string v,.int .i64 s,.string r,.int .i64 m,.slice A fs.length c,.slice X body.length d,.int .i64 asked,.int .i64 got])∧Row w' w.heap.size 60 2 A fs.length c (aJ fs)∧Row w' w.heap.size 5 1 X body.length d (aB body)∧Below w.heap.size w w'
theorem wH (k v:ByteArray) (s:Int) (r:ByteArray) (m:Int) (A:Option Addr) (cf:Nat) (fs:List FD) (X:Option Addr) (cb:Nat) (body:List UInt8) (asked got:Int) (w:World) (hn:fs.length≤1099511627776) (hbn:body.length≤1099511627776) (hx:Rd w A fs.length 2 (aJ fs)) (hX:Rd w X body.length 1 (aB body)) :
  Calls Tryz.prog 12 #[.agg #[.string k,.string v,.int .i64 s,.string r,.int .i64 m,.slice A fs.length cf,.slice X body.length cb,.int .i64 asked,.int .i64 got]] w (aQW k v s r m fs body asked got w):=by
 have HCR:=aH (fun (u:World) (hu:Below w.heap.size w u)=>rC s m r A fs.length cf fs u rfl hn (hx.below hu))
 have HCB:=aH (fun (u:World) (hu:Below w.heap.size w u)=>wI X cb body u hbn (hX.below hu))
 have HK:=aH ((Blk.new w #[.string k,.string v,.int .i64 s,.string r,.int .i64 m,.slice A fs.length cf,.slice X body.length cb,.int .i64 asked,.int .i64 got] 41).alloc (.cells #[.string ⟨#[]⟩,.string ⟨#[]⟩,.int .i64 0,.string ⟨#[]⟩,.int .i64 0,.slice none 0 0,.slice none 0 0,.int .i64 0,.int .i64 0] 41))
 have HL:=aH (Blk.new (w.alloc (.cells #[.string k,.string v,.int .i64 s,.string r,.int .i64 m,.slice A fs.length cf,.slice X body.length cb,.int .i64 asked,.int .i64 got] 41)) #[.string ⟨#[]⟩,.string ⟨#[]⟩,.int .i64 0,.string ⟨#[]⟩,.int .i64 0,.slice none 0 0,.slice none 0 0,.int .i64 0,.int .i64 0] 41)
 have HB:=aH (((zB w.heap.size w).alloc (zA _) (.cells #[.string k,.string v,.int .i64 s,.string r,.int .i64 m,.slice A fs.length cf,.slice X body.length cb,.int .i64 asked,.int .i64 got] 41)).alloc (by rw[bJ];omega) (.cells #[.string ⟨#[]⟩,.string ⟨#[]⟩,.int .i64 0,.string ⟨#[]⟩,.int .i64 0,.slice none 0 0,.slice none 0 0,.int .i64 0,.int .i64 0] 41))
 have hz0:w.heap.size+2=((w.alloc (.cells #[.string k,.string v,.int .i64 s,.string r,.int .i64 m,.slice A fs.length cf,.slice X body.length cb,.int .i64 asked,.int .i64 got] 41)).alloc (.cells #[.string ⟨#[]⟩,.string ⟨#[]⟩,.int .i64 0,.string ⟨#[]⟩,.int .i64 0,.slice none 0 0,.slice none 0 0,.int .i64 0,.int .i64 0] 41)).heap.size:=by rw[bJ,bJ]
 rw[bJ]at HL
 clear hx hX
 go_enter Tryz.func12,Tryz.ntmps12
 obtain⟨x0,x1,x2,x3,x4,x5,x6,x7,x8⟩:=HK.out.cells9
 go_wp2_with fail
 clear x0 x1 x2 x3 x4 x5 x6 x7 x8
 refine (HCR.out _ HB.out).mono ?_
 rintro e w1 ⟨A1,c1,rfl,hr1,hb1⟩
 rw[← hz0]at hr1
 have HR1:=aH hr1
 have HK1:=aH (HK.out.below hb1)
 have HL1:=aH (HL.out.below hb1)
 have HB1:=aH (aA HB.out.size HB.out hb1)
 clear HK HL HB HCR hb1 hr1 hz0
 obtain⟨x0,x1,x2,x3,x4,x5,x6,x7,x8⟩:=HK1.out.cells9
 obtain⟨f2,f3,f4,f5⟩:_∧_∧_∧_:=⟨HK1.out.free 2,HK1.out.free 3,HK1.out.free 4,HK1.out.free 5⟩
 have HK2:Hid (Blk ((((w1.setCell ⟨w.heap.size,2,none⟩ (.int .i64 s)).setCell ⟨w.heap.size,3,none⟩ (.string r)).setCell ⟨w.heap.size,4,none⟩ (.int .i64 m)).setCell ⟨w.heap.size,5,none⟩ (.slice A1 fs.length c1)) w.heap.size #[.string k,.string v,.int .i64 s,.string r,.int .i64 m,.slice A1 fs.length c1,.slice X body.length cb,.int .i64 asked,.int .i64 got] 41):=aH ((((HK1.out.set 2 (.int .i64 s)).set 3 (.string r)).set 4 (.int .i64 m)).set 5 (.slice A1 fs.length c1))
 have y6:=HK2.out.cell 6 (v:=.slice X body.length cb) rfl
 have hne:w.heap.size≠w.heap.size+1:=by omega
 have HL2:Hid (Blk ((((w1.setCell ⟨w.heap.size,2,none⟩ (.int .i64 s)).setCell ⟨w.heap.size,3,none⟩ (.string r)).setCell ⟨w.heap.size,4,none⟩ (.int .i64 m)).setCell ⟨w.heap.size,5,none⟩ (.slice A1 fs.length c1)) (w.heap.size+1) #[.string ⟨#[]⟩,.string ⟨#[]⟩,.int .i64 0,.string ⟨#[]⟩,.int .i64 0,.slice none 0 0,.slice none 0 0,.int .i64 0,.int .i64 0] 41):=aH ((((HL1.out.far 2 (.int .i64 s) hne).far 3 (.string r) hne).far 4 (.int .i64 m) hne).far 5 (.slice A1 fs.length c1) hne)
 have HB2:Hid (Below w.heap.size w ((((w1.setCell ⟨w.heap.size,2,none⟩ (.int .i64 s)).setCell ⟨w.heap.size,3,none⟩ (.string r)).setCell ⟨w.heap.size,4,none⟩ (.int .i64 m)).setCell ⟨w.heap.size,5,none⟩ (.slice A1 fs.length c1))):=aH (aK (aK (aK (aK HB1.out (zA _) 2 _) (zA _) 3 _) (zA _) 4 _) (zA _) 5 _)
 have hl2:w.heap.size < w.heap.size+2:=by omega
 have HR2:Hid (Row ((((w1.setCell ⟨w.heap.size,2,none⟩ (.int .i64 s)).setCell ⟨w.heap.size,3,none⟩ (.string r)).setCell ⟨w.heap.size,4,none⟩ (.int .i64 m)).setCell ⟨w.heap.size,5,none⟩ (.slice A1 fs.length c1)) (w.heap.size+2) 60 2 A1 fs.length c1 (aJ fs)):=aH ((((HR1.out.far (i:=2) hl2 (.int .i64 s)).far (i:=3) hl2 (.string r)).far (i:=4) hl2 (.int .i64 m)).far (i:=5) hl2 (.slice A1 fs.length c1))
 go_wp2_with fail
 clear x0 x1 x2 x3 x4 x5 x6 x7 x8 f2 f3 f4 f5 y6 HK1 HL1 HB1 HR1
 generalize ((((w1.setCell ⟨w.heap.size,2,none⟩ (.int .i64 s)).setCell ⟨w.heap.size,3,none⟩ (.string r)).setCell ⟨w.heap.size,4,none⟩ (.int .i64 m)).setCell ⟨w.heap.size,5,none⟩ (.slice A1 fs.length c1))=w2 at *
 refine (HCB.out _ HB2.out).mono ?_
 rintro e w3 ⟨X1,d1,rfl,hr3,hb3⟩
 have hz2:w.heap.size+1 < w2.heap.size:=HL2.out.lt
 have HR3:=aH (HR2.out.below hb3)
 have HX3:=aH (hr3.mono (base':=w.heap.size+2) (by omega))
 have HK3:=aH (HK2.out.below hb3)
 have HL3:=aH (HL2.out.below hb3)
 have HB3:=aH (aA HB2.out.size HB2.out hb3)
 clear HCB hr3 hb3 HK2 HL2 HB2 HR2 hz2
 have k6:=HK3.out.cell 6 (v:=.slice X body.length cb) rfl
 have f6:=HK3.out.free 6
 have HK4:Hid (Blk (w3.setCell ⟨w.heap.size,6,none⟩ (.slice X1 body.length d1)) w.heap.size #[.string k,.string v,.int .i64 s,.string r,.int .i64 m,.slice A1 fs.length c1,.slice X1 body.length d1,.int .i64 asked,.int .i64 got] 41):=aH (HK3.out.set 6 (.slice X1 body.length d1))
 have HL4:Hid (Blk (w3.setCell ⟨w.heap.size,6,none⟩ (.slice X1 body.length d1)) (w.heap.size+1) #[.string ⟨#[]⟩,.string ⟨#[]⟩,.int .i64 0,.string ⟨#[]⟩,.int .i64 0,.slice none 0 0,.slice none 0 0,.int .i64 0,.int .i64 0] 41):=aH (HL3.out.far 6 (.slice X1 body.length d1) hne)
 have HB4:Hid (Below w.heap.size w (w3.setCell ⟨w.heap.size,6,none⟩ (.slice X1 body.length d1))):=aH (aK HB3.out (zA _) 6 _)
 have HR4:Hid (Row (w3.setCell ⟨w.heap.size,6,none⟩ (.slice X1 body.length d1)) (w.heap.size+2) 60 2 A1 fs.length c1 (aJ fs)):=aH (HR3.out.farT HK3.out aOK 6 _)
 have HX4:Hid (Row (w3.setCell ⟨w.heap.size,6,none⟩ (.slice X1 body.length d1)) (w.heap.size+2) 5 1 X1 body.length d1 (aB body)):=aH (HX3.out.farT HK3.out aOJ 6 _)
 obtain⟨x0,x1,x2,x3,x4,x5,x6,x7,x8⟩:=HK4.out.cells9
 obtain⟨y0,y1,y2,y3,y4,y5,y6,y7,y8⟩:=HL4.out.cells9
 obtain⟨g0,g1,g2,g3,g4,g5,g6,g7,g8⟩:_∧_∧_∧_∧_∧_∧_∧_∧_:=⟨HL4.out.free 0,HL4.out.free 1,HL4.out.free 2,HL4.out.free 3,HL4.out.free 4,HL4.out.free 5,HL4.out.free 6,HL4.out.free 7,HL4.out.free 8⟩
 go_wp2
 clear x0 x1 x2 x3 x4 x5 x6 x7 x8 y0 y1 y2 y3 y4 y5 y6 y7 y8 g0 g1 g2 g3 g4 g5 g6 g7 g8 k6 f6 HK3 HL3 HB3 HR3 HX3
 generalize (w3.setCell ⟨w.heap.size,6,none⟩ (.slice X1 body.length d1))=w4 at *
 obtain⟨z0,z1,z2,z3,z4,z5,z6,z7,z8⟩:=(HL4.out.set9 (.string k) (.string v) (.int .i64 s) (.string r) (.int .i64 m) (.slice A1 fs.length c1) (.slice X1 body.length d1) (.int .i64 asked) (.int .i64 got)).cells9
 unfold nine at z0 z1 z2 z3 z4 z5 z6 z7 z8
 refine bK (v:=.agg #[.string k,.string v,.int .i64 s,.string r,.int .i64 m,.slice A1 fs.length c1,.slice X1 body.length d1,.int .i64 asked,.int .i64 got]) (by simp [results,Tryz.results12,go_sem,z0,z1,z2,z3,z4,z5,z6,z7,z8]) rfl ?_
 exact⟨A1,c1,X1,d1,rfl,(HR4.out.farT9 HL4.out aOK (.string k) (.string v) (.int .i64 s) (.string r) (.int .i64 m) (.slice A1 fs.length c1) (.slice X1 body.length d1) (.int .i64 asked) (.int .i64 got)).mono (by omega),(HX4.out.farT9 HL4.out aOJ (.string k) (.string v) (.int .i64 s) (.string r) (.int .i64 m) (.slice A1 fs.length c1) (.slice X1 body.length d1) (.int .i64 asked) (.int .i64 got)).mono (by omega),aN HB4.out (show w.heap.size≤w.heap.size+1 by omega) (.string k) (.string v) (.int .i64 s) (.string r) (.int .i64 m) (.slice A1 fs.length c1) (.slice X1 body.length d1) (.int .i64 asked) (.int .i64 got)⟩
theorem uX (p:EP) (w:World) (h1:p.E.fs.length≤1099511627776) (h2:p.E.body.length≤1099511627776) (h:ERd w p):Calls Tryz.prog 12 #[p.v] w (RetE w p.E):=by
 refine (wH p.E.k p.E.v p.E.s p.E.r p.E.m p.A p.c p.E.fs p.X p.d p.E.body p.E.asked p.E.got w h1 h2 h.1 h.2).mono ?_
 rintro e w' ⟨A,c,X,d,rfl,q1,q2,q3⟩
 exact⟨⟨p.E,A,c,X,d⟩,rfl,rfl,⟨q1,q2⟩,q3⟩
open Go Go.Maps
structure Pair (Z1:CM) (a1:CSt) (Z2:CM) (a2:CSt):Prop where
 foot:∀ k,Z1.foot a1 k→¬ Z2.foot a2 k
 one:∀ x∈a1.l,∀ k,ownB x.p.A x.p.c=some k∨ownB x.p.X x.p.d=some k→¬ Z2.foot a2 k
 two:∀ x∈a2.l,∀ k,ownB x.p.A x.p.c=some k∨ownB x.p.X x.p.d=some k→¬ Z1.foot a1 k
def aF3 (B1 r1 c1 B2 r2 c2:Nat) (P1 P2:C.Vw→Prop) (Q:EP→Prop) (u:World):Prop:=B1≤u.heap.size∧B2≤u.heap.size∧∃ Z1 a1 Z2 a2,Z1.c=c1∧Z2.c=c2∧CAt B1 r1 Z1 a1 u∧CAt B2 r2 Z2 a2 u∧Pair Z1 a1 Z2 a2∧P1 (C.abs a1)∧P2 (C.abs a2)∧∀ q,Q q→aIA (fun k=>Z1.foot a1 k∨Z2.foot a2 k) u q
def aK9 (u u':World):Prop:=∀ k cs T,T=43∨T=41→Blk u k cs T→Blk u' k cs T
section
variable {B room B1 r1 c1 B2 r2 c2:Nat} {P1 P1' P2:C.Vw→Prop} {Q Q':EP→Prop} {u u' w:World} {Z Z1 Z2 Z1':CM} {a a1 a2 a1':CSt} {s:S.Sto}
theorem CAt.lists (h:CAt B room Z a w) {x:It} (hx:x∈a.l) {k:Nat} (hk:ownB x.p.A x.p.c=some k∨ownB x.p.X x.p.d=some k):k < w.heap.size:=by
 have ho:=h.mem.own x hx
 rcases hk with hk | hk
 ·exact (ho.1.lt k hk).2
 ·exact (ho.2.lt k hk).2
theorem Pair.swap (h:Pair Z1 a1 Z2 a2):Pair Z2 a2 Z1 a1:=⟨fun k h1 h2=>h.foot k h2 h1,h.two,h.one⟩
theorem aF3.swap (h:aF3 B1 r1 c1 B2 r2 c2 P1 P2 Q u):aF3 B2 r2 c2 B1 r1 c1 P2 P1 Q u:=by
 obtain⟨h1,h2,Z1,a1,Z2,a2,h3,h4,h5,h6,h7,h8,h9,h10⟩:=h
 exact⟨h2,h1,Z2,a2,Z1,a1,h4,h3,h6,h5,h7.swap,h9,h8,fun q hq=>⟨(h10 q hq).own,fun k hk hf=>(h10 q hq).off k hk hf.symm⟩⟩
theorem aF3.below (h:aF3 B1 r1 c1 B2 r2 c2 P1 P2 Q u) (hb:Below u.heap.size u u'):aF3 B1 r1 c1 B2 r2 c2 P1 P2 Q u':=by
 obtain⟨h1,h2,Z1,a1,Z2,a2,h3,h4,h5,h6,h7,h8,h9,h10⟩:=h
 exact⟨bD h1 hb.size,bD h2 hb.size,Z1,a1,Z2,a2,h3,h4,h5.below hb,h6.below hb,h7,h8,h9,fun q hq=>(h10 q hq).below hb⟩
theorem aF3.imp (h:aF3 B1 r1 c1 B2 r2 c2 P1 P2 Q u) (hP:∀ v,P1 v→P1' v) (hQ:∀ q,Q' q→Q q):aF3 B1 r1 c1 B2 r2 c2 P1' P2 Q' u:=by
 obtain⟨h1,h2,Z1,a1,Z2,a2,h3,h4,h5,h6,h7,h8,h9,h10⟩:=h
 exact⟨h1,h2,Z1,a1,Z2,a2,h3,h4,h5,h6,h7,hP _ h8,h9,fun q hq=>h10 q (hQ q hq)⟩
theorem aF3.nine {b:Nat} {cs:Array Value} (h:aF3 B1 r1 c1 B2 r2 c2 P1 P2 Q u) (hk:Blk u b cs 41) (y0 y1 y2 y3 y4 y5 y6 y7 y8:Value):aF3 B1 r1 c1 B2 r2 c2 P1 P2 Q (Go.Proofs.YthjeglnkgdpijaaGreatDoor.nine u b y0 y1 y2 y3 y4 y5 y6 y7 y8):=by
 obtain⟨h1,h2,Z1,a1,Z2,a2,h3,h4,h5,h6,h7,h8,h9,h10⟩:=h
 have hz:=(dQ (F:=fun k=>k=b) (w:=u) (b:=b) rfl y0 y1 y2 y3 y4 y5 y6 y7 y8).size
 exact⟨bD h1 hz,bD h2 hz,Z1,a1,Z2,a2,h3,h4,h5.entry9 hk y0 y1 y2 y3 y4 y5 y6 y7 y8,h6.entry9 hk y0 y1 y2 y3 y4 y5 y6 y7 y8,h7,h8,h9,fun q hq=>(h10 q hq).nine hk.tag y0 y1 y2 y3 y4 y5 y6 y7 y8⟩
theorem aK9.refl (u:World):aK9 u u:=fun _ _ _ _ h=>h
theorem CAt.offs2 (h:CAt B room Z a w) {k:Nat} (hk:Z.foot a k):aSF w k:=fun T ht =>
 ⟨fun e=>(by subst e;exact h.off ht (by decide) (by decide) (by decide) hk),fun e=>(by subst e;exact h.off ht (by decide) (by decide) (by decide) hk),fun e=>(by subst e;exact h.off ht (by decide) (by decide) (by decide) hk)⟩
theorem aF3.step (hB1:B1≤u.heap.size) (hB2:B2≤u.heap.size) (h3:Z1.c=c1) (h4:Z2.c=c2) (h5:CAt B1 r1 Z1 a1 u) (h6:CAt B2 r2 Z2 a2 u) (h7:Pair Z1 a1 Z2 a2) (h9:P2 (C.abs a2)) (h10:∀ q,Q q→aIA (fun k=>Z1.foot a1 k∨Z2.foot a2 k) u q)
  (hz:Z1'.c=Z1.c) (hc:CAt B1 r1 Z1' a1' u') (hw:aK8 (Z1.foot a1) u (Z1'.foot a1') u' a1.l a1'.l) (hP:P1' (C.abs a1')) (hn:∀ q,Q' q→Q q∨(gZ u' u.heap.size q∧aIA (Z1'.foot a1') u' q)):aF3 B1 r1 c1 B2 r2 c2 P1' P2 Q' u'∧aK9 u u':=by
 refine⟨⟨bD hB1 hw.size,bD hB2 hw.size,Z1',a1',Z2,a2,hz.trans h3,h4,hc,h6.beside hw.1 (fun k hk=>⟨h5.offs2 hk,h7.foot k hk,fun e=>?_,fun x hx j hj e=>?_⟩),⟨fun k hk hf=>?_,fun x hx k hk hf=>?_,fun x hx k hk hf=>?_⟩,hP,h9,fun q hq=>?_⟩,fun k cs T hT hk=>hw.blk hk (fun hf=>?_)⟩
 ·exact h5.off h6.blk.tag (by decide) (by decide) (by decide) (e ▸ hk)
 ·exact h7.two x hx j hj (e ▸ hk)
 ·rcases hw.foot k hk with h | h
  ·exact h7.foot k h hf
  ·have:=h6.lt hf;omega
 ·rcases hw.newer x hx with h | h
  ·exact h7.one x h k hk hf
  ·have:=h6.lt hf;have:=h k hk;omega
 ·rcases hw.foot k hf with h | h
  ·exact h7.two x hx k hk h
  ·have:=h6.lists hx hk;omega
 ·rcases hn q hq with h | ⟨h,ho⟩
  ·have ho:=h10 q h
   have hl:∀ k,ownB q.A q.c=some k∨ownB q.X q.d=some k→k < u.heap.size:=fun k hk=>hk.elim (fun hk=>(ho.own.1.lt k hk).2) (fun hk=>(ho.own.2.lt k hk).2)
   refine⟨⟨hw.row ho.own.1 (fun k hk hf=>ho.off k (.inl hk) (.inl hf)),hw.row ho.own.2 (fun k hk hf=>ho.off k (.inr hk) (.inl hf))⟩,fun k hk hf=>?_⟩
   rcases hf with hf | hf
   ·rcases hw.foot k hf with h | h
    ·exact ho.off k hk (.inl h)
    ·have:=hl k hk;omega
   ·exact ho.off k hk (.inr hf)
  ·refine⟨ho.own,fun k hk hf=>hf.elim (ho.off k hk) (fun hf=>?_)⟩
   have h1:=h6.lt hf
   rcases hk with hk | hk
   ·have:=(h.1.lt k hk).1;omega
   ·have:=(h.2.lt k hk).1;omega
 ·rcases hT with rfl | rfl
  ·exact h5.off hk.tag (by decide) (by decide) (by decide) hf
  ·exact h5.offE hk hf
end
namespace C
def fnd (s:S.Sto) (key:ByteArray) (ask:List FD):Option (ByteArray × O.Ent):=pick ⟨some s,[],[]⟩ key ask (aV (C.ids ⟨some s,[],[]⟩) key)
theorem iI.bare {s:S.Sto} {v:Vw} (h:iI s v):iI s (abs ⟨some s,[],[]⟩):=⟨h.base,rfl,rfl,fun _ _ h=>by cases h⟩
end C
def puts (w:World) (b:Nat):Nat→List Value→World
 | _,[]=>w
 | i,v::l=>puts (w.setCell ⟨b,i,none⟩ v) b (i+1) l
theorem pJ {B b:Nat} {a:World} (hb:B≤b):∀ (l:List Value) (i:Nat) {w:World},Below B a w→Below B a (puts w b i l)
 | [],_,_,h=>h
 | v::l,i,_,h=>pJ hb l (i+1) (aK h hb i v)
theorem Blk.puts {b:Nat} {t:TypeId}:∀ (l pre mid:List Value) {w:World},Blk w b (pre++mid).toArray t→mid.length=l.length→Blk (Go.Proofs.YthjeglnkgdpijaaGreatDoor.puts w b pre.length l) b (pre++l).toArray t
 | [],pre,mid,_,h,e=>by
  obtain rfl:mid=[]:=List.length_eq_zero_iff.1 e
  exact h
 | v::l,pre,[],_,_,e=>by cases e
 | v::l,pre,m::mid,_,h,e=>by
  have h1:=h.set pre.length v
  have h2:(pre++m::mid).toArray.setIfInBounds pre.length v=((pre++[v])++mid).toArray:=by simp
  rw[h2]at h1
  have h3:=Blk.puts l (pre++[v]) mid h1 (by simpa using e)
  rw[bC,List.append_assoc]at h3
  exact h3
namespace D
theorem pO (d:Dsk) (ns:List ByteArray):(d.begin ns).2≤101:=by
 unfold Dsk.begin
 split
 ·show (93:Int)≤101
  decide
 ·show (if _ then (94:Int) else if _ then 0 else 95)≤101
  split
  ·decide
  ·split<;>decide
theorem aDW (d:Dsk) (nm:ByteArray) (more:List ByteArray) (f:Dsk→Nat→Dsk × Int) (hf:∀ s no,(f s no).2≤101):(d.on nm more f).2≤101:=by
 have hb:=pO d (more++[nm])
 unfold Dsk.on
 cases hbe:d.begin (more++[nm]) with
 | mk s1 e =>
  rw[hbe]at hb
  dsimp only at hb ⊢
  split
  ·exact hb
  ·split
   ·show (90:Int)≤101
    decide
   ·exact hf _ _
theorem vO (d:Dsk) (nm:ByteArray) (b:List UInt8):(d.append nm b).2≤101:=aDW d nm [] _ fun s no=>by split<;>(dsimp only;decide)
theorem aA2 (d:Dsk) (nm:ByteArray):(d.sync nm).2≤101:=aDW d nm [] _ fun s no=>by (dsimp only;decide)
theorem aDN (d:Dsk) (nm:ByteArray):(d.remove nm).2≤101:=aDW d nm [] _ fun s no=>by (dsimp only;decide)
theorem aEC (d:Dsk) (nm:ByteArray):(d.create nm).2≤101:=by
 have hb:=pO d [nm]
 unfold Dsk.create
 cases hbe:d.begin [nm] with
 | mk s1 e =>
  rw[hbe]at hb
  dsimp only at hb ⊢
  split
  ·exact hb
  ·split<;>(dsimp only;decide)
theorem vZ (d:Dsk):d.syncNames.2≤101:=by
 have hb:=pO d []
 unfold Dsk.syncNames
 cases hbe:d.begin [] with
 | mk s1 e =>
  rw[hbe]at hb
  dsimp only at hb ⊢
  split
  ·exact hb
  ·dsimp only
   decide
end D
namespace S
theorem aN4 (d:D.Dsk) (count:Nat) (op no:Int) (id:ByteArray):(add d count op no id).2.2≤101:=by
 have h1:R.code ⟨count,op,no,id⟩≤101:=by
  unfold R.code
  split
  ·split<;>decide
  ·decide
 have h2:=D.vO d bT (R.enc ⟨count,op,no,id⟩)
 have h3:=D.aA2 (d.append bT (R.enc ⟨count,op,no,id⟩)).1 bT
 unfold add
 split
 ·exact h1
 split
 ·exact h2
 ·exact h3
theorem aMX (d:D.Dsk) (p:ByteArray) (b:List UInt8):(lay d p b).2.2≤101:=by
 have h1:(if has d.list p then d.remove p else (d,0):D.Dsk × Int).2≤101:=by
  split
  ·exact D.aDN d p
  ·show (0:Int)≤101
   decide
 unfold lay
 generalize (if has d.list p then d.remove p else (d,0):D.Dsk × Int)=x at *
 dsimp only
 have h2:=D.aEC x.1 p
 generalize x.1.create p=y at *
 have h3:=D.vO y.1 p b
 generalize y.1.append p b=z at *
 have h4:=D.aA2 z.1 p
 generalize z.1.sync p=v at *
 have h5:=D.vZ v.1
 split
 ·exact h1
 split
 ·exact h2
 split
 ·exact h3
 split
 ·exact h4
 ·exact h5
theorem aME (s:Sto) {E:O.Ent} (hE:gU E=0):(s.put E).2≠120:=by
 unfold Sto.put
 rw[if_neg (by rw[hE];decide)]
 split
 ·show (101:Int)≠120
  decide
 split
 ·show (130:Int)≠120
  decide
 rename_i no _
 have h1:=aMX s.d (path no) (gY E)
 generalize lay s.d (path no) (gY E)=x at *
 have h2:(if x.2.2=0 then add x.1 s.count 1 no (aU E) else (x.1,s.count,x.2.2):D.Dsk × Nat × Int).2.2≤101:=by
  split
  ·exact aN4 ..
  ·exact h1
 unfold Sto.entered
 generalize (if x.2.2=0 then add x.1 s.count 1 no (aU E) else (x.1,s.count,x.2.2):D.Dsk × Nat × Int)=y at *
 dsimp only
 split<;>(dsimp only;omega)
theorem aND {E:O.Ent} (h:gU E≠0):gU E=120:=by
 rcases O.nK E.k E.v E.s E.r E.m E.fs E.body E.asked E.got with ⟨h2,_⟩ | ⟨h2,_⟩
 ·exact absurd h2 h
 ·exact h2
end S
namespace C
def last (l:List O.Ent) (x:ByteArray):Option O.Ent:=l.reverse.find? fun E=>decide (S.aU E=x)
theorem kF {l:List O.Ent} {x:ByteArray} {E:O.Ent} (h:last l x=some E):E∈l∧S.aU E=x :=
 ⟨List.mem_reverse.1 (List.mem_of_find?_eq_some h),of_decide_eq_true (List.find?_some (p:=fun E=>decide (S.aU E=x)) h)⟩
theorem aB0 (l:List O.Ent) (E:O.Ent):last (l++[E])=ups (last l) E:=by
 funext x
 unfold last ups
 rw[List.reverse_append,List.reverse_singleton,List.singleton_append,List.find?_cons]
 by_cases h:x=S.aU E
 ·subst h
  rw[if_pos rfl,decide_eq_true rfl]
 ·rw[if_neg h,decide_eq_false (fun e=>h e.symm)]
theorem aRO {E F:O.Ent} (hE:yP E.k) (hF:yP F.k) (h:S.aU E=S.aU F):E.k=F.k∧E.v=F.v:=by
 have h1:L E.k++10::L E.v=L F.k++10::L F.v:=by
  have:=congrArg L h
  unfold S.aU at this
  rw[dG,dG,dG,dG,List.append_assoc,List.append_assoc]at this
  exact this
 unfold yP at hE hF
 have key:∀ (a b c d:List UInt8),(10:UInt8) ∉ a→(10:UInt8) ∉ b→a++10::c=b++10::d→a=b∧c=d:=by
  intro a
  induction a with
  | nil =>
   intro b c d _ hb e
   cases b with
   | nil=>exact⟨rfl,by simpa using e⟩
   | cons y r =>
    simp only[List.nil_append,List.cons_append,List.cons.injEq]at e
    exact absurd (e.1 ▸ List.mem_cons_self ..) hb
  | cons x t ih =>
   intro b c d ha hb e
   cases b with
   | nil =>
    simp only[List.nil_append,List.cons_append,List.cons.injEq]at e
    exact absurd (e.1 ▸ List.mem_cons_self ..) ha
   | cons y r =>
    simp only[List.cons_append,List.cons.injEq]at e
    obtain⟨h1,h2⟩:=ih r c d (fun hm=>ha (List.mem_cons_of_mem _ hm)) (fun hm=>hb (List.mem_cons_of_mem _ hm)) e.2
    exact⟨by rw[e.1,h1],h2⟩
 obtain⟨h2,h3⟩:=key _ _ _ _ hE hF h1
 exact⟨D.L_inj h2,D.L_inj h3⟩
theorem aMY {l:List O.Ent} (hl:∀ E∈l,yP E.k) (key:ByteArray):last (l.filter fun E=>decide (E.k≠key))=cuts (last l) key:=by
 have h2:∀ m:List O.Ent,(∀ E∈m,yP E.k)→∀ x,(m.filter fun E=>decide (E.k≠key)).find? (fun E=>decide (S.aU E=x))=(m.find? fun E=>decide (S.aU E=x)).filter fun E=>decide (E.k≠key):=by
  intro m
  induction m with
  | nil=>exact fun _ _=>rfl
  | cons E r ih =>
   intro hm x
   have ih2:=ih (fun F hF=>hm F (List.mem_cons_of_mem _ hF)) x
   rw[List.filter_cons,List.find?_cons]
   by_cases hx:S.aU E=x
   ·rw[decide_eq_true hx]
    by_cases hk:E.k=key
    ·rw[if_neg (by simp [hk])]
     rw[ih2]
     dsimp only[Option.filter]
     rw[if_neg (by simp [hk])]
     cases hf:r.find? (fun E=>decide (S.aU E=x)) with
     | none=>rfl
     | some F =>
      have h3:S.aU F=x:=of_decide_eq_true (List.find?_some (p:=fun E=>decide (S.aU E=x)) hf)
      have h4:=(aRO (hm E (List.mem_cons_self ..)) (hm F (List.mem_cons_of_mem _ (List.mem_of_find?_eq_some hf))) (hx.trans h3.symm)).1
      dsimp only[Option.filter]
      rw[if_neg (by simp [← h4,hk])]
    ·rw[if_pos (by simp [hk]),List.find?_cons,decide_eq_true hx]
     dsimp only[Option.filter]
     rw[if_pos (by simp [hk])]
   ·rw[decide_eq_false hx]
    dsimp only
    split
    ·rw[List.find?_cons,decide_eq_false hx]
     exact ih2
    ·exact ih2
 funext x
 unfold last cuts
 rw[← List.filter_reverse,h2 l.reverse (fun E hE=>hl E (List.mem_reverse.1 hE)) x]
theorem aGG {space:Int} {fails:List Int} {power slots:Int} {so:Option S.Sto} (hn:fails.length≤1099511627776) (h:start space fails power slots=some so):∃ n,jW n 0 0 (last []) (abs ⟨so,[],[]⟩):=by
 unfold start at h
 split at h
 ·obtain rfl:=Option.some.inj h
  exact⟨0,fun s h=>(by cases h),fun _ _ h=>(by cases h),fun x E h=>(by obtain⟨s,h1,_⟩:=dY.1 h;cases h1),zA _⟩
 split at h
 ·cases h
 ·rename_i h0 h1
  obtain rfl:=Option.some.inj h
  have hfit:D.Fit 3 (S.steps (D.bare space fails power) S.dB).1:=S.gK S.dB S.kY (S.aAL power (by
   by_cases hs:0≤space∧space≤1073741824
   ·exact hs
   ·exact absurd (.inl hs) h1) hn)
  have ht:D.Turn (fun _=>True) (D.bare space fails power) (S.steps (D.bare space fails power) S.dB).1:=S.oD _ fun f hf d=>by
   unfold S.dB at hf
   simp only[List.mem_cons,List.not_mem_nil,or_false]at hf
   rcases hf with rfl | rfl | rfl
   ·exact (D.lM d S.bT).1.imp fun _ _=>trivial
   ·exact (D.mJ d S.bT).imp fun _ _=>trivial
   ·exact (D.iJ d).imp fun _ _=>trivial
  exact⟨slots.toNat,aLO (by omega) _ (ht.mov ⟨fun _ h=>(by cases h),fun _ h=>(by cases h)⟩).1 hfit⟩
end C
structure qO (u u':World):Prop where
 blk:∀ k cs T,T=43∨T=41→Blk u k cs T→Blk u' k cs T
 row:∀ base A n c xs,Row u base 41 9 A n c xs→Row u' base 41 9 A n c xs
theorem qO.below {u u':World} (h:Below u.heap.size u u'):qO u u':=⟨fun _ _ _ _ hk=>hk.below h,fun _ _ _ _ _ hr=>hr.below h⟩
def Wk (B room c n i j:Nat) (l:List O.Ent) (u:World):Prop:=B≤u.heap.size∧∃ Z a,Z.c=c∧CAt B room Z a u∧C.jW n i j (C.last l) (C.abs a)
section
variable {B room c n i j:Nat} {l:List O.Ent} {u u':World} {Z:CM} {a:CSt} {Fa Fb:Nat→Prop}
theorem Wk.below (h:Wk B room c n i j l u) (hb:Below u.heap.size u u'):Wk B room c n i j l u':=by
 obtain⟨h1,Z,a,h2,h3,h4⟩:=h
 exact⟨bD h1 hb.size,Z,a,h2,h3.below hb,h4⟩
theorem Wk.mono {i' j':Nat} (h:Wk B room c n i j l u) (hi:i≤i') (hj:j≤j'):Wk B room c n i' j' l u:=by
 obtain⟨h1,Z,a,h2,h3,h4⟩:=h
 exact⟨h1,Z,a,h2,h3,h4.mono hi hj⟩
theorem Wk.turn (h:Wk B room c n i j l u) (hw:aO Fa u Fb u') (hF:∀ k,Fa k→Tag u k 41):Wk B room c n i j l u':=by
 obtain⟨h1,Z,a,h2,h3,h4⟩:=h
 refine⟨bD h1 hw.size,Z,a,h2,h3.beside hw (fun k hk=>?_),h4⟩
 have ht:=hF k hk
 refine⟨aI7 ht ⟨by decide,by decide,by decide⟩,h3.off ht ⟨by decide,by decide,by decide,by decide⟩ ⟨by decide,by decide,by decide⟩ ⟨by decide,by decide⟩,ht.ne h3.blk.tag (by decide),fun x hx j hj=>?_⟩
 rcases hj with hj | hj
 ·exact ((h3.mem.own x hx).1.tag hj).ne ht (by decide)
 ·exact ((h3.mem.own x hx).2.tag hj).ne ht (by decide)
theorem Wk.app {A A':Option Addr} {base m cc c':Nat} {xs:List Value} (h:Wk B room c n i j l u) (hr:Row u base 41 9 A m cc xs) (ha:App u u' A cc A' c'):Wk B room c n i j l u' :=
 h.turn (Fa:=fun k=>ownB A cc=some k) (Fb:=fun k=>ownB A cc=some k) (aO.grown ha.grown (fun _ e=>e) (fun _ h=>.inl h)) (fun _ hk=>hr.tag hk)
theorem Wk.nine {b:Nat} {cs:Array Value} (h:Wk B room c n i j l u) (hk:Blk u b cs 41) (y0 y1 y2 y3 y4 y5 y6 y7 y8:Value):Wk B room c n i j l (Go.Proofs.YthjeglnkgdpijaaGreatDoor.nine u b y0 y1 y2 y3 y4 y5 y6 y7 y8) :=
 h.turn (Fa:=fun k=>k=b) (Fb:=fun k=>k=b) (dQ (F:=fun k=>k=b) rfl y0 y1 y2 y3 y4 y5 y6 y7 y8) (fun k e=>by subst e;exact hk.tag)
theorem CAt.standE (h:CAt B room Z a u) (hw:aO (Z.foot a) u Fb u'):qO u u' :=
 ⟨fun k cs T hT hk=>hw.blk hk (fun hf=>by
  rcases hT with rfl | rfl
  ·exact h.off hk.tag ⟨by decide,by decide,by decide,by decide⟩ ⟨by decide,by decide,by decide⟩ ⟨by decide,by decide⟩ hf
  ·exact h.off hk.tag ⟨by decide,by decide,by decide,by decide⟩ ⟨by decide,by decide,by decide⟩ ⟨by decide,by decide⟩ hf),fun base A n c xs hr=>hw.row hr (fun k hk=>h.off (hr.tag hk) ⟨by decide,by decide,by decide,by decide⟩ ⟨by decide,by decide,by decide⟩ ⟨by decide,by decide⟩)⟩
theorem aF9 {u0:World} (p:EP) (h:Wk B room c n i j l u0) (hu:Below u0.heap.size u0 u) (hp:gZ u u0.heap.size p) (hi:i≤2900) (hj:j≤90) (hz:p.lim) (hT:∀ w,Below B u w→Tabs w) :
  Calls Tryz.prog 11 #[.pointer (some ⟨c,0,none⟩),p.v] u (fun e u'=>∃ code:Int,e=.returned (.int .i64 code)∧Below B u u'∧qO u u'∧((code=120∧Wk B room c n i j l u')∨(code≠120∧S.gU p.E=0∧Wk B room c n (i+1) (j+1) (l++[p.E]) u'))):=by
 obtain⟨h1,Z,a,rfl,h3,h4⟩:=h
 have h5:=h3.below hu
 have hlb:=F.bU p.E.fs
 have hB:=bD h1 hu.size
 have hhd:a.hd.length≤i:=h4.hd
 unfold EP.lim at hz
 refine (aE3 B room u0.heap.size 50000 50000 Z a p u h5 hp (by omega) (by omega) (by omega) (by omega) (by omega) (fun s hs=>?_) (by omega) (by omega) (fun w hw=>(hT w hw).2.2) hB (fun k hk hf=>?_)).mono ?_
 ·obtain⟨o1,o2⟩:=h4.sto s hs
  have h6:=h4.mono (zA i) (zA j)
  refine⟨h4.fine (by omega) (by omega) hs,?_⟩
  obtain⟨q1,_⟩:=o1.put p.E
  exact⟨(S.oH o2 p.E).mono (by omega),q1.up,by have:=q1.len;omega,fun x hx=>by have:=q1.ids x hx;omega,fun x hx=>by rw[q1.used,S.cZ];exact q1.no x hx,by rw[q1.used,S.cZ];exact q1.le,by have:=q1.cnt;omega⟩
 ·have h6:=h3.lt hf
  rcases hk with hk | hk
  ·have:=(hp.1.lt k hk).1;omega
  ·have:=(hp.2.lt k hk).1;omega
 ·rintro e w' (⟨e1,rfl,hb⟩ | ⟨e1,l',hl,hm⟩)
  ·exact⟨_,rfl,hb.mono hB,qO.below hb,.inl ⟨S.aND e1,bD hB hb.size,Z,a,rfl,h5.below hb,h4⟩⟩
  ·cases hs:a.s with
   | none =>
    simp only[hs]at hm
    obtain⟨rfl,hc,hw⟩:=hm
    refine⟨0,rfl,dR hw (fun k hk=>h5.under hk) hB,h5.standE hw,.inr ⟨by decide,e1,bD hB hw.size,Z,_,rfl,hc,?_⟩⟩
    rw[C.aB0]
    have:=h4.save0 hs hl
    rwa [hs]at this
   | some s =>
    simp only[hs]at hm
    obtain⟨rfl,X,hc,hw⟩:=hm
    refine⟨_,rfl,dR hw (fun k hk=>h5.under hk) hB,h5.standE hw,.inr ⟨S.aME s e1,e1,bD hB hw.size,{ Z with X:=X },_,rfl,hc,?_⟩⟩
    rw[C.aB0]
    exact h4.save1 hs hl
theorem wR (key:ByteArray) (Y:Option Addr) (cy:Nat) (ask:List FD) (h:Wk B room c n i j l u) (hi:i≤3000) (hj:j≤100) (hl:∀ E∈l,S.gU E=0) (hk:key.size≤1048576) (hb:F.bulk ask≤1048576) (hy:Rd u Y ask.length 2 (aJ ask)) (hT:∀ w,Below B u w→Tabs w) :
  Calls Tryz.prog 13 #[.pointer (some ⟨c,0,none⟩),.string key,.slice Y ask.length cy] u (fun e u'=>∃ (q:EP) (ok:Bool),e=.returned (.tuple #[q.v,.bool ok])∧Below B u u'∧qO u u'∧Wk B room c n i j l u'∧ERd u' q∧(ok=false→q=EP.nil)∧(ok=true→q.E.k=key∧V.matches q.E ask=true∧C.last l (S.aU q.E)=some q.E)):=by
 obtain⟨h1,Z,a,rfl,h3,h4⟩:=h
 refine (aFS B room 50000 Z a key Y cy ask u h3 (fun s hs=>h4.fine hi hj hs) (by omega) (h4.good hb (fun x E e=>hl E (C.kF e).1)) (by omega) hy hT h1).mono ?_
 rintro e w' hret
 rcases C.tY a key ask (C.aV (C.ids a) key) with ⟨h0,_⟩ | ⟨id,hid,E,h0,⟨e1,e2,e3⟩,_⟩
 ·rw[h0]at hret
  obtain⟨rfl,hbe⟩:=hret
  exact⟨EP.nil,false,rfl,hbe.mono h1,qO.below hbe,⟨bD h1 hbe.size,Z,a,rfl,h3.below hbe,h4⟩,⟨Rd.nil _ _ _,Rd.nil _ _ _⟩,fun _=>rfl,fun h=>(by cases h)⟩
 ·rw[h0]at hret
  obtain⟨q,l',rfl,hq,ho,hof,hc,hw,hl2⟩:=hret
  have hg:C.gone a id=false:=by
   have:=(List.mem_filter.1 (List.mem_filter.1 hid).1).2
   simpa using this
  have hs:=h4.shown hg e1
  obtain⟨_,hi2⟩:=C.kF hs
  dsimp only at hq
  subst hq
  refine⟨q,true,rfl,dR hw (fun k hk=>h3.under hk) h1,h3.standE hw,⟨bD h1 hw.size,Z,_,rfl,hc,h4.found hs hl2⟩,ho.rd,fun h=>(by cases h),fun _=>⟨e2,e3,?_⟩⟩
  rw[hi2]
  exact hs
theorem aCY (key:ByteArray) (h:Wk B room c n i j l u) (hi:i≤2800) (hj:j≤100) (hl:∀ E∈l,yP E.k) (hk:key.size≤1048576) (hT:∀ w,Below B u w→Tabs w) :
  Calls Tryz.prog 10 #[.pointer (some ⟨c,0,none⟩),.string key] u (fun e u'=>∃ a b:Int,e=.returned (.tuple #[.int .i64 a,.int .i64 b])∧Below B u u'∧qO u u'∧Wk B room c n (i+j) j (l.filter fun E=>decide (E.k≠key)) u'):=by
 obtain⟨h1,Z,a,rfl,h3,h4⟩:=h
 obtain⟨p1,p2⟩:=h4.purge key (fun x E e=>(C.kF e).2)
 refine (aBK B room 50000 Z a key u h3 (by omega) (by omega) (fun k _=>⟨bD (p1 k).hd (by omega),fun s hs=>(p1 k).fine (by omega) hj hs⟩) hT h1).mono ?_
 rintro e w' ⟨X,a',rfl,hc,hw,ha,_⟩
 refine⟨_,_,rfl,dR hw (fun k hk=>h3.under hk) h1,h3.standE hw,bD h1 hw.size,{ Z with X:=X },a',rfl,hc,?_⟩
 rw[C.aMY hl,ha]
 exact p2
end
end Go.Proofs.YthjeglnkgdpijaaGreatDoor
