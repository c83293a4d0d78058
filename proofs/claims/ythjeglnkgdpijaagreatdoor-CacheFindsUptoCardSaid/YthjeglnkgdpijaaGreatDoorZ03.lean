/- The walk of cache.copied: an entry as new memory. The walk of lru's Put at entries. A cache in memory: where it lies, what its steps leave. Plain lemmas. Conditions: as each theorem states them. -/
import Derived.Test.YthjeglnkgdpijaaGreatDoorZ00
set_option maxHeartbeats 4000000
set_option maxRecDepth 100000
namespace Go.Proofs.YthjeglnkgdpijaaGreatDoor
open Go Go.RowKit
theorem Row.nilC {w:World} {base:Nat} {e:TypeId} {size:Nat} {A:Option Addr} {n c:Nat} {xs:List Value} (h:Row w base e size A n c xs) (hA:A=none):n=0∧c=0:=by
 subst hA
 rcases h with ⟨_,h | ⟨g,cap,cur,hv,_⟩⟩ | ⟨h1,h2,_⟩
 ·obtain⟨hv,h0⟩:=h
  cases hv
  exact⟨rfl,rfl⟩
 ·cases hv
 ·exact⟨h1,h2⟩
theorem aHX (A:Option Addr) (n c:Nat) (fs:List FD) (w:World) (hn:n≤1099511627776) (hx:Rd w A n 2 (aJ fs)) (hnil:A=none→n=0∧c=0) :
  Calls Tryz.prog 77 #[.slice A n c] w (fun e w'=>∃ A' c',e=.returned (.slice A' n c')∧Row w' w.heap.size 60 2 A' n c' (aJ fs)∧Below w.heap.size w w'):=by
 cases A with
 | none =>
  obtain⟨rfl,rfl⟩:=hnil rfl
  have hfs:aJ fs=[]:=List.eq_nil_of_length_eq_zero (by simpa using hx.1)
  have HF:=aH hfs
  clear hfs
  have he:=fun w=>Lib.run_eql_slice_nil (P:=Tryz.prog) w 27 _ none 0 0 (h:=Tryz.underlying27)
  go_enter Tryz.func77,Tryz.ntmps77
  go_wp2
  go_ret
  exact⟨none,0,rfl,by rw[HF.out];exact Row.none_ _ _ _ _,zB _ _⟩
 | some ad =>
  have he:=fun w=>Lib.run_eql_slice_nil (P:=Tryz.prog) w 27 _ (some ad) n c (h:=Tryz.underlying27)
  clear hnil
  go_enter Tryz.func77,Tryz.ntmps77
  go_wp2_with (at_builtin;refine appF _ rfl (.tmp 5) (.tmp 6) rfl w.heap.size _ 0 0 [] rfl (Row.empty _ _ _ _ _) (some ad) n c fs rfl (hx.alloc _) (by omega) (by simp) ?_;intro A1 c1 w1 hr1 ha1;simp only[Nat.zero_add,List.nil_append]at hr1)
  go_ret
  exact⟨A1,c1,by simp,hr1,((zB _ _).alloc (zA _) _).trans (ha1.below (Row.empty _ _ 60 2 _) (by simp))⟩
theorem aHZ (A:Option Addr) (n c:Nat) (bs:List UInt8) (w:World) (hn:n≤1099511627776) (hx:Rd w A n 1 (aB bs)) (hnil:A=none→n=0∧c=0) :
  Calls Tryz.prog 49 #[.slice A n c] w (fun e w'=>∃ A' c',e=.returned (.slice A' n c')∧Row w' w.heap.size 5 1 A' n c' (aB bs)∧Below w.heap.size w w'):=by
 cases A with
 | none =>
  obtain⟨rfl,rfl⟩:=hnil rfl
  have hfs:aB bs=[]:=List.eq_nil_of_length_eq_zero (by simpa using hx.1)
  have HF:=aH hfs
  clear hfs
  have he:=fun w=>Lib.run_eql_slice_nil (P:=Tryz.prog) w 39 _ none 0 0 (h:=Tryz.underlying39)
  go_enter Tryz.func49,Tryz.ntmps49
  go_wp2
  go_ret
  exact⟨none,0,rfl,by rw[HF.out];exact Row.none_ _ _ _ _,zB _ _⟩
 | some ad =>
  have he:=fun w=>Lib.run_eql_slice_nil (P:=Tryz.prog) w 39 _ (some ad) n c (h:=Tryz.underlying39)
  clear hnil
  go_enter Tryz.func49,Tryz.ntmps49
  go_wp2_with (at_builtin;refine aQ0 _ rfl (.tmp 5) (.tmp 6) rfl w.heap.size _ 0 0 [] rfl (Row.empty _ _ _ _ _) (some ad) n c bs rfl (hx.alloc _) (by omega) (by simp) ?_;intro A1 c1 w1 hr1 ha1;simp only[Nat.zero_add,List.nil_append]at hr1)
  go_ret
  exact⟨A1,c1,by simp,hr1,((zB _ _).alloc (zA _) _).trans (ha1.below (Row.empty _ _ 5 1 _) (by simp))⟩
def RetE (w:World) (E:O.Ent) (e:Ending) (w':World):Prop:=∃ p:EP,e=.returned p.v∧p.E=E∧gZ w' w.heap.size p∧Below w.heap.size w w'
theorem yH (p:EP) (b:Nat) (w:World) (h:gZ w b p) (h1:p.E.fs.length≤1099511627776) (h2:p.E.body.length≤1099511627776) :
  Calls Tryz.prog 38 #[p.v] w (RetE w p.E):=by
 obtain⟨w0,hw0⟩:∃ w0,(w.alloc (.cells #[.string p.E.k,.string p.E.v,.int .i64 p.E.s,.string p.E.r,.int .i64 p.E.m,.slice p.A p.E.fs.length p.c,.slice p.X p.E.body.length p.d,.int .i64 p.E.asked,.int .i64 p.E.got] 41)).alloc (.cells #[.string ⟨#[]⟩,.string ⟨#[]⟩,.int .i64 0,.string ⟨#[]⟩,.int .i64 0,.slice none 0 0,.slice none 0 0,.int .i64 0,.int .i64 0] 41)=w0:=⟨_,rfl⟩
 have hb0:Below w.heap.size w w0:=by rw[← hw0];exact ((zB _ _).alloc (zA _) _).alloc (by simp) _
 have hk1:Blk w0 w.heap.size #[.string p.E.k,.string p.E.v,.int .i64 p.E.s,.string p.E.r,.int .i64 p.E.m,.slice p.A p.E.fs.length p.c,.slice p.X p.E.body.length p.d,.int .i64 p.E.asked,.int .i64 p.E.got] 41:=by rw[← hw0];exact (Blk.new w _ _).alloc _
 have hk2:Blk w0 (w.heap.size+1) #[.string ⟨#[]⟩,.string ⟨#[]⟩,.int .i64 0,.string ⟨#[]⟩,.int .i64 0,.slice none 0 0,.slice none 0 0,.int .i64 0,.int .i64 0] 41:=by
  rw[← hw0]
  have:=Blk.new (w.alloc (.cells #[.string p.E.k,.string p.E.v,.int .i64 p.E.s,.string p.E.r,.int .i64 p.E.m,.slice p.A p.E.fs.length p.c,.slice p.X p.E.body.length p.d,.int .i64 p.E.asked,.int .i64 p.E.got] 41)) #[.string ⟨#[]⟩,.string ⟨#[]⟩,.int .i64 0,.string ⟨#[]⟩,.int .i64 0,.slice none 0 0,.slice none 0 0,.int .i64 0,.int .i64 0] 41
  rwa [bJ]at this
 have HB0:=aH hb0
 have HK1:=aH hk1
 have HK2:=aH hk2
 have HO:=aH (h.below hb0)
 have HCF:=aH (aHX p.A p.E.fs.length p.c p.E.fs w0 h1 (HO.out.1.rd) h.1.nilC)
 have HCB:=aH (fun u (hu:Rd u p.X p.E.body.length 1 (aB p.E.body))=>aHZ p.X p.E.body.length p.d p.E.body u h2 hu h.2.nilC)
 have HOL:=aH (fun k (hk:ownB p.X p.d=some k)=>(h.2.lt k hk).2)
 have HSZ:Hid (w.heap.size+2=w0.heap.size):=aH (by rw[← hw0];simp)
 obtain⟨x0,x1,x2,x3,x4,x5,x6,x7,x8⟩:=hk1.cells9
 clear hb0 hk1 hk2 h
 unfold EP.v lW
 go_enter Tryz.func38,Tryz.ntmps38
 go_wp2_with fail
 clear x0 x1 x2 x3 x4 x5 x6 x7 x8 hw0
 refine HCF.out.mono ?_
 rintro e w1 ⟨A1,c1,rfl,hr1,hb1⟩
 have hk1:Blk (w1.setCell ⟨w.heap.size,5,none⟩ (.slice A1 p.E.fs.length c1)) w.heap.size #[.string p.E.k,.string p.E.v,.int .i64 p.E.s,.string p.E.r,.int .i64 p.E.m,.slice A1 p.E.fs.length c1,.slice p.X p.E.body.length p.d,.int .i64 p.E.asked,.int .i64 p.E.got] 41:=(HK1.out.below hb1).set 5 _
 have hk2:Blk (w1.setCell ⟨w.heap.size,5,none⟩ (.slice A1 p.E.fs.length c1)) (w.heap.size+1) #[.string ⟨#[]⟩,.string ⟨#[]⟩,.int .i64 0,.string ⟨#[]⟩,.int .i64 0,.slice none 0 0,.slice none 0 0,.int .i64 0,.int .i64 0] 41:=(HK2.out.below hb1).far 5 _ (by omega)
 have f5:=(HK1.out.below hb1).free 5
 have y5:=(HK1.out.below hb1).cell 5 rfl
 have hg:=aT w1 w.heap.size 5 (.slice A1 p.E.fs.length c1)
 have hw:=aO.grown (F:=fun k=>k=w.heap.size) (F':=fun k=>k=w.heap.size) hg (fun k e=>by cases e;rfl) (fun _ h=>.inl h)
 have HBA:=aH ((aA HB0.out.size HB0.out hb1).grown hg (bD HB0.out.size hb1.size) (fun k e=>by cases e;exact zA _))
 have HRA:=aH (hw.row hr1 (fun k hk e=>by have h3:=(hr1.lt k hk).1;have h4:=HSZ.out;omega))
 have HRX:=aH (hw.row (HO.out.2.below hb1) (fun k hk e=>by have h3:=HOL.out k hk;omega)).rd
 have HZ1:Hid (w0.heap.size≤(w1.setCell ⟨w.heap.size,5,none⟩ (.slice A1 p.E.fs.length c1)).heap.size):=aH (by rw[World.size_setCell];exact hb1.size)
 obtain⟨u1,hu1⟩:∃ u1,w1.setCell ⟨w.heap.size,5,none⟩ (.slice A1 p.E.fs.length c1)=u1:=⟨_,rfl⟩
 rw[hu1]at hk1 hk2 HBA HRA HRX HZ1
 have HK1:=aH hk1
 have HK2:=aH hk2
 have y6:=hk1.cell 6 rfl
 have HCB:=aH (HCB.out u1 HRX.out)
 clear hb1 hr1 hk1 hk2 hg hw HB0 HO HCF
 go_wp2_with fail
 clear hu1 f5 y5 y6
 refine HCB.out.mono ?_
 rintro e w2 ⟨X2,d2,rfl,hr2,hb2⟩
 have hk1:Blk (w2.setCell ⟨w.heap.size,6,none⟩ (.slice X2 p.E.body.length d2)) w.heap.size #[.string p.E.k,.string p.E.v,.int .i64 p.E.s,.string p.E.r,.int .i64 p.E.m,.slice A1 p.E.fs.length c1,.slice X2 p.E.body.length d2,.int .i64 p.E.asked,.int .i64 p.E.got] 41:=(HK1.out.below hb2).set 6 _
 have hk2:Blk (w2.setCell ⟨w.heap.size,6,none⟩ (.slice X2 p.E.body.length d2)) (w.heap.size+1) #[.string ⟨#[]⟩,.string ⟨#[]⟩,.int .i64 0,.string ⟨#[]⟩,.int .i64 0,.slice none 0 0,.slice none 0 0,.int .i64 0,.int .i64 0] 41:=(HK2.out.below hb2).far 6 _ (by omega)
 have f6:=(HK1.out.below hb2).free 6
 have y6:=(HK1.out.below hb2).cell 6 rfl
 have hg:=aT w2 w.heap.size 6 (.slice X2 p.E.body.length d2)
 have hw:=aO.grown (F:=fun k=>k=w.heap.size) (F':=fun k=>k=w.heap.size) hg (fun k e=>by cases e;rfl) (fun _ h=>.inl h)
 have HBB:=aH ((aA HBA.out.size HBA.out hb2).grown hg (bD HBA.out.size hb2.size) (fun k e=>by cases e;exact zA _))
 have HRB:=aH (hw.row (HRA.out.below hb2) (fun k hk e=>by have h3:=(HRA.out.lt k hk).1;have h4:=HSZ.out;omega))
 have HRY:=aH (hw.row hr2 (fun k hk e=>by have h3:=(hr2.lt k hk).1;have h4:=HSZ.out;have h5:=HZ1.out;omega))
 obtain⟨u2,hu2⟩:∃ u2,w2.setCell ⟨w.heap.size,6,none⟩ (.slice X2 p.E.body.length d2)=u2:=⟨_,rfl⟩
 rw[hu2]at hk1 hk2 HBB HRB HRY
 obtain⟨x0,x1,x2,x3,x4,x5,x6,x7,x8⟩:=hk1.cells9
 obtain⟨z0,z1,z2,z3,z4,z5,z6,z7,z8⟩:=hk2.cells9
 obtain⟨g0,g1,g2,g3,g4,g5,g6,g7,g8⟩:=hk2.free9
 have HK2:=aH hk2
 clear hb2 hr2 hk1 hk2 hg hw HBA HRA HRX HCB
 go_wp2
 clear x0 x1 x2 x3 x4 x5 x6 x7 x8 z0 z1 z2 z3 z4 z5 z6 z7 z8 g0 g1 g2 g3 g4 g5 g6 g7 g8 f6 y6
 obtain⟨d0,d1,d2',d3,d4,d5,d6,d7,d8⟩:=(HK2.out.set9 (.string p.E.k) (.string p.E.v) (.int .i64 p.E.s) (.string p.E.r) (.int .i64 p.E.m) (.slice A1 p.E.fs.length c1) (.slice X2 p.E.body.length d2) (.int .i64 p.E.asked) (.int .i64 p.E.got)).cells9
 have hw:=dQ (F:=fun k=>k=w.heap.size+1) (w:=u2) (b:=w.heap.size+1) rfl (.string p.E.k) (.string p.E.v) (.int .i64 p.E.s) (.string p.E.r) (.int .i64 p.E.m) (.slice A1 p.E.fs.length c1) (.slice X2 p.E.body.length d2) (.int .i64 p.E.asked) (.int .i64 p.E.got)
 have HRC:=aH (hw.row HRB.out (fun k hk e=>by have h3:=(HRB.out.lt k hk).1;have h4:=HSZ.out;omega))
 have HRZ:=aH (hw.row HRY.out (fun k hk e=>by have h3:=(HRY.out.lt k hk).1;have h4:=HSZ.out;have h5:=HZ1.out;omega))
 have hbz:Below w.heap.size w (nine u2 (w.heap.size+1) (.string p.E.k) (.string p.E.v) (.int .i64 p.E.s) (.string p.E.r) (.int .i64 p.E.m) (.slice A1 p.E.fs.length c1) (.slice X2 p.E.body.length d2) (.int .i64 p.E.asked) (.int .i64 p.E.got)):=⟨hw.os.trans HBB.out.os,hw.tape.trans HBB.out.tape,hw.output.trans HBB.out.output,bD HBB.out.size hw.size,fun k hk=>(hw.block k (Nat.lt_of_lt_of_le hk HBB.out.size) (by omega)).trans (HBB.out.block k hk)⟩
 have HBZ:=aH hbz
 clear hw hbz
 unfold nine at d0 d1 d2' d3 d4 d5 d6 d7 d8
 refine bK (v:=.agg #[.string p.E.k,.string p.E.v,.int .i64 p.E.s,.string p.E.r,.int .i64 p.E.m,.slice A1 p.E.fs.length c1,.slice X2 p.E.body.length d2,.int .i64 p.E.asked,.int .i64 p.E.got]) (by simp [results,Tryz.results38,go_sem,d0,d1,d2',d3,d4,d5,d6,d7,d8]) rfl ?_
 exact⟨⟨p.E,A1,c1,X2,d2⟩,rfl,rfl,⟨HRC.out.mono (by have:=HSZ.out;omega),HRZ.out.mono (by have:=HSZ.out;have:=HZ1.out;omega)⟩,HBZ.out⟩
open Go.Maps
open Lr (Ring nU aH9 Fr nx pv adr)
section
variable {F F':Nat→Prop} {w w1 w2:World} {b B t m room u:Nat} {tb:D.NM} {l:List It} {x:It} {A:Option Addr} {c n:Nat}
theorem kM {b:Nat} (h:aO F w F' w1) (hb:Below b w1 w2) (hw:w.heap.size≤b):aO F w F' w2 :=
 ⟨hb.os.trans h.os,hb.tape.trans h.tape,hb.output.trans h.output,bD h.size hb.size,fun k hk hn=>(hb.block k (by omega)).trans (h.block k hk hn),h.foot⟩
theorem bP.cons (h:bP B t m room u tb l w) (h1:nU w x) (h2:Fr w x.k Lr.nT) (h3:gZ w B x.p):bP B t m room u tb (x::l) w :=
 ⟨h.fr,h.tabc,fun y hy=>by
  rcases List.mem_cons.1 hy with rfl | hy
  ·exact⟨h1,h2⟩
  ·exact h.node y hy,h.items,fun y hy=>by
  rcases List.mem_cons.1 hy with rfl | hy
  ·exact h3
  ·exact h.own y hy⟩
theorem fU.app {e:TypeId} {s base:Nat} {xs:List Value} {A':Option Addr} {c':Nat} (h:fU B t m room l w) (hr:Row w base e s A n c xs) (ha:App w w1 A c A' c') (h1:e≠Lr.tT) (h2:e≠Lr.nT) (h3:e≠60) (h4:e≠5):fU B t m room l w1:=by
 have hw:aO (fun k=>ownB A c=some k) w (fun k=>ownB A c=some k) w1:=aO.grown ha.grown (fun k e=>e) (fun _ h=>.inl h)
 refine h.went hw (fun k hk e=>h.off (hr.tag e) h1 h2 hk) (fun x hx k hk e=>?_)
 rcases hk with hk | hk
 ·exact ((h.own x hx).1.tag hk).ne (hr.tag e) h3.symm rfl
 ·exact ((h.own x hx).2.tag hk).ne (hr.tag e) h4.symm rfl
end
theorem aBU:∀ {a b:List ByteArray},a.Nodup→(∀ x∈a,x∈b)→a.length≤b.length
 | [],_,_,_=>zF _
 | x::r,b,h,hs=>by
  obtain⟨s,t,rfl⟩:=List.append_of_mem (hs x (by simp))
  obtain⟨h1,h2⟩:=List.nodup_cons.1 h
  have:=aBU (a:=r) (b:=s++t) h2 (fun y hy=>by
   have h3:=hs y (List.mem_cons_of_mem _ hy)
   have h4:y≠x:=fun e=>h1 (e ▸ hy)
   simpa [h4] using h3)
  simp at this ⊢
  omega
theorem aQ4 {tb:D.NM} {l:List It} (h:D.Up tb) (hf:∀ id,D.find tb id=(Lr.peek l id).map (·.k)):tb.length≤l.length:=by
 have h1:(tb.map (·.1)).Nodup:=by
  unfold D.Up at h
  exact (List.pairwise_map.2 (h.imp (fun {a b} e e2=>by rw[e2,D.lt_irrefl]at e;cases e)))
 have h2:=aBU (b:=Lr.ids l) h1 (fun x hx=>by
  obtain⟨p,hp,rfl⟩:=List.mem_map.1 hx
  cases hq:Lr.peek l p.1 with
  | none =>
   have h3:=hf p.1
   rw[hq]at h3
   exact absurd rfl (D.kG h3 p hp)
  | some y =>
   obtain⟨j,hj,e1,e2⟩:=Lr.tZ hq
   exact List.mem_map.2 ⟨y,e1 ▸ List.getElem_mem hj,e2⟩)
 unfold Lr.ids at h2
 simpa using h2
def aF6 (l l':List It):Prop:=∀ x,Lr.peek l' x=none∨Lr.peek l' x=Lr.peek l x
def aOC (B t m room:Nat) (l:List It) (id:ByteArray) (q:EP) (z:Nat) (w:World) (e:Ending) (w':World):Prop :=
 (room < z∧e=.returned (.tuple #[.slice none 0 0,.bool false])∧fU B t m room l w'∧Below w.heap.size w w') ∨
 (z≤room∧∃ (A:Option Addr) (n c k:Nat) (l1:List It),e=.returned (.tuple #[.slice A n c,.bool true])∧fU B t m room (⟨id,q,z,k⟩::l1) w'∧aO (LrF t m l) w (LrF t m (⟨id,q,z,k⟩::l1)) w'∧aF6 l l1∧Lr.peek l1 id=none)
theorem aJJ (B t m room:Nat) (l:List It) (id:ByteArray) (q:EP) (z:Nat) (w:World) (h:fU B t m room l w) (hq:gZ w B q) (hs:id.size≤1073741824) (hz:1≤z) (hz2:z≤1099511627776) (hqs:q.E.fs.length≤1099511627776∧q.E.body.length≤1099511627776) (hB:B≤w.heap.size) :
  Calls Tryz.prog 72 #[.pointer (some ⟨t,0,none⟩),.string id,q.v,.int .i64 z] w (aOC B t m room l id q z w):=by
 obtain⟨w0,hw0⟩:∃ w0,w.alloc (.cells #[.string q.E.k,.string q.E.v,.int .i64 q.E.s,.string q.E.r,.int .i64 q.E.m,.slice q.A q.E.fs.length q.c,.slice q.X q.E.body.length q.d,.int .i64 q.E.asked,.int .i64 q.E.got] 41)=w0:=⟨_,rfl⟩
 have hb0:Below w.heap.size w w0:=by rw[← hw0];exact (zB _ _).alloc (zA _) _
 have hk0:=Blk.new w #[.string q.E.k,.string q.E.v,.int .i64 q.E.s,.string q.E.r,.int .i64 q.E.m,.slice q.A q.E.fs.length q.c,.slice q.X q.E.body.length q.d,.int .i64 q.E.asked,.int .i64 q.E.got] 41
 rw[hw0]at hk0
 have h0:=h.below hb0
 obtain⟨y0,y1,y2⟩:=h0.tabc
 have hroom:=h.fits.2
 have HB0:=aH hb0
 have HK0:=aH hk0
 have HH:=aH h
 have H0:=aH h0
 have HNK:Hid (¬ LrF t m l w.heap.size):=aH (fun hk=>Nat.lt_irrefl _ (h.lt hk))
 have HQ0:=aH (hq.below hb0)
 have hz0:¬ (z:Int) < 0:=by omega
 clear hb0 hk0 h hq
 unfold EP.v lW
 by_cases hzr:room < z
 ·have hzi:(z:Int) > (room:Int):=by omega
  clear h0
  go_enter Tryz.func72,Tryz.ntmps72
  go_wp2
  go_ret2
  exact .inl ⟨hzr,rfl,H0.out,HB0.out⟩
 have hzi:¬ (z:Int) > (room:Int):=by omega
 have HDR:=aH (oO B t m room l id w0 h0 hs)
 clear h0
 go_enter Tryz.func72,Tryz.ntmps72
 go_wp2_with fail
 clear y0 y1 y2 hz0 hw0
 refine HDR.out.mono ?_
 rintro e w1 ⟨l0,bd,rfl,h1,hw1,hp1⟩
 have H1:=aH h1
 have HW1:=aH ((aO.below HB0.out (LrF t m l)).trans hw1)
 have HP1:=aH hp1
 have HQ1:=aH (kS HQ0.out hw1 (fun k hk=>H0.out.tag hk))
 have HK1:=aH (hw1.blk HK0.out HNK.out)
 have hlen0:=h1.len
 have HZW:Hid (w.heap.size≤w1.heap.size):=aH (bD HB0.out.size hw1.size)
 clear h1 hw1 hp1 HDR HQ0 HK0 H0
 go_wp2_with fail
 go_loopw [10] (fun a wr=>∃ (l1:List It) (A:Option Addr) (n c:Nat) (gs:List ByteArray),a=.slice A n c∧n+l1.length≤l0.length∧Row wr w1.heap.size 9 1 A n c (aF gs)∧fU B t m room l1 wr∧aO (LrF t m l) w (LrF t m l1) wr∧gZ wr B q∧Blk wr w.heap.size #[.string q.E.k,.string q.E.v,.int .i64 q.E.s,.string q.E.r,.int .i64 q.E.m,.slice q.A q.E.fs.length q.c,.slice q.X q.E.body.length q.d,.int .i64 q.E.asked,.int .i64 q.E.got] 41∧aF6 l0 l1∧w1.heap.size≤wr.heap.size) (fun a _=>l0.length - (match a with | .slice _ n _=>n | _=>0))
 case atStart=>exact⟨l0,none,0,0,[],rfl,by omega,Row.none_ _ _ _ _,H1.out,HW1.out,HQ1.out,HK1.out,fun _=>.inr rfl,zA _⟩
 case round =>
  obtain⟨l1,A,n,c,gs,rfl,hnl,hrow,hl1,hwt,hown,hblk,hles,hwz⟩:=hrel
  have HROW:=aH hrow
  have HL:=aH hl1
  have HWT:=aH hwt
  have HOW:=aH hown
  have HBK:=aH hblk
  have HLE:=aH hles
  have HWZ:=aH hwz
  clear hrow hl1 hwt hown hblk hles hwz
  obtain⟨wo,rfl⟩:∃ wo:World,wo=wr:=⟨_,rfl⟩
  obtain⟨y0,y1,y2⟩:=HL.out.tabc
  obtain⟨U,hU⟩:∃ U,Lr.used l1=U:=⟨_,rfl⟩
  obtain⟨RZ,hRZ⟩:∃ RZ:Nat,RZ+z=room:=⟨room - z,by omega⟩
  have HU:=aH hU
  have hur:=HL.out.fits.1
  rw[hU]at y1 hur
  clear hU
  have hS0:Below wo.heap.size wo wo.drew:=(zB _ _).drew
  go_upto_region 5 with fail
  refine wp_region_noPanic ?_
  refine HT.begin (n:=10) (S:=(fun u=>Below wo.heap.size wo u)) (by kernel_rfl) hS0 ?_
  generalize wo.drew=wd at *
  refine HT.take 0 (.pointer (some ⟨t,0,none⟩)) rfl (by kernel_rfl) (fun _ _ _ h=>h) (Or.inl ⟨by rfl,?_⟩) ?_
  ·intro u hu
   go_simp
  refine HT.take 1 (.pointer (some ⟨t,0,none⟩)) rfl (by kernel_rfl) (fun _ _ _ h=>h) (Or.inl ⟨by rfl,?_⟩) ?_
  ·intro u hu
   go_simp
  refine HT.take 2 (.pointer (some ⟨t,1,none⟩)) rfl (by kernel_rfl) (fun _ _ _ h=>h) (Or.inl ⟨by rfl,?_⟩) (?_:HT _ _ _ _ _ _ _ ⟨#[_,_,_,_,_,_,_,_,_,_,_,_,_,_,_,_,_,_,_,_,_,_,_,_,_,_,.pointer (some ⟨t,0,none⟩),.pointer (some ⟨t,0,none⟩),.pointer (some ⟨t,1,none⟩),_,_,_,_,_,_,_,_,_,_,_,_,_,_,_,_,_,_,_,_,_,_,_,_,_,_,_,_,_,_,_,_,_,_,_,_,_,_,_,_,_,_,_,_,_,_],[]⟩ _)
  ·intro u hu
   go_simp
  refine HT.take 3 (.int .i64 U) rfl (by kernel_rfl) (fun _ _ _ h=>h) (Or.inl ⟨by rfl,?_⟩) ?_
  ·intro u hu
   obtain⟨y0,y1,y2⟩:=(HL.out.below hu).tabc
   rw[HU.out]at y1
   go_simp
  refine HT.take 4 (.pointer (some ⟨t,0,none⟩)) rfl (by kernel_rfl) (fun _ _ _ h=>h) (Or.inl ⟨by rfl,?_⟩) ?_
  ·intro u hu
   go_simp
  refine HT.take 5 (.pointer (some ⟨t,0,none⟩)) rfl (by kernel_rfl) (fun _ _ _ h=>h) (Or.inl ⟨by rfl,?_⟩) (?_:HT _ _ _ _ _ _ _ ⟨#[_,_,_,_,_,_,_,_,_,_,_,_,_,_,_,_,_,_,_,_,_,_,_,_,_,_,.pointer (some ⟨t,0,none⟩),.pointer (some ⟨t,0,none⟩),.pointer (some ⟨t,1,none⟩),.int .i64 U,.pointer (some ⟨t,0,none⟩),.pointer (some ⟨t,0,none⟩),_,_,_,_,_,_,_,_,_,_,_,_,_,_,_,_,_,_,_,_,_,_,_,_,_,_,_,_,_,_,_,_,_,_,_,_,_,_,_,_,_,_,_],[]⟩ _)
  ·intro u hu
   go_simp
  refine HT.take 6 (.pointer (some ⟨t,0,none⟩)) rfl (by kernel_rfl) (fun _ _ _ h=>h) (Or.inl ⟨by rfl,?_⟩) ?_
  ·intro u hu
   go_simp
  refine HT.take 7 (.int .i64 room) rfl (by kernel_rfl) (fun _ _ _ h=>h) (Or.inl ⟨by rfl,?_⟩) ?_
  ·intro u hu
   obtain⟨y0,y1,y2⟩:=(HL.out.below hu).tabc
   go_simp
  refine HT.take 8 (.int .i64 z) rfl (by kernel_rfl) (fun _ _ _ h=>h) (Or.inl ⟨by rfl,?_⟩) (?_:HT _ _ _ _ _ _ _ ⟨#[_,_,_,_,_,_,_,_,_,_,_,_,_,_,_,_,_,_,_,_,_,_,_,_,_,_,.pointer (some ⟨t,0,none⟩),.pointer (some ⟨t,0,none⟩),.pointer (some ⟨t,1,none⟩),.int .i64 U,.pointer (some ⟨t,0,none⟩),.pointer (some ⟨t,0,none⟩),.pointer (some ⟨t,0,none⟩),.int .i64 room,.int .i64 z,_,_,_,_,_,_,_,_,_,_,_,_,_,_,_,_,_,_,_,_,_,_,_,_,_,_,_,_,_,_,_,_,_,_,_,_,_,_,_,_],[]⟩ _)
  ·intro u hu
   go_simp
  refine HT.take 9 (.int .i64 RZ) rfl (by kernel_rfl) (fun _ _ _ h=>h) (Or.inl ⟨by rfl,?_⟩) (?_:HT _ _ _ _ _ _ _ ⟨#[_,_,_,_,_,_,_,_,_,_,_,_,_,_,_,_,_,_,_,_,_,_,_,_,_,_,.pointer (some ⟨t,0,none⟩),.pointer (some ⟨t,0,none⟩),.pointer (some ⟨t,1,none⟩),.int .i64 U,.pointer (some ⟨t,0,none⟩),.pointer (some ⟨t,0,none⟩),.pointer (some ⟨t,0,none⟩),.int .i64 room,.int .i64 z,.int .i64 RZ,_,_,_,_,_,_,_,_,_,_,_,_,_,_,_,_,_,_,_,_,_,_,_,_,_,_,_,_,_,_,_,_,_,_,_,_,_,_,_],[]⟩ _)
  ·intro u hu
   have hvz:(room:Int) - (z:Int)=(RZ:Int):=by omega
   go_simp
   exact aO1 (by omega) (by omega)
  refine HT.tail _ rfl rfl (by kernel_rfl) (fun hS=>?_)
  have HLD:=aH (HL.out.below hS)
  have HBD:=aH (aA HWZ.out (zB _ _) hS)
  have HOD:=aH (HOW.out.below hS)
  have HKD:=aH (HBK.out.below hS)
  have HWD:=aH (kM HWT.out HBD.out HZW.out)
  have HRD:=aH (HROW.out.below hS)
  have HZD:Hid (w1.heap.size≤wd.heap.size):=aH (bD HWZ.out HBD.out.size)
  clear y0 y1 y2 hS hS0 HL HOW HBK HWT HROW
  by_cases hgt:RZ < U
  ·have hgi:(U:Int) > (RZ:Int):=by omega
   obtain⟨j,hj⟩:∃ j,l1.length=j+1:=by
    cases l1 with
    | nil=>exact absurd HU.out (by show ¬ 0=U;omega)
    | cons y r=>exact⟨_,rfl⟩
   have hjl:j < l1.length:=by omega
   have hxm:=List.getElem_mem hjl
   have m2:=(HLD.out.ring.link l1.length (zA _)).2
   rw[Lr.aEK,(congrArg (adr t l1) hj).trans (Lr.fP hjl)]at m2
   have y14:wd.cell? ⟨t,14,none⟩=some (.pointer (some ⟨(l1[j]'hjl).k,0,none⟩)):=m2
   have z0:=(HLD.out.node _ hxm).1
   have HRM:=aH (fun u (hu:fU B t m room l1 u)=>qE B t m room j l1 u hu hjl)
   have HPE:=aH (fun x=>Lr.kQ HLD.out.one hjl x)
   have HLE2:Hid (aF6 l0 (l1.eraseIdx j)):=aH (fun x=>by
    rw[HPE.out x]
    by_cases hx:x=(l1[j]'hjl).id
    ·rw[if_pos hx];exact .inl rfl
    ·rw[if_neg hx];exact HLE.out x)
   have HLN:Hid ((l1.eraseIdx j).length=j):=aH (by rw[List.length_eraseIdx_of_lt hjl];omega)
   have HLT:Hid (∀ k,LrF t m (l1.eraseIdx j) k→LrF t m l1 k):=aH (fun k hk=>LrF.erase hk)
   clear HPE HLE m2
   obtain⟨kk,hkk⟩:∃ kk,(l1[j]'hjl).k=kk:=⟨_,rfl⟩
   obtain⟨id2,hid2⟩:∃ id2,(l1[j]'hjl).id=id2:=⟨_,rfl⟩
   rw[hkk]at y14 z0 HRM
   rw[hid2]at z0
   generalize l1.eraseIdx j=l2 at *
   have HNEW:=aH (aMJ wd id2)
   have HL60:Hid (n+1≤4398046511104):=aH (by omega)
   have hba:Below wd.heap.size wd (wd.alloc (.cells #[.string id2] 9)):=(zB _ _).alloc (zA _) _
   have HRA:=aH (HRD.out.below hba)
   have HLA:=aH (HLD.out.below hba)
   have HOA:=aH (HOD.out.below hba)
   have HKA:=aH (HKD.out.below hba)
   have HBA:=aH (aA HZD.out HBD.out hba)
   have HWA:=aH (kM HWD.out (hba.mono HZD.out) HZW.out)
   have HZA:Hid (w1.heap.size≤(wd.alloc (.cells #[.string id2] 9)).heap.size):=aH (bD HWZ.out HBA.out.size)
   clear hkk hid2 hba hxm HLD HOD HKD HRD HWD HBD
   go_wp2
   refine NoPanic.normal ?_
   go_wp2_with (at_builtin;refine aLK _ rfl _ _ rfl w1.heap.size A n c gs rfl HRA.out _ 1 1 [id2] rfl HNEW.out HL60.out HZA.out ?_;intro A8 c8 w9 hr9 ha9;clear y14 z0)
   have hb9:=ha9.below HRA.out HZA.out
   have hl9:=HLA.out.app HRA.out ha9 (by decide) (by decide) (by decide) (by decide)
   have hw9:aO (fun k=>ownB A c=some k) _ (fun k=>ownB A c=some k) w9:=aO.grown ha9.grown (fun k e=>e) (fun _ h=>.inl h)
   have ho9:gZ w9 B q:=⟨hw9.row HOA.out.1 (fun k hk e=>(HOA.out.1.tag hk).ne (HRA.out.tag e) (by decide) rfl),hw9.row HOA.out.2 (fun k hk e=>(HOA.out.2.tag hk).ne (HRA.out.tag e) (by decide) rfl)⟩
   have hk9:=hw9.blk HKA.out (fun e=>HKA.out.tag.ne (HRA.out.tag e) (by decide) rfl)
   have HB9:=aH (HBA.out.trans hb9)
   have HR9:=aH hr9
   have HL9:=aH hl9
   have HO9:=aH ho9
   have HK9:=aH hk9
   have HW9:=aH (kM HWA.out hb9 HZW.out)
   clear hb9 hl9 hw9 ho9 hk9 hr9 ha9 HBA HRA HLA HOA HKA HWA HZA HNEW
   refine (HRM.out w9 HL9.out).mono ?_
   rintro e w2 ⟨rfl,h2,hw2⟩
   have HL2:=aH h2
   have HR2:=aH (hw2.row HR9.out (fun k hk=>HL9.out.off (HR9.out.tag hk) (by decide) (by decide)))
   have HO2:=aH (kS HO9.out hw2 (fun k hk=>HL9.out.tag hk))
   have HK2:=aH (hw2.blk HK9.out (HL9.out.off HK9.out.tag (by decide) (by decide)))
   have HW2:=aH (HW9.out.trans hw2)
   have HZ2:Hid (w1.heap.size≤w2.heap.size):=aH (bD HWZ.out (bD HB9.out.size hw2.size))
   clear h2 hw2
   go_wp2_with fail
   go_roundw
   case rel=>exact⟨l2,A8,n+1,c8,gs++[id2],rfl,by rw[HLN.out];omega,HR2.out,HL2.out,HW2.out,HO2.out,HK2.out,HLE2.out,HZ2.out⟩
   case measure=>simp;omega
  have hgi:¬ (U:Int) > (RZ:Int):=by omega
  go_wp2
  refine NoPanic.normal ?_
  have hka:=HKD.out
  obtain⟨x0,x1,x2,x3,x4,x5,x6,x7,x8⟩:=hka.cells9
  obtain⟨w3,hw3⟩:∃ w3,wd.alloc (.cells #[.string id,.string q.E.k,.string q.E.v,.int .i64 q.E.s,.string q.E.r,.int .i64 q.E.m,.slice q.A q.E.fs.length q.c,.slice q.X q.E.body.length q.d,.int .i64 q.E.asked,.int .i64 q.E.got,.int .i64 z,.pointer none,.pointer none] Lr.nT)=w3:=⟨_,rfl⟩
  have hb3:Below wd.heap.size wd w3:=by rw[← hw3];exact (zB _ _).alloc (zA _) _
  have hk3:=Blk.new wd #[.string id,.string q.E.k,.string q.E.v,.int .i64 q.E.s,.string q.E.r,.int .i64 q.E.m,.slice q.A q.E.fs.length q.c,.slice q.X q.E.body.length q.d,.int .i64 q.E.asked,.int .i64 q.E.got,.int .i64 z,.pointer none,.pointer none] Lr.nT
  rw[hw3]at hk3
  have hlt1:∀ y∈l1,y.k≠wd.heap.size:=fun y hy=>Nat.ne_of_lt (HLD.out.ring.nd y hy).lt
  have hgek:B≤wd.heap.size:=bD hB (bD HZW.out HZD.out)
  have hwk:w.heap.size≤wd.heap.size:=bD HZW.out HZD.out
  obtain⟨nk,hnk⟩:∃ nk,wd.heap.size=nk:=⟨_,rfl⟩
  obtain⟨tb,t1,t2,hbs⟩:=HLD.out.base
  obtain⟨X,hX⟩:∃ X:It,(⟨id,q,z,nk⟩:It)=X:=⟨_,rfl⟩
  have hXk:X.k=nk:=by rw[← hX]
  have hXi:X.id=id:=by rw[← hX]
  have hXz:X.z=z:=by rw[← hX]
  have hXp:X.p=q:=by rw[← hX]
  rw[hnk]at hk3 hlt1 hgek hwk
  have hx3:bP B t m room (Lr.used l1) tb (X::l1) w3:=(hbs.below hb3).cons (by
   rw[← hX]
   exact⟨hk3.cell 0 rfl,hk3.cell 1 rfl,hk3.cell 2 rfl,hk3.cell 3 rfl,hk3.cell 4 rfl,hk3.cell 5 rfl,hk3.cell 6 rfl,hk3.cell 7 rfl,hk3.cell 8 rfl,hk3.cell 9 rfl,hk3.cell 10 rfl⟩) ⟨_,by rw[hXk];exact hk3⟩ (by rw[hXp];exact HOD.out.below hb3)
  rw[HU.out]at hx3
  have hr3:=HLD.out.ring.below hb3
  have hwt3:aO (LrF t m l) w (LrF t m (X::l1)) w3:=(kM HWD.out hb3 (by rw[hnk];exact hwk)).wide (fun _ hk=>hk) (fun k hk=>by
   rcases hk with hk | hk | ⟨y,hy,hk⟩
   ·exact .inl (.inl hk)
   ·exact .inl (.inr (.inl hk))
   ·rcases List.mem_cons.1 hy with rfl | hy
    ·exact .inr (.inr (by rw[← hk,hXk];exact hwk))
    ·exact .inl (.inr (.inr ⟨y,hy,hk⟩)))
  have htl:tb.length≤1073741824:=bD (aQ4 t1 t2) HLD.out.len
  have HX3:=aH hx3
  have HR3:=aH hr3
  have HW3:=aH hwt3
  have HK3:=aH hk3
  have HT1:=aH t1
  have HT2:=aH t2
  obtain⟨y0,y1,y2⟩:=hx3.tabc
  have HNK2:=aH hnk
  clear hx3 hr3 hwt3 hk3 t1 t2 hbs hb3 hka y0 y1
  go_wp2_with (at_mapUpdate;refine wpList_mapUpdate_own _ rfl _ _ _ 120 rfl 9 119 (string_keyed dA) Lr.mapT_ul D.jA m tb.length (D.datum (fun n=>n) tb) rfl HX3.out.items (by simp only[maxLen];omega) (.string id) (.pointer (some ⟨nk,0,none⟩)) (D.key id) (by go_simp;try rw[HNK2.out]) rfl (jU id (by simp only[maxLen];omega)) (.lit (.int .i64 nk)) [] rfl ?_;intro w4 hown4 hgrow4;clear x0 x1 x2 x3 x4 x5 x6 x7 x8 y2)
  rw[show (D.datum (fun n=>n) tb).put (D.key id) (.lit (.int .i64 nk))=D.datum (fun n=>n) (D.put tb id nk) from D.nN (fun n=>n) tb id nk]at hown4
  obtain⟨q1,q2,q3,q4⟩:=HX3.out.turn (fF hown4) hgrow4
  have hr4:=HR3.out.same q3 (fun y hy=>q4 y (List.mem_cons_of_mem _ hy))
  have hq4:=q4 X (by simp)
  rw[hXk]at hq4
  have c11:w4.cell? ⟨nk,11,none⟩=some (.pointer none):=(World.cell?_of_block hq4).trans (HK3.out.cell 11 rfl)
  have c12:w4.cell? ⟨nk,12,none⟩=some (.pointer none):=(World.cell?_of_block hq4).trans (HK3.out.cell 12 rfl)
  obtain⟨b,o,fb,gb,ltb,kb⟩:=hr4.form 1
  obtain⟨m1,m2⟩:=hr4.link 0 (zF _)
  rw[show (0:Nat)+1=1 from rfl,fb]at m1 m2
  have hyf:=(q1.node X (by simp)).2
  rw[hXk]at hyf
  have hfr:=aB8 t nk b o w4 m1 hr4.tb.lt hyf.lt ltb ⟨_,c11⟩ ⟨_,c12⟩ ⟨_,m2⟩ (fun i=>hyf.free i) (fun i=>hr4.tb.free i) (fun i=>hr4.freeAt kb i)
  obtain⟨q5,q6,q7⟩:=q1.front (x:=X) hr4 (fun y hy=>List.mem_cons_of_mem _ hy) (by simp) (fun y hy=>by rw[hXk];exact hlt1 y hy) fb kb (by rw[hXk];exact c11) (by rw[hXk];exact c12)
  rw[hXk]at q5 q6 q7
  have HFR:=aH hfr
  have HQ5:=aH q5
  have HR5:=aH q6
  have HW5:=aH ((HW3.out.trans q2).trans q7)
  generalize (((w4.setCell ⟨nk,11,none⟩ (.pointer (some ⟨t,3,none⟩))).setCell ⟨nk,12,none⟩ (.pointer (some ⟨b,o,none⟩))).setCell ⟨t,15,none⟩ (.pointer (some ⟨nk,0,none⟩))).setCell ⟨b,o+11,none⟩ (.pointer (some ⟨nk,0,none⟩))=W5 at *
  clear hown4 hgrow4 q1 q2 q3 q4 hr4 hq4 c11 c12 fb gb ltb kb m1 m2 hyf hfr q5 q6 q7 HX3 HR3 HW3 HK3
  refine HFR.out.mono ?_
  rintro e w5 ⟨rfl,ha5⟩
  have HQ6:=aH (HQ5.out.below ha5)
  have HR6:=aH (HR5.out.below ha5)
  have HW6:=aH (HW5.out.trans (aO.below ha5 _))
  clear ha5 HFR HQ5 HR5 HW5
  obtain⟨V,hV⟩:∃ V:Nat,U+z=V:=⟨_,rfl⟩
  have hwv:IntKind.i64.wrap ((U:Int)+(z:Int))=(V:Int):=by
   have hvz:(U:Int)+(z:Int)=(V:Int):=by omega
   rw[hvz]
   exact aO1 (by omega) (by omega)
  obtain⟨y0,y1,y2⟩:=HQ6.out.tabc
  have y3:=HQ6.out.fr.free 1
  go_wp2
  go_ret2
  obtain⟨r1,r2,r3⟩:=HQ6.out.count HR6.out V
  have hp1:Lr.peek l1 id=none:=by
   rcases HLE.out id with h1 | h1
   ·exact h1
   ·rw[h1,HP1.out,if_pos rfl]
  have hus:Lr.used (X::l1)=V:=by
   unfold Lr.used at HU ⊢
   rw[List.map_cons,List.sum_cons,HU.out,hXz]
   omega
  refine .inr ⟨by omega,A,n,c,nk,l1,rfl,?_,?_,fun x=>?_,hp1⟩
  ·rw[hX]
   refine bP.at_ (by rw[hus];exact r1) r2 (fun _ h=>h) (D.qA HT1.out _ _) (fun id2=>?_) ?_ ⟨by rw[hus];omega,hroom⟩ (fun y hy=>?_) (fun y hy=>?_) ⟨HLD.out.ge.1,HLD.out.ge.2.1,fun y hy=>?_⟩
   ·rw[D.dN]
    unfold Lr.peek
    rw[List.find?_cons,hXi]
    by_cases he:id2=id
    ·rw[if_pos he,he,decide_eq_true rfl]
     show some nk=some X.k
     rw[hXk]
    ·rw[if_neg he,decide_eq_false (fun e=>he e.symm)]
     exact HT2.out id2
   ·unfold Lr.ids
    rw[List.map_cons,hXi]
    refine List.nodup_cons.2 ⟨fun hm=>?_,HLD.out.one⟩
    obtain⟨y,hy,e⟩:=List.mem_map.1 hm
    unfold Lr.peek at hp1
    rw[List.find?_eq_none]at hp1
    exact hp1 y hy (by simp [e])
   ·rcases List.mem_cons.1 hy with rfl | hy
    ·rw[hXz];exact hz
    ·exact HLD.out.pos y hy
   ·rcases List.mem_cons.1 hy with rfl | hy
    ·rw[hXi,hXp];exact⟨hs,hqs⟩
    ·exact HLD.out.small y hy
   ·rcases List.mem_cons.1 hy with rfl | hy
    ·rw[hXk];exact hgek
    ·exact HLD.out.ge.2.2 y hy
  ·rw[hX]
   exact HW6.out.trans r3
  ·rcases HLE.out x with h1 | h1
   ·exact .inl h1
   ·rw[h1,HP1.out]
    by_cases he:x=id
    ·rw[if_pos he];exact .inl rfl
    ·rw[if_neg he];exact .inr rfl
section
variable {F F':Nat→Prop} {w w':World} {B k:Nat} {X:SM} {s:S.Sto} {T:TypeId}
theorem rJ.went {fa:Nat→Nat} {c:D.Chg} {v:Value} (h:rJ w B fa c v) (hw:aO F w F' w') (hF:∀ k,F k→∀ t,Tag w k t→t≠98∧t≠9):rJ w' B fa c v:=by
 have hb:∀ {b:Nat} {cs:Array Value} {t:TypeId},(t=98∨t=9)→Blk w b cs t→Blk w' b cs t:=fun ht hb=>hw.blk hb (fun e=>by
  have:=hF _ e _ hb.tag
  rcases ht with rfl | rfl
  ·exact this.1 rfl
  ·exact this.2 rfl)
 cases c with
 | put nm no =>
  obtain⟨bf,bn,h1,h2,h3,h4,h5⟩:=h
  exact⟨bf,bn,h1,h2,h3,hb (.inl rfl) h4,hb (.inr rfl) h5⟩
 | del nm =>
  obtain⟨bn,h1,h2,h3⟩:=h
  exact⟨bn,h1,h2,hb (.inr rfl) h3⟩
 | ren a b no =>
  obtain⟨ba,bf,bb,h1,h2,h3,h4,h5,h6,h7⟩:=h
  exact⟨ba,bf,bb,h1,h2,h3,h4,hb (.inr rfl) h5,hb (.inl rfl) h6,hb (.inr rfl) h7⟩
def Mine (w:World) (k:Nat):Prop:=Tag w k Lr.tT∨Tag w k Lr.nT∨aOY w k
theorem Mine.tag (h:Mine w k) (ht:Tag w k T):T=Lr.tT∨T=Lr.nT:=by
 rcases h with h | h | h
 ·by_cases e:T=Lr.tT
  ·exact .inl e
  ·exact absurd rfl (ht.ne h e)
 ·by_cases e:T=Lr.nT
  ·exact .inr e
  ·exact absurd rfl (ht.ne h e)
 ·exact absurd rfl (ht.map h)
def aSF (w:World) (k:Nat):Prop:=∀ T,Tag w k T→T≠98∧T≠9∧T≠3
theorem Mine.offs (h:Mine w k):aSF w k:=fun T ht=>by
 rcases h.tag ht with rfl | rfl
 ·exact⟨by decide,by decide,by decide⟩
 ·exact⟨by decide,by decide,by decide⟩
theorem aI7 {U:TypeId} (h:Tag w k U) (h1:U≠98∧U≠9∧U≠3):aSF w k:=fun _ ht =>
 ⟨fun e=>ht.ne h (fun e2=>h1.1 (e2.symm.trans e)) rfl,fun e=>ht.ne h (fun e2=>h1.2.1 (e2.symm.trans e)) rfl,fun e=>ht.ne h (fun e2=>h1.2.2 (e2.symm.trans e)) rfl⟩
theorem eU.away (h:eU B X s w) (hw:aO F w F' w') (hF:∀ k,F k→aSF w k∧¬ X.foot s k):eU B X s w':=by
 have hn:∀ {k},X.foot s k→¬ F k:=fun hk hf=>(hF _ hf).2 hk
 obtain⟨⟨⟨a1,a2,a3,a4,a5,a6,a7,a8,a9,a10⟩,b2,b3⟩,c2,c3,c4,c5,c6⟩:=h
 refine⟨⟨⟨hw.blk a1 (hn (.inl (.inl rfl))),hw.map a2 (hn (.inl (.inr (.inl rfl)))),hw.map a3 (hn (.inl (.inr (.inr (.inl rfl))))),a4,hw.row a5 (fun k hk=>hn (.inl (.inr (.inr (.inr (.inl hk)))))),
  a6.imp (fun c v hc=>hc.went hw (fun k hf t h1=>⟨((hF k hf).1 t h1).1,((hF k hf).1 t h1).2.1⟩)),hw.row a7 (fun k hk hf=>((hF k hf).1 _ (a7.tag hk)).2.2 rfl),
  fun no hno=>⟨hw.blk (a8 no hno).blk (hn (.inl (.inr (.inr (.inr (.inr ⟨no,hno,.inl rfl⟩)))))),hw.row (a8 no hno).row (fun k hk=>hn (.inl (.inr (.inr (.inr (.inr ⟨no,hno,.inr hk⟩)))))),(a8 no hno).ge⟩,a9,a10⟩,hw.blk b2 (hn (.inr (.inl rfl))),b3⟩,
  hw.blk c2 (hn (.inr (.inr (.inl rfl)))),hw.map c3 (hn (.inr (.inr (.inr (.inl rfl))))),c4,hw.row c5 (fun k hk=>hn (.inr (.inr (.inr (.inr hk))))),c6⟩
theorem eU.off (h:eU B X s w) (ht:Tag w k T) (h1:T≠95∧T≠200∧T≠100∧T≠5) (h2:T≠154∧T≠109∧T≠4):¬ X.foot s k:=by
 rintro (hf | rfl | rfl | rfl | hf)
 ·exact h.log.disk.off ht h1.1 h1.2.1 h1.2.2.1 h1.2.2.2 hf
 ·exact ht.ne h.log.blk.tag h2.1 rfl
 ·exact ht.ne h.blk.tag h2.2.1 rfl
 ·exact ht.map (aC h.tab) rfl
 ·exact ht.ne (h.used.tag hf) h2.2.2 rfl
end
structure CM where
 c:Nat
 t:Nat
 m:Nat
 hm:Nat
 X:SM
structure CSt where
 s:Option S.Sto
 l:List It
 hd:D.NM
def CM.foot (Z:CM) (a:CSt) (k:Nat):Prop:=LrF Z.t Z.m a.l k∨k=Z.hm∨∃ s,a.s=some s∧Z.X.foot s k
structure CAt (B room:Nat) (Z:CM) (a:CSt) (w:World):Prop where
 blk:Blk w Z.c #[.pointer (a.s.map fun _=>⟨Z.X.st,0,none⟩),.pointer (some ⟨Z.t,0,none⟩),.map (some Z.hm)] 76
 sto:∀ s,a.s=some s→eU B Z.X s w
 mem:fU B Z.t Z.m room a.l w
 hid:w.ownsMap Tryz.prog 9 qR Z.hm a.hd.length (D.aAH a.hd)
 up:D.Up a.hd
 nem:Z.hm≠Z.m
 ne:∀ s,a.s=some s→¬ Z.X.foot s Z.hm∧¬ Z.X.foot s Z.m
 sep:∀ s,a.s=some s→∀ x∈a.l,∀ k,ownB x.p.A x.p.c=some k∨ownB x.p.X x.p.d=some k→¬ Z.X.foot s k
 ge:B≤Z.c∧B≤Z.hm
section
variable {B room:Nat} {Z:CM} {a:CSt} {w w':World} {X':SM} {s s':S.Sto} {l':List It} {hd':D.NM} {k:Nat} {F F':Nat→Prop}
theorem CAt.cells (h:CAt B room Z a w):w.cell? ⟨Z.c,0,none⟩=some (.pointer (a.s.map fun _=>⟨Z.X.st,0,none⟩))∧w.cell? ⟨Z.c,1,none⟩=some (.pointer (some ⟨Z.t,0,none⟩))∧w.cell? ⟨Z.c,2,none⟩=some (.map (some Z.hm)) :=
 ⟨h.blk.cell 0 rfl,h.blk.cell 1 rfl,h.blk.cell 2 rfl⟩
theorem CAt.below (h:CAt B room Z a w) (hb:Below w.heap.size w w'):CAt B room Z a w' :=
 ⟨h.blk.below hb,fun s hs=>(h.sto s hs).below hb,h.mem.below hb,h.hid.kept (show w.grownBy w' none from⟨hb.os,hb.tape,hb.output,hb.size,fun k hk _=>hb.block k hk⟩) (by simp),h.up,h.nem,h.ne,h.sep,h.ge⟩
theorem CAt.rows (h:CAt B room Z a w) {x:It} (hx:x∈a.l) (hk:ownB x.p.A x.p.c=some k∨ownB x.p.X x.p.d=some k):k < w.heap.size:=by
 rcases hk with hk | hk
 ·exact ((h.mem.own x hx).1.lt k hk).2
 ·exact ((h.mem.own x hx).2.lt k hk).2
theorem CAt.lruOff (h:CAt B room Z a w) (hs:a.s=some s) (hk:LrF Z.t Z.m a.l k):Mine w k∧¬ Z.X.foot s k:=by
 refine⟨h.mem.tag hk,?_⟩
 rcases hk with rfl | rfl | ⟨x,hx,rfl⟩
 ·exact (h.sto s hs).off h.mem.ring.tb.tag (by decide) (by decide)
 ·exact (h.ne s hs).2
 ·exact (h.sto s hs).off (h.mem.ring.nd x hx).tag (by decide) (by decide)
theorem CAt.hmLr (h:CAt B room Z a w):¬ LrF Z.t Z.m a.l Z.hm:=by
 rintro (e | e | ⟨x,hx,e⟩)
 ·exact h.mem.ring.tb.tag.map (aC h.hid) e.symm
 ·exact h.nem e
 ·exact (h.mem.ring.nd x hx).tag.map (aC h.hid) e
theorem CAt.stored (h:CAt B room Z a w) (hs:a.s=some s) (h':eU B X' s' w') (hw:aO (Z.X.foot s) w (X'.foot s') w') (hst:X'.st=Z.X.st) :
  CAt B room { Z with X:=X' } { a with s:=some s' } w'∧aO (Z.foot a) w (CM.foot { Z with X:=X' } { a with s:=some s' }) w':=by
 have hS:=h.sto s hs
 have hnew:∀ {k},k < w.heap.size→¬ Z.X.foot s k→¬ X'.foot s' k:=fun hk hn hf=>by
  rcases hw.foot _ hf with h1 | h1
  ·exact hn h1
  ·omega
 refine⟨⟨?_,fun x hx=>by cases hx;exact h',h.mem.went hw (fun k hk=>(h.lruOff hs hk).2) (fun x hx k hk=>h.sep s hs x hx k hk),hw.map h.hid (h.ne s hs).1,h.up,h.nem,fun x hx=>?_,fun x hx y hy k hk=>?_,h.ge⟩,hw.wide (fun k hk=>.inr (.inr ⟨s,hs,hk⟩)) (fun k hk=>?_)⟩
 ·have:=hw.blk h.blk (hS.off h.blk.tag (by decide) (by decide))
  rw[hs]at this
  show Blk w' Z.c #[.pointer (some ⟨X'.st,0,none⟩),_,_] _
  rw[hst]
  exact this
 ·cases hx
  exact⟨hnew h.hid.lt (h.ne s hs).1,hnew (h.mem.lt (.inr (.inl rfl))) (h.ne s hs).2⟩
 ·cases hx
  exact hnew (h.rows hy hk) (h.sep s hs y hy k hk)
 ·rcases hk with hk | hk | ⟨x,hx,hk⟩
  ·exact .inr (.inl (.inl hk))
  ·exact .inr (.inl (.inr (.inl hk)))
  ·cases hx
   exact .inl hk
theorem CAt.turned (h:CAt B room Z a w) (h':fU B Z.t Z.m room l' w') (hw:aO (LrF Z.t Z.m a.l) w (LrF Z.t Z.m l') w') (hnew:∀ x∈l',x∈a.l∨∀ s,a.s=some s→∀ k,ownB x.p.A x.p.c=some k∨ownB x.p.X x.p.d=some k→¬ Z.X.foot s k) :
  CAt B room Z { a with l:=l' } w'∧aO (Z.foot a) w (Z.foot { a with l:=l' }) w':=by
 refine⟨⟨hw.blk h.blk (h.mem.off h.blk.tag (by decide) (by decide)),fun s hs=>(h.sto s hs).away hw (fun k hk=>⟨(h.lruOff hs hk).1.offs,(h.lruOff hs hk).2⟩),h',hw.map h.hid h.hmLr,h.up,h.nem,h.ne,fun s hs x hx k hk=>?_,h.ge⟩,hw.wide (fun k hk=>.inl hk) (fun k hk=>?_)⟩
 ·rcases hnew x hx with h1 | h1
  ·exact h.sep s hs x h1 k hk
  ·exact h1 s hs k hk
 ·rcases hk with hk | hk | hk
  ·exact .inl hk
  ·exact .inr (.inl (.inr (.inl hk)))
  ·exact .inr (.inl (.inr (.inr hk)))
theorem CAt.hides (h:CAt B room Z a w) (h':w'.ownsMap Tryz.prog 9 qR Z.hm hd'.length (D.aAH hd')) (hu:D.Up hd') (hg:w.grownBy w' (some Z.hm)) :
  CAt B room Z { a with hd:=hd' } w'∧aO (Z.foot a) w (Z.foot { a with hd:=hd' }) w':=by
 have hw:aO (fun k=>k=Z.hm) w (fun k=>k=Z.hm) w':=aO.grown hg (fun k e=>(by simpa using e.symm)) (fun k hk=>.inl hk)
 have hM:=aC h.hid
 refine⟨⟨hw.blk h.blk (h.blk.tag.map hM),fun s hs=>(h.sto s hs).away hw (fun k hk=>by subst hk;exact⟨Mine.offs (.inr (.inr hM)),(h.ne s hs).1⟩),h.mem.went hw (fun k hk e=>h.hmLr (e ▸ hk)) (fun x hx k hk e=>?_),h',hu,h.nem,h.ne,h.sep,h.ge⟩,hw.wide (fun k hk=>.inr (.inl hk)) (fun k hk=>.inr (.inl hk))⟩
 rcases hk with hk | hk
 ·exact ((h.mem.own x hx).1.tag hk).map hM e
 ·exact ((h.mem.own x hx).2.tag hk).map hM e
theorem CAt.beside (h:CAt B room Z a w) (hw:aO F w F' w') (hF:∀ k,F k→aSF w k∧¬ Z.foot a k∧k≠Z.c∧∀ x∈a.l,∀ j,ownB x.p.A x.p.c=some j∨ownB x.p.X x.p.d=some j→j≠k):CAt B room Z a w' :=
 ⟨hw.blk h.blk (fun hf=>(hF _ hf).2.2.1 rfl),fun s hs=>(h.sto s hs).away hw (fun k hk=>⟨(hF k hk).1,fun hf=>(hF k hk).2.1 (.inr (.inr ⟨s,hs,hf⟩))⟩),h.mem.went hw (fun k hk hf=>(hF k hf).2.1 (.inl hk)) (fun x hx k hk hf=>(hF k hf).2.2.2 x hx k hk rfl),
  hw.map h.hid (fun hf=>(hF _ hf).2.1 (.inr (.inl rfl))),h.up,h.nem,h.ne,h.sep,h.ge⟩
end
end Go.Proofs.YthjeglnkgdpijaaGreatDoor
