/- The walk of cache.copied: an entry as new memory. A cache in memory: where it lies, what its steps leave. Plain lemmas. Arguments opened: a script of the Cache laws. The walk of vary.Names. What vary.Key writes with: a strings.Builder of the call's own, strings.Join of a list. Conditions: as each theorem states them. -/
import Derived.Test.YthjeglnkgdpijaaGreatDoorZ00
set_option maxHeartbeats 2000000
set_option maxRecDepth 100000
namespace Go.Proofs.YthjeglnkgdpijaaGreatDoor
open Go Go.RowKit
theorem Row.nilC {w:World} {base:Nat} {e:TypeId} {size:Nat} {A:Option Addr} {n c:Nat} {xs:List Value} (h:Row w base e size A n c xs) (hA:A=none):n=0∧c=0:=by
 subst hA
 rcases h with ⟨_,h | ⟨g,cap,cur,hv,_⟩⟩ | ⟨h1,h2,_⟩
 ·obtain⟨hv,h0⟩:=h
  cases hv
  exact⟨rfl,rfl⟩
 ·cases hv
 ·exact⟨h1,h2⟩
theorem aGY (A:Option Addr) (n c:Nat) (fs:List FD) (w:World) (hn:n≤1099511627776) (hx:Rd w A n 2 (aI fs)) (hnil:A=none→n=0∧c=0) :
  Calls Tryz.prog 77 #[.slice A n c] w (fun e w'=>∃ A' c',e=.returned (.slice A' n c')∧Row w' w.heap.size 60 2 A' n c' (aI fs)∧Below w.heap.size w w'):=by
 cases A with
 | none =>
  obtain⟨rfl,rfl⟩:=hnil rfl
  have hfs:aI fs=[]:=List.eq_nil_of_length_eq_zero (by simpa using hx.1)
  have HF:=aH hfs
  clear hfs
  have he:=fun w=>Lib.run_eql_slice_nil (P:=Tryz.prog) w 27 _ none 0 0 (h:=Tryz.underlying27)
  go_enter Tryz.func77,Tryz.ntmps77
  go_wp2
  go_ret
  exact⟨none,0,rfl,by rw[HF.out];exact Row.none_ _ _ _ _,zB _ _⟩
 | some ad =>
  have he:=fun w=>Lib.run_eql_slice_nil (P:=Tryz.prog) w 27 _ (some ad) n c (h:=Tryz.underlying27)
  clear hnil
  go_enter Tryz.func77,Tryz.ntmps77
  go_wp2_with (at_builtin;refine appF _ rfl (.tmp 5) (.tmp 6) rfl w.heap.size _ 0 0 [] rfl (Row.empty _ _ _ _ _) (some ad) n c fs rfl (hx.alloc _) (by omega) (by simp) ?_;intro A1 c1 w1 hr1 ha1;simp only[Nat.zero_add,List.nil_append]at hr1)
  go_ret
  exact⟨A1,c1,by simp,hr1,((zB _ _).alloc (zA _) _).trans (ha1.below (Row.empty _ _ 60 2 _) (by simp))⟩
theorem aG0 (A:Option Addr) (n c:Nat) (bs:List UInt8) (w:World) (hn:n≤1099511627776) (hx:Rd w A n 1 (aB bs)) (hnil:A=none→n=0∧c=0) :
  Calls Tryz.prog 49 #[.slice A n c] w (fun e w'=>∃ A' c',e=.returned (.slice A' n c')∧Row w' w.heap.size 5 1 A' n c' (aB bs)∧Below w.heap.size w w'):=by
 cases A with
 | none =>
  obtain⟨rfl,rfl⟩:=hnil rfl
  have hfs:aB bs=[]:=List.eq_nil_of_length_eq_zero (by simpa using hx.1)
  have HF:=aH hfs
  clear hfs
  have he:=fun w=>Lib.run_eql_slice_nil (P:=Tryz.prog) w 39 _ none 0 0 (h:=Tryz.underlying39)
  go_enter Tryz.func49,Tryz.ntmps49
  go_wp2
  go_ret
  exact⟨none,0,rfl,by rw[HF.out];exact Row.none_ _ _ _ _,zB _ _⟩
 | some ad =>
  have he:=fun w=>Lib.run_eql_slice_nil (P:=Tryz.prog) w 39 _ (some ad) n c (h:=Tryz.underlying39)
  clear hnil
  go_enter Tryz.func49,Tryz.ntmps49
  go_wp2_with (at_builtin;refine aPP _ rfl (.tmp 5) (.tmp 6) rfl w.heap.size _ 0 0 [] rfl (Row.empty _ _ _ _ _) (some ad) n c bs rfl (hx.alloc _) (by omega) (by simp) ?_;intro A1 c1 w1 hr1 ha1;simp only[Nat.zero_add,List.nil_append]at hr1)
  go_ret
  exact⟨A1,c1,by simp,hr1,((zB _ _).alloc (zA _) _).trans (ha1.below (Row.empty _ _ 5 1 _) (by simp))⟩
def RetE (w:World) (E:O.Ent) (e:Ending) (w':World):Prop:=∃ p:EP,e=.returned p.v∧p.E=E∧gB w' w.heap.size p∧Below w.heap.size w w'
theorem xH (p:EP) (b:Nat) (w:World) (h:gB w b p) (h1:p.E.fs.length≤1099511627776) (h2:p.E.body.length≤1099511627776) :
  Calls Tryz.prog 38 #[p.v] w (RetE w p.E):=by
 obtain⟨w0,hw0⟩:∃ w0,(w.alloc (.cells #[.string p.E.k,.string p.E.v,.int .i64 p.E.s,.string p.E.r,.int .i64 p.E.m,.slice p.A p.E.fs.length p.c,.slice p.X p.E.body.length p.d,.int .i64 p.E.asked,.int .i64 p.E.got] 41)).alloc (.cells #[.string ⟨#[]⟩,.string ⟨#[]⟩,.int .i64 0,.string ⟨#[]⟩,.int .i64 0,.slice none 0 0,.slice none 0 0,.int .i64 0,.int .i64 0] 41)=w0:=⟨_,rfl⟩
 have hb0:Below w.heap.size w w0:=by rw[← hw0];exact ((zB _ _).alloc (zA _) _).alloc (by simp) _
 have hk1:Blk w0 w.heap.size #[.string p.E.k,.string p.E.v,.int .i64 p.E.s,.string p.E.r,.int .i64 p.E.m,.slice p.A p.E.fs.length p.c,.slice p.X p.E.body.length p.d,.int .i64 p.E.asked,.int .i64 p.E.got] 41:=by rw[← hw0];exact (Blk.new w _ _).alloc _
 have hk2:Blk w0 (w.heap.size+1) #[.string ⟨#[]⟩,.string ⟨#[]⟩,.int .i64 0,.string ⟨#[]⟩,.int .i64 0,.slice none 0 0,.slice none 0 0,.int .i64 0,.int .i64 0] 41:=by
  rw[← hw0]
  have:=Blk.new (w.alloc (.cells #[.string p.E.k,.string p.E.v,.int .i64 p.E.s,.string p.E.r,.int .i64 p.E.m,.slice p.A p.E.fs.length p.c,.slice p.X p.E.body.length p.d,.int .i64 p.E.asked,.int .i64 p.E.got] 41)) #[.string ⟨#[]⟩,.string ⟨#[]⟩,.int .i64 0,.string ⟨#[]⟩,.int .i64 0,.slice none 0 0,.slice none 0 0,.int .i64 0,.int .i64 0] 41
  rwa [bJ]at this
 have HB0:=aH hb0
 have HK1:=aH hk1
 have HK2:=aH hk2
 have HO:=aH (h.below hb0)
 have HCF:=aH (aGY p.A p.E.fs.length p.c p.E.fs w0 h1 (HO.out.1.rd) h.1.nilC)
 have HCB:=aH (fun u (hu:Rd u p.X p.E.body.length 1 (aB p.E.body))=>aG0 p.X p.E.body.length p.d p.E.body u h2 hu h.2.nilC)
 have HOL:=aH (fun k (hk:ownB p.X p.d=some k)=>(h.2.lt k hk).2)
 have HSZ:Hid (w.heap.size+2=w0.heap.size):=aH (by rw[← hw0];simp)
 obtain⟨x0,x1,x2,x3,x4,x5,x6,x7,x8⟩:=hk1.cells9
 clear hb0 hk1 hk2 h
 unfold EP.v kK
 go_enter Tryz.func38,Tryz.ntmps38
 go_wp2_with fail
 clear x0 x1 x2 x3 x4 x5 x6 x7 x8 hw0
 refine HCF.out.mono ?_
 rintro e w1 ⟨A1,c1,rfl,hr1,hb1⟩
 have hk1:Blk (w1.setCell ⟨w.heap.size,5,none⟩ (.slice A1 p.E.fs.length c1)) w.heap.size #[.string p.E.k,.string p.E.v,.int .i64 p.E.s,.string p.E.r,.int .i64 p.E.m,.slice A1 p.E.fs.length c1,.slice p.X p.E.body.length p.d,.int .i64 p.E.asked,.int .i64 p.E.got] 41:=(HK1.out.below hb1).set 5 _
 have hk2:Blk (w1.setCell ⟨w.heap.size,5,none⟩ (.slice A1 p.E.fs.length c1)) (w.heap.size+1) #[.string ⟨#[]⟩,.string ⟨#[]⟩,.int .i64 0,.string ⟨#[]⟩,.int .i64 0,.slice none 0 0,.slice none 0 0,.int .i64 0,.int .i64 0] 41:=(HK2.out.below hb1).far 5 _ (by omega)
 have f5:=(HK1.out.below hb1).free 5
 have y5:=(HK1.out.below hb1).cell 5 rfl
 have hg:=aT w1 w.heap.size 5 (.slice A1 p.E.fs.length c1)
 have hw:=aO.grown (F:=fun k=>k=w.heap.size) (F':=fun k=>k=w.heap.size) hg (fun k e=>by cases e;rfl) (fun _ h=>.inl h)
 have HBA:=aH ((aA HB0.out.size HB0.out hb1).grown hg (bD HB0.out.size hb1.size) (fun k e=>by cases e;exact zA _))
 have HRA:=aH (hw.row hr1 (fun k hk e=>by have h3:=(hr1.lt k hk).1;have h4:=HSZ.out;omega))
 have HRX:=aH (hw.row (HO.out.2.below hb1) (fun k hk e=>by have h3:=HOL.out k hk;omega)).rd
 have HZ1:Hid (w0.heap.size≤(w1.setCell ⟨w.heap.size,5,none⟩ (.slice A1 p.E.fs.length c1)).heap.size):=aH (by rw[World.size_setCell];exact hb1.size)
 obtain⟨u1,hu1⟩:∃ u1,w1.setCell ⟨w.heap.size,5,none⟩ (.slice A1 p.E.fs.length c1)=u1:=⟨_,rfl⟩
 rw[hu1]at hk1 hk2 HBA HRA HRX HZ1
 have HK1:=aH hk1
 have HK2:=aH hk2
 have y6:=hk1.cell 6 rfl
 have HCB:=aH (HCB.out u1 HRX.out)
 clear hb1 hr1 hk1 hk2 hg hw HB0 HO HCF
 go_wp2_with fail
 clear hu1 f5 y5 y6
 refine HCB.out.mono ?_
 rintro e w2 ⟨X2,d2,rfl,hr2,hb2⟩
 have hk1:Blk (w2.setCell ⟨w.heap.size,6,none⟩ (.slice X2 p.E.body.length d2)) w.heap.size #[.string p.E.k,.string p.E.v,.int .i64 p.E.s,.string p.E.r,.int .i64 p.E.m,.slice A1 p.E.fs.length c1,.slice X2 p.E.body.length d2,.int .i64 p.E.asked,.int .i64 p.E.got] 41:=(HK1.out.below hb2).set 6 _
 have hk2:Blk (w2.setCell ⟨w.heap.size,6,none⟩ (.slice X2 p.E.body.length d2)) (w.heap.size+1) #[.string ⟨#[]⟩,.string ⟨#[]⟩,.int .i64 0,.string ⟨#[]⟩,.int .i64 0,.slice none 0 0,.slice none 0 0,.int .i64 0,.int .i64 0] 41:=(HK2.out.below hb2).far 6 _ (by omega)
 have f6:=(HK1.out.below hb2).free 6
 have y6:=(HK1.out.below hb2).cell 6 rfl
 have hg:=aT w2 w.heap.size 6 (.slice X2 p.E.body.length d2)
 have hw:=aO.grown (F:=fun k=>k=w.heap.size) (F':=fun k=>k=w.heap.size) hg (fun k e=>by cases e;rfl) (fun _ h=>.inl h)
 have HBB:=aH ((aA HBA.out.size HBA.out hb2).grown hg (bD HBA.out.size hb2.size) (fun k e=>by cases e;exact zA _))
 have HRB:=aH (hw.row (HRA.out.below hb2) (fun k hk e=>by have h3:=(HRA.out.lt k hk).1;have h4:=HSZ.out;omega))
 have HRY:=aH (hw.row hr2 (fun k hk e=>by have h3:=(hr2.lt k hk).1;have h4:=HSZ.out;have h5:=HZ1.out;omega))
 obtain⟨u2,hu2⟩:∃ u2,w2.setCell ⟨w.heap.size,6,none⟩ (.slice X2 p.E.body.length d2)=u2:=⟨_,rfl⟩
 rw[hu2]at hk1 hk2 HBB HRB HRY
 obtain⟨x0,x1,x2,x3,x4,x5,x6,x7,x8⟩:=hk1.cells9
 obtain⟨z0,z1,z2,z3,z4,z5,z6,z7,z8⟩:=hk2.cells9
 obtain⟨g0,g1,g2,g3,g4,g5,g6,g7,g8⟩:=hk2.free9
 have HK2:=aH hk2
 clear hb2 hr2 hk1 hk2 hg hw HBA HRA HRX HCB
 go_wp2
 clear x0 x1 x2 x3 x4 x5 x6 x7 x8 z0 z1 z2 z3 z4 z5 z6 z7 z8 g0 g1 g2 g3 g4 g5 g6 g7 g8 f6 y6
 obtain⟨d0,d1,d2',d3,d4,d5,d6,d7,d8⟩:=(HK2.out.set9 (.string p.E.k) (.string p.E.v) (.int .i64 p.E.s) (.string p.E.r) (.int .i64 p.E.m) (.slice A1 p.E.fs.length c1) (.slice X2 p.E.body.length d2) (.int .i64 p.E.asked) (.int .i64 p.E.got)).cells9
 have hw:=dW (F:=fun k=>k=w.heap.size+1) (w:=u2) (b:=w.heap.size+1) rfl (.string p.E.k) (.string p.E.v) (.int .i64 p.E.s) (.string p.E.r) (.int .i64 p.E.m) (.slice A1 p.E.fs.length c1) (.slice X2 p.E.body.length d2) (.int .i64 p.E.asked) (.int .i64 p.E.got)
 have HRC:=aH (hw.row HRB.out (fun k hk e=>by have h3:=(HRB.out.lt k hk).1;have h4:=HSZ.out;omega))
 have HRZ:=aH (hw.row HRY.out (fun k hk e=>by have h3:=(HRY.out.lt k hk).1;have h4:=HSZ.out;have h5:=HZ1.out;omega))
 have hbz:Below w.heap.size w (nine u2 (w.heap.size+1) (.string p.E.k) (.string p.E.v) (.int .i64 p.E.s) (.string p.E.r) (.int .i64 p.E.m) (.slice A1 p.E.fs.length c1) (.slice X2 p.E.body.length d2) (.int .i64 p.E.asked) (.int .i64 p.E.got)):=⟨hw.os.trans HBB.out.os,hw.tape.trans HBB.out.tape,hw.output.trans HBB.out.output,bD HBB.out.size hw.size,fun k hk=>(hw.block k (Nat.lt_of_lt_of_le hk HBB.out.size) (by omega)).trans (HBB.out.block k hk)⟩
 have HBZ:=aH hbz
 clear hw hbz
 unfold nine at d0 d1 d2' d3 d4 d5 d6 d7 d8
 refine bK (v:=.agg #[.string p.E.k,.string p.E.v,.int .i64 p.E.s,.string p.E.r,.int .i64 p.E.m,.slice A1 p.E.fs.length c1,.slice X2 p.E.body.length d2,.int .i64 p.E.asked,.int .i64 p.E.got]) (by simp [results,Tryz.results38,go_sem,d0,d1,d2',d3,d4,d5,d6,d7,d8]) rfl ?_
 exact⟨⟨p.E,A1,c1,X2,d2⟩,rfl,rfl,⟨HRC.out.mono (by have:=HSZ.out;omega),HRZ.out.mono (by have:=HSZ.out;have:=HZ1.out;omega)⟩,HBZ.out⟩
open Go.Maps
section
variable {F F':Nat→Prop} {w w':World} {B k:Nat} {X:SM} {s:S.Sto} {T:TypeId}
theorem qJ.went {fa:Nat→Nat} {c:D.Chg} {v:Value} (h:qJ w B fa c v) (hw:aO F w F' w') (hF:∀ k,F k→∀ t,Tag w k t→t≠98∧t≠9):qJ w' B fa c v:=by
 have hb:∀ {b:Nat} {cs:Array Value} {t:TypeId},(t=98∨t=9)→Blk w b cs t→Blk w' b cs t:=fun ht hb=>hw.blk hb (fun e=>by
  have:=hF _ e _ hb.tag
  rcases ht with rfl | rfl
  ·exact this.1 rfl
  ·exact this.2 rfl)
 cases c with
 | put nm no =>
  obtain⟨bf,bn,h1,h2,h3,h4,h5⟩:=h
  exact⟨bf,bn,h1,h2,h3,hb (.inl rfl) h4,hb (.inr rfl) h5⟩
 | del nm =>
  obtain⟨bn,h1,h2,h3⟩:=h
  exact⟨bn,h1,h2,hb (.inr rfl) h3⟩
 | ren a b no =>
  obtain⟨ba,bf,bb,h1,h2,h3,h4,h5,h6,h7⟩:=h
  exact⟨ba,bf,bb,h1,h2,h3,h4,hb (.inr rfl) h5,hb (.inl rfl) h6,hb (.inr rfl) h7⟩
def Mine (w:World) (k:Nat):Prop:=Tag w k Lr.tT∨Tag w k Lr.nT∨aNO w k
theorem Mine.tag (h:Mine w k) (ht:Tag w k T):T=Lr.tT∨T=Lr.nT:=by
 rcases h with h | h | h
 ·by_cases e:T=Lr.tT
  ·exact .inl e
  ·exact absurd rfl (ht.ne h e)
 ·by_cases e:T=Lr.nT
  ·exact .inr e
  ·exact absurd rfl (ht.ne h e)
 ·exact absurd rfl (ht.map h)
def aQ1 (w:World) (k:Nat):Prop:=∀ T,Tag w k T→T≠98∧T≠9∧T≠3
theorem Mine.offs (h:Mine w k):aQ1 w k:=fun T ht=>by
 rcases h.tag ht with rfl | rfl
 ·exact⟨by decide,by decide,by decide⟩
 ·exact⟨by decide,by decide,by decide⟩
theorem aOK {U:TypeId} (h:Tag w k U) (h1:U≠98∧U≠9∧U≠3):aQ1 w k:=fun _ ht =>
 ⟨fun e=>ht.ne h (fun e2=>h1.1 (e2.symm.trans e)) rfl,fun e=>ht.ne h (fun e2=>h1.2.1 (e2.symm.trans e)) rfl,fun e=>ht.ne h (fun e2=>h1.2.2 (e2.symm.trans e)) rfl⟩
theorem dU.away (h:dU B X s w) (hw:aO F w F' w') (hF:∀ k,F k→aQ1 w k∧¬ X.foot s k):dU B X s w':=by
 have hn:∀ {k},X.foot s k→¬ F k:=fun hk hf=>(hF _ hf).2 hk
 obtain⟨⟨⟨a1,a2,a3,a4,a5,a6,a7,a8,a9,a10⟩,b2,b3⟩,c2,c3,c4,c5,c6⟩:=h
 refine⟨⟨⟨hw.blk a1 (hn (.inl (.inl rfl))),hw.map a2 (hn (.inl (.inr (.inl rfl)))),hw.map a3 (hn (.inl (.inr (.inr (.inl rfl))))),a4,hw.row a5 (fun k hk=>hn (.inl (.inr (.inr (.inr (.inl hk)))))),
  a6.imp (fun c v hc=>hc.went hw (fun k hf t h1=>⟨((hF k hf).1 t h1).1,((hF k hf).1 t h1).2.1⟩)),hw.row a7 (fun k hk hf=>((hF k hf).1 _ (a7.tag hk)).2.2 rfl),
  fun no hno=>⟨hw.blk (a8 no hno).blk (hn (.inl (.inr (.inr (.inr (.inr ⟨no,hno,.inl rfl⟩)))))),hw.row (a8 no hno).row (fun k hk=>hn (.inl (.inr (.inr (.inr (.inr ⟨no,hno,.inr hk⟩)))))),(a8 no hno).ge⟩,a9,a10⟩,hw.blk b2 (hn (.inr (.inl rfl))),b3⟩,
  hw.blk c2 (hn (.inr (.inr (.inl rfl)))),hw.map c3 (hn (.inr (.inr (.inr (.inl rfl))))),c4,hw.row c5 (fun k hk=>hn (.inr (.inr (.inr (.inr hk))))),c6⟩
theorem dU.off (h:dU B X s w) (ht:Tag w k T) (h1:T≠95∧T≠200∧T≠100∧T≠5) (h2:T≠154∧T≠109∧T≠4):¬ X.foot s k:=by
 rintro (hf | rfl | rfl | rfl | hf)
 ·exact h.log.disk.off ht h1.1 h1.2.1 h1.2.2.1 h1.2.2.2 hf
 ·exact ht.ne h.log.blk.tag h2.1 rfl
 ·exact ht.ne h.blk.tag h2.2.1 rfl
 ·exact ht.map (aF h.tab) rfl
 ·exact ht.ne (h.used.tag hf) h2.2.2 rfl
end
structure CM where
 c:Nat
 t:Nat
 m:Nat
 hm:Nat
 X:SM
structure CSt where
 s:Option S.Sto
 l:List It
 hd:D.NM
def CM.foot (Z:CM) (a:CSt) (k:Nat):Prop:=LrF Z.t Z.m a.l k∨k=Z.hm∨∃ s,a.s=some s∧Z.X.foot s k
structure CAt (B room:Nat) (Z:CM) (a:CSt) (w:World):Prop where
 blk:Blk w Z.c #[.pointer (a.s.map fun _=>⟨Z.X.st,0,none⟩),.pointer (some ⟨Z.t,0,none⟩),.map (some Z.hm)] 76
 sto:∀ s,a.s=some s→dU B Z.X s w
 mem:fG B Z.t Z.m room a.l w
 hid:w.ownsMap Tryz.prog 9 pV Z.hm a.hd.length (D.zN a.hd)
 up:D.Up a.hd
 nem:Z.hm≠Z.m
 ne:∀ s,a.s=some s→¬ Z.X.foot s Z.hm∧¬ Z.X.foot s Z.m
 sep:∀ s,a.s=some s→∀ x∈a.l,∀ k,ownB x.p.A x.p.c=some k∨ownB x.p.X x.p.d=some k→¬ Z.X.foot s k
 ge:B≤Z.c∧B≤Z.hm
section
variable {B room:Nat} {Z:CM} {a:CSt} {w w':World} {X':SM} {s s':S.Sto} {l':List It} {hd':D.NM} {k:Nat} {F F':Nat→Prop}
theorem CAt.cells (h:CAt B room Z a w):w.cell? ⟨Z.c,0,none⟩=some (.pointer (a.s.map fun _=>⟨Z.X.st,0,none⟩))∧w.cell? ⟨Z.c,1,none⟩=some (.pointer (some ⟨Z.t,0,none⟩))∧w.cell? ⟨Z.c,2,none⟩=some (.map (some Z.hm)) :=
 ⟨h.blk.cell 0 rfl,h.blk.cell 1 rfl,h.blk.cell 2 rfl⟩
theorem CAt.below (h:CAt B room Z a w) (hb:Below w.heap.size w w'):CAt B room Z a w' :=
 ⟨h.blk.below hb,fun s hs=>(h.sto s hs).below hb,h.mem.below hb,h.hid.kept (show w.grownBy w' none from⟨hb.os,hb.tape,hb.output,hb.size,fun k hk _=>hb.block k hk⟩) (by simp),h.up,h.nem,h.ne,h.sep,h.ge⟩
theorem CAt.rows (h:CAt B room Z a w) {x:It} (hx:x∈a.l) (hk:ownB x.p.A x.p.c=some k∨ownB x.p.X x.p.d=some k):k < w.heap.size:=by
 rcases hk with hk | hk
 ·exact ((h.mem.own x hx).1.lt k hk).2
 ·exact ((h.mem.own x hx).2.lt k hk).2
theorem CAt.lruOff (h:CAt B room Z a w) (hs:a.s=some s) (hk:LrF Z.t Z.m a.l k):Mine w k∧¬ Z.X.foot s k:=by
 refine⟨h.mem.tag hk,?_⟩
 rcases hk with rfl | rfl | ⟨x,hx,rfl⟩
 ·exact (h.sto s hs).off h.mem.ring.tb.tag (by decide) (by decide)
 ·exact (h.ne s hs).2
 ·exact (h.sto s hs).off (h.mem.ring.nd x hx).tag (by decide) (by decide)
theorem CAt.hmLr (h:CAt B room Z a w):¬ LrF Z.t Z.m a.l Z.hm:=by
 rintro (e | e | ⟨x,hx,e⟩)
 ·exact h.mem.ring.tb.tag.map (aF h.hid) e.symm
 ·exact h.nem e
 ·exact (h.mem.ring.nd x hx).tag.map (aF h.hid) e
theorem CAt.stored (h:CAt B room Z a w) (hs:a.s=some s) (h':dU B X' s' w') (hw:aO (Z.X.foot s) w (X'.foot s') w') (hst:X'.st=Z.X.st) :
  CAt B room { Z with X:=X' } { a with s:=some s' } w'∧aO (Z.foot a) w (CM.foot { Z with X:=X' } { a with s:=some s' }) w':=by
 have hS:=h.sto s hs
 have hnew:∀ {k},k < w.heap.size→¬ Z.X.foot s k→¬ X'.foot s' k:=fun hk hn hf=>by
  rcases hw.foot _ hf with h1 | h1
  ·exact hn h1
  ·omega
 refine⟨⟨?_,fun x hx=>by cases hx;exact h',h.mem.went hw (fun k hk=>(h.lruOff hs hk).2) (fun x hx k hk=>h.sep s hs x hx k hk),hw.map h.hid (h.ne s hs).1,h.up,h.nem,fun x hx=>?_,fun x hx y hy k hk=>?_,h.ge⟩,hw.wide (fun k hk=>.inr (.inr ⟨s,hs,hk⟩)) (fun k hk=>?_)⟩
 ·have:=hw.blk h.blk (hS.off h.blk.tag (by decide) (by decide))
  rw[hs]at this
  show Blk w' Z.c #[.pointer (some ⟨X'.st,0,none⟩),_,_] _
  rw[hst]
  exact this
 ·cases hx
  exact⟨hnew h.hid.lt (h.ne s hs).1,hnew (h.mem.lt (.inr (.inl rfl))) (h.ne s hs).2⟩
 ·cases hx
  exact hnew (h.rows hy hk) (h.sep s hs y hy k hk)
 ·rcases hk with hk | hk | ⟨x,hx,hk⟩
  ·exact .inr (.inl (.inl hk))
  ·exact .inr (.inl (.inr (.inl hk)))
  ·cases hx
   exact .inl hk
theorem CAt.turned (h:CAt B room Z a w) (h':fG B Z.t Z.m room l' w') (hw:aO (LrF Z.t Z.m a.l) w (LrF Z.t Z.m l') w') (hnew:∀ x∈l',x∈a.l∨∀ s,a.s=some s→∀ k,ownB x.p.A x.p.c=some k∨ownB x.p.X x.p.d=some k→¬ Z.X.foot s k) :
  CAt B room Z { a with l:=l' } w'∧aO (Z.foot a) w (Z.foot { a with l:=l' }) w':=by
 refine⟨⟨hw.blk h.blk (h.mem.off h.blk.tag (by decide) (by decide)),fun s hs=>(h.sto s hs).away hw (fun k hk=>⟨(h.lruOff hs hk).1.offs,(h.lruOff hs hk).2⟩),h',hw.map h.hid h.hmLr,h.up,h.nem,h.ne,fun s hs x hx k hk=>?_,h.ge⟩,hw.wide (fun k hk=>.inl hk) (fun k hk=>?_)⟩
 ·rcases hnew x hx with h1 | h1
  ·exact h.sep s hs x h1 k hk
  ·exact h1 s hs k hk
 ·rcases hk with hk | hk | hk
  ·exact .inl hk
  ·exact .inr (.inl (.inr (.inl hk)))
  ·exact .inr (.inl (.inr (.inr hk)))
theorem CAt.hides (h:CAt B room Z a w) (h':w'.ownsMap Tryz.prog 9 pV Z.hm hd'.length (D.zN hd')) (hu:D.Up hd') (hg:w.grownBy w' (some Z.hm)) :
  CAt B room Z { a with hd:=hd' } w'∧aO (Z.foot a) w (Z.foot { a with hd:=hd' }) w':=by
 have hw:aO (fun k=>k=Z.hm) w (fun k=>k=Z.hm) w':=aO.grown hg (fun k e=>(by simpa using e.symm)) (fun k hk=>.inl hk)
 have hM:=aF h.hid
 refine⟨⟨hw.blk h.blk (h.blk.tag.map hM),fun s hs=>(h.sto s hs).away hw (fun k hk=>by subst hk;exact⟨Mine.offs (.inr (.inr hM)),(h.ne s hs).1⟩),h.mem.went hw (fun k hk e=>h.hmLr (e ▸ hk)) (fun x hx k hk e=>?_),h',hu,h.nem,h.ne,h.sep,h.ge⟩,hw.wide (fun k hk=>.inr (.inl hk)) (fun k hk=>.inr (.inl hk))⟩
 rcases hk with hk | hk
 ·exact ((h.mem.own x hx).1.tag hk).map hM e
 ·exact ((h.mem.own x hx).2.tag hk).map hM e
theorem CAt.beside (h:CAt B room Z a w) (hw:aO F w F' w') (hF:∀ k,F k→aQ1 w k∧¬ Z.foot a k∧k≠Z.c∧∀ x∈a.l,∀ j,ownB x.p.A x.p.c=some j∨ownB x.p.X x.p.d=some j→j≠k):CAt B room Z a w' :=
 ⟨hw.blk h.blk (fun hf=>(hF _ hf).2.2.1 rfl),fun s hs=>(h.sto s hs).away hw (fun k hk=>⟨(hF k hk).1,fun hf=>(hF k hk).2.1 (.inr (.inr ⟨s,hs,hf⟩))⟩),h.mem.went hw (fun k hk hf=>(hF k hf).2.1 (.inl hk)) (fun x hx k hk hf=>(hF k hf).2.2.2 x hx k hk rfl),
  hw.map h.hid (fun hf=>(hF _ hf).2.1 (.inr (.inl rfl))),h.up,h.nem,h.ne,h.sep,h.ge⟩
end
end Go.Proofs.YthjeglnkgdpijaaGreatDoor
namespace Go.Proofs.YthjeglnkgdpijaaGreatDoor
open Go.ChangeShapes Go.WideShapes Go.ChangeAt Go.RowKit Go.Deep
structure SQ where
 what:Int
 p:EP
 key:ByteArray
 Y:Option Addr
 cy:Nat
 ask:List FD
def SQ.c (q:SQ):List Value:=.int .i64 q.what::(ec q.p++[.string q.key,.slice q.Y q.ask.length q.cy])
def SQ.bulk (q:SQ):Nat:=q.p.bulk+q.key.size+F.bulk q.ask
def dR (l:List SQ):List Value:=l.flatMap SQ.c
theorem iV (l:List SQ):(dR l).length=l.length * 12:=by
 induction l with
 | nil=>rfl
 | cons q t ih =>
  have e:dR (q::t)=q.c++dR t:=rfl
  rw[e,bC,ih,List.length_cons,show q.c.length=12 from rfl]
  omega
theorem nN:∀ (l:List SQ) (i j:Nat) (h:i < l.length),j < 12→(dR l)[i * 12+j]?=(l[i].c)[j]?
 | q::t,0,j,_,hj=>by
  have e:dR (q::t)=q.c++dR t:=rfl
  rw[e,List.getElem?_append_left (by rw[show q.c.length=12 from rfl];omega)]
  simp
 | q::t,i+1,j,h,hj=>by
  have e:dR (q::t)=q.c++dR t:=rfl
  have hl:q.c.length=12:=rfl
  rw[e,List.getElem?_append_right (by rw[hl];omega),hl,show (i+1) * 12+j - 12=i * 12+j by omega,nN t i j (by simpa using h) hj]
  simp
theorem aK1:Tryz.prog.underlying 43=some (.struct (Tryz.prog.fieldsOf 43)):=by kernel_rfl
theorem rO:Tryz.prog.cellsOf 43=12:=by kernel_rfl
theorem lS:(Tryz.prog.fieldsOf 43).map (fun f=>(f.type,f.offset))=#[(3,0),(41,1),(9,10),(27,11)]:=by kernel_rfl
section
variable {H:Type} {enc:TypeId × Value→H} {W:World} {base:Nat} {held:Bool}
theorem aO6 {fuel:Nat} {cs:List Value} {x:DataW H × List MemPlace} (h:DataW.trod enc Tryz.prog W base (fun _=>true) held fuel 43 cs=some x):∃ q:SQ,cs=q.c∧ERd W q.p∧Rd W q.Y q.ask.length 2 (aI q.ask)∧q.bulk+1≤Rows.uptoBulk x.1:=by
 obtain⟨xs,n,rfl,hx,hlc,hxl,hall⟩:=DataW.trod_struct aK1 h
 rw[rO]at hlc
 obtain⟨a0,a1,a2,a3,a4,a5,a6,a7,a8,a9,a10,a11,rfl⟩:∃ a0 a1 a2 a3 a4 a5 a6 a7 a8 a9 a10 a11,cs=[a0,a1,a2,a3,a4,a5,a6,a7,a8,a9,a10,a11]:=by
  match cs,hlc with
  | [a0,a1,a2,a3,a4,a5,a6,a7,a8,a9,a10,a11],_=>exact⟨a0,a1,a2,a3,a4,a5,a6,a7,a8,a9,a10,a11,rfl⟩
 obtain⟨c1,c2,c3,c4⟩:=cells_one
 obtain⟨g0,e0,t0,o0⟩:=dF lS 0 _ _ rfl
 obtain⟨g1,e1,t1,o1⟩:=dF lS 1 _ _ rfl
 obtain⟨g2,e2,t2,o2⟩:=dF lS 2 _ _ rfl
 obtain⟨g3,e3,t3,o3⟩:=dF lS 3 _ _ rfl
 have h0:=hall 0 g0 e0
 have h1:=hall 1 g1 e1
 have h2:=hall 2 g2 e2
 have h3:=hall 3 g3 e3
 rw[t0,o0,c2]at h0
 rw[t1,o1,tZ]at h1
 rw[t2,o2,c1]at h2
 rw[t3,o3,c4]at h3
 have hz:(Tryz.prog.fieldsOf 43).size=4:=by have:=congrArg Array.size lS;simpa using this
 rw[hz]at hxl
 obtain⟨y0,y1,y2,y3,rfl⟩:∃ y0 y1 y2 y3,xs=[y0,y1,y2,y3]:=by
  match xs,hxl with
  | [y0,y1,y2,y3],_=>exact⟨y0,y1,y2,y3,rfl⟩
 change DataW.trod _ _ _ _ _ _ _ _ [a0]=some y0 at h0
 change DataW.trod _ _ _ _ _ _ _ _ [a1,a2,a3,a4,a5,a6,a7,a8,a9]=some y1 at h1
 change DataW.trod _ _ _ _ _ _ _ _ [a10]=some y2 at h2
 change DataW.trod _ _ _ _ _ _ _ _ [a11]=some y3 at h3
 obtain⟨m,r0,rfl,_⟩:=DataW.trod_int Tryz.underlying3 h0
 obtain⟨p,hp,hr,hb⟩:=aDN h1
 obtain⟨k,r1,rfl,_⟩:=DataW.trod_string Tryz.underlying9 h2
 obtain⟨Y,ny,cy,rfl⟩:=rQ h3
 obtain⟨ask,l1,l2,l3,_⟩:=pI h3
 simp only[List.cons.injEq,and_true]at r0 r1
 subst r0 r1 l1
 have hd:x.1=.agg _:=congrArg Prod.fst hx
 refine⟨⟨m,p,k,Y,cy,ask⟩,?_,hr,l2,?_⟩
 ·unfold SQ.c
  rw[← hp]
  rfl
 ·rw[hd]
  unfold SQ.bulk
  simp only[List.map_cons,List.map_nil,Rows.uptoBulk,Rows.uptoBulkAll,Array.length_toList]
  have:k.size=k.data.size:=rfl
  omega
theorem aOD {A:Addr} {n:Nat} {l:List SQ} (hl:l.length=n) (h:∀ i (hi:i < l.length),∀ j,j < 12→W.cell? ((A.add (i * 12)).add j)=((l[i]'hi).c)[j]?):Rd W (some A) n 12 (dR l):=by
 refine⟨by rw[iV,hl],fun hn=>?_⟩
 have h0:=h 0 (by omega) 0 (by omega)
 have h00:W.cell? ((A.add (0 * 12)).add 0)=some (.int .i64 (l[0]'(by omega)).what):=h0
 have hspot:((A.add (0 * 12)).add 0).spot=none:=World.cell?_spot h00
 obtain⟨b,o,sp⟩:=A
 have:sp=none:=by cases sp<;>simp_all [Addr.add]
 subst this
 have ea:∀ k,(⟨b,o,none⟩:Addr).add k=⟨b,o+k,none⟩:=fun k=>by unfold Addr.add;split<;>simp_all
 have eb:∀ o k,(⟨b,o,none⟩:Addr).add k=⟨b,o+k,none⟩:=fun o k=>by unfold Addr.add;split<;>simp_all
 refine⟨b,o,rfl,?_,fun j u hu=>?_⟩
 ·have:=World.block_lt_of_cell? W _ h00
  rw[ea,eb]at this
  exact this
 have hj:j < l.length * 12:=by rw[← iV];exact (List.getElem?_eq_some_iff.1 hu).1
 have hjj:j / 12 * 12+j % 12=j:=by omega
 have h1:=h (j / 12) (by omega) (j % 12) (by omega)
 rw[ea,eb,Nat.add_assoc,hjj]at h1
 rw[h1,← nN l (j / 12) (j % 12) (by omega) (by omega),hjj]
 exact hu
theorem aNH {D:Nat→DataW H} {g:Nat→SQ}:∀ l:List Nat,(∀ i∈l,(g i).bulk+1≤Rows.uptoBulk (D i))→l.length≤Rows.uptoBulkAll (l.map D)∧∀ i∈l,(g i).bulk≤Rows.uptoBulkAll (l.map D)
 | [],_=>⟨by simp,by simp⟩
 | i::l,h=>by
  have h1:=h i (by simp)
  obtain⟨h2,h3⟩:=aNH l (fun j hj=>h j (by simp [hj]))
  simp only[List.map_cons,List.length_cons,Rows.uptoBulkAll]
  refine⟨by omega,fun j hj=>?_⟩
  rcases List.mem_cons.1 hj with rfl | hj
  ·omega
  ·have:=h3 j hj
   omega
theorem wI:Tryz.prog.underlying 26=some (.slice 43):=by kernel_rfl
theorem aB0 {A:Option Addr} {n c:Nat} {fuel:Nat} {x:DataW H × List MemPlace} (h:DataW.trod enc Tryz.prog W base (fun _=>true) held fuel 26 [.slice A n c]=some x) :
  ∃ l:List SQ,l.length=n∧Rd W A n 12 (dR l)∧n≤c∧(A=none→n=0)∧(∀ q∈l,ERd W q.p∧Rd W q.Y q.ask.length 2 (aI q.ask))∧(∀ q∈l,q.bulk≤Rows.uptoBulk x.1)∧l.length≤Rows.uptoBulk x.1:=by
 rcases open_slice wI h with ⟨h0,rfl⟩ | ⟨a,len,cap,m,k,D,Pl,hcs,_,hl,hm,hmm,rfl,hi⟩
 ·simp only[List.cons.injEq,Value.slice.injEq,and_true]at h0
  obtain⟨rfl,rfl,rfl⟩:=h0
  exact⟨[],rfl,Rd.nil _ _ _,zA _,fun _=>rfl,(fun _ h=>by cases h),(fun _ h=>by cases h),zF _⟩
 ·simp only[List.cons.injEq,Value.slice.injEq,and_true]at hcs
  obtain⟨rfl,rfl,rfl⟩:=hcs
  simp only[if_true]at hmm
  subst hmm
  have each:∀ i,∃ q:SQ,i < n→(∀ j,j < 12→W.cell? ((a.add (i * 12)).add j)=(q.c)[j]?)∧(ERd W q.p∧Rd W q.Y q.ask.length 2 (aI q.ask))∧q.bulk+1≤Rows.uptoBulk (D i):=by
   intro i
   by_cases hin:i < n
   ·obtain⟨cs',hc,ht⟩:=hi i (by omega)
    rw[rO]at hc
    obtain⟨q,rfl,hr,hy,hb⟩:=aO6 ht
    obtain⟨_,_,hat⟩:=World.cells?_some hc
    refine⟨q,fun _=>⟨fun j hj=>?_,⟨hr,hy⟩,hb⟩⟩
    have hjl:j < q.c.length:=hj
    have:=hat j hjl
    rw[this,List.getElem?_eq_getElem hjl]
   ·exact⟨⟨0,⟨⟨⟨#[]⟩,⟨#[]⟩,0,⟨#[]⟩,0,[],[],0,0⟩,none,0,none,0⟩,⟨#[]⟩,none,0,[]⟩,fun h=>absurd h hin⟩
  obtain⟨g,hg⟩:∃ g:Nat→SQ,∀ i,i < n→(∀ j,j < 12→W.cell? ((a.add (i * 12)).add j)=((g i).c)[j]?)∧(ERd W (g i).p∧Rd W (g i).Y (g i).ask.length 2 (aI (g i).ask))∧(g i).bulk+1≤Rows.uptoBulk (D i) :=
   ⟨fun i=>(each i).choose,fun i=>(each i).choose_spec⟩
  obtain⟨b1,b2⟩:=aNH (D:=D) (g:=g) (List.range n) (fun i hi=>(hg i (List.mem_range.1 hi)).2.2)
  refine⟨(List.range n).map g,by simp,aOD (by simp) (fun i hi j hj=>?_),hl,(fun h=>by cases h),fun q hq=>?_,fun q hq=>?_,?_⟩
  ·rw[List.length_map,List.length_range]at hi
   simp only[List.getElem_map,List.getElem_range]
   exact (hg i hi).1 j hj
  ·obtain⟨i,hi,rfl⟩:=List.mem_map.1 hq
   exact (hg i (List.mem_range.1 hi)).2.1
  ·obtain⟨i,hi,rfl⟩:=List.mem_map.1 hq
   have:=b2 i hi
   simp only[Rows.uptoBulk]
   omega
  ·simp only[Rows.uptoBulk,List.length_map]
   omega
theorem open_script {r:Reach} {b0:Nat} {v:Value} {d:DataW H} {p:List MemPlace} (hv:Value.okWide Tryz.prog W r b0 26 v) (h:DataW.Trod enc Tryz.prog W base (fun _=>true) held 26 v d p) :
  ∃ A n c l,v=.slice A n c∧l.length=n∧Rd W A n 12 (dR l)∧n≤c∧(A=none→n=0)∧(∀ q∈l,ERd W q.p∧Rd W q.Y q.ask.length 2 (aI q.ask))∧(∀ q∈l,q.bulk≤Rows.uptoBulk d)∧l.length≤Rows.uptoBulk d:=by
 obtain⟨A,n,c,rfl⟩:=okWide_slice wI hv
 obtain⟨fuel,hf⟩:=h
 obtain⟨l,h⟩:=aB0 (A:=A) (n:=n) (c:=c) hf
 exact⟨A,n,c,l,rfl,h⟩
end
end Go.Proofs.YthjeglnkgdpijaaGreatDoor
namespace Go.Proofs.YthjeglnkgdpijaaGreatDoor
open Go Go.RowKit
namespace V
def vary:ByteArray:=⟨#[86,97,114,121]⟩
def star:ByteArray:=⟨#[42]⟩
def has (l:List ByteArray) (x:ByteArray):Bool:=l.any fun y=>decide (y=x)
theorem has_iff {l:List ByteArray} {x:ByteArray}:has l x=true↔x∈l:=by
 unfold has
 rw[List.any_eq_true]
 exact⟨fun⟨y,h1,h2⟩=>by rw[← of_decide_eq_true h2];exact h1,fun h=>⟨x,h,decide_eq_true rfl⟩⟩
def names (fs:List FD):Option (List ByteArray):=if has (F.tokens fs vary) star=true then none else some (setB (F.tokens fs vary))
end V
theorem jV (A:Option Addr) (n c:Nat) (xs:List ByteArray) (x:ByteArray) (w:World) (h:Rd w A n 1 (aC xs)) (hn:n≤1099511627776) :
  Calls Tryz.prog 67 #[.slice A n c,.string x] w (fun e w'=>e=.returned (.bool (V.has xs x))∧w'=w):=by
 have hl:xs.length=n:=by
  have:=h.1
  unfold aC at this
  rw[List.length_map]at this
  omega
 rcases Nat.eq_zero_or_pos n with rfl | h0
 ·have hx:xs=[]:=List.length_eq_zero_iff.1 hl
  subst hx
  refine (Tryz.slices_Contains_string_empty A c x w).mono ?_
  rintro e w' ⟨rfl,rfl⟩
  exact⟨rfl,rfl⟩
 ·obtain⟨b,o,rfl,hlt,hc⟩:=h.2 h0
  refine (Tryz.slices_Contains_string b o n c xs x w (by omega) (by omega) (fun j hj=>hc j _ ?_)).mono ?_
  ·unfold aC
   rw[List.getElem?_map,List.getElem?_eq_getElem hj,List.getD_eq_getElem?_getD,List.getElem?_eq_getElem hj]
   rfl
  ·rintro e w' ⟨rfl,rfl⟩
   refine⟨?_,rfl⟩
   rw[List.take_of_length_le (by omega)]
   congr 2
   have:=Lib.containsS_iff xs x
   cases hb:V.has xs x with
   | true=>exact this.2 (V.has_iff.1 hb)
   | false =>
    cases hc:Lib.containsS xs x with
    | false=>rfl
    | true=>rw[V.has_iff.2 (this.1 hc)]at hb;cases hb
def aM3 (fs:List FD) (w:World) (e:Ending) (w':World):Prop:=Below w.heap.size w w'∧match V.names fs with
 | none=>e=.returned (.tuple #[.slice none 0 0,.bool false])
 | some l=>∃ A c,e=.returned (.tuple #[.slice A l.length c,.bool true])∧Row w' w.heap.size 9 1 A l.length c (aC l)
theorem aIH (X:Option Addr) (n d:Nat) (fs:List FD) (w:World) (hn:n≤1099511627776) (hl:fs.length=n) (hf:pU fs) (htot:(F.tokens fs V.vary).length≤1099511627776) (hx:Rd w X n 2 (aI fs)) :
  Calls Tryz.prog 39 #[.slice X n d] w (aM3 fs w):=by
 have HT:=aH (aFF X n d fs V.vary w hn hl hf (by decide) htot hx)
 unfold V.vary at HT htot
 obtain⟨ts,hts⟩:∃ ts,F.tokens fs V.vary=ts:=⟨_,rfl⟩
 have HTS:=aH hts
 unfold V.vary at hts
 rw[hts]at HT htot
 clear hl hf hx hts
 go_enter Tryz.func39,Tryz.ntmps39
 go_wp2_with fail
 refine HT.out.mono ?_
 rintro e w1 ⟨A,c,rfl,hr,hb⟩
 have HR:=aH hr
 have HB:=aH hb
 have HC:=aH (jV A ts.length c ts V.star w1 hr.rd htot)
 unfold V.star at HC
 clear hr hb HT
 go_wp2_with fail
 refine HC.out.mono ?_
 rintro e w2 ⟨rfl,rfl⟩
 by_cases hs:V.has ts V.star=true
 ·have hs2:V.has ts ⟨#[42]⟩=true:=hs
  have HS:=aH hs
  clear hs
  rw[hs2]
  go_wp2
  go_ret2
  refine⟨HB.out,?_⟩
  unfold V.names
  rw[HTS.out,if_pos HS.out]
  rfl
 ·have hs2:V.has ts ⟨#[42]⟩=false:=Bool.eq_false_iff.2 hs
  have HS:=aH hs
  clear hs
  rw[hs2]
  have HSO:=aH (rP w.heap.size A ts.length c ts w2 HR.out htot)
  have hsl:=lT ts
  go_wp2_with fail
  refine HSO.out.mono ?_
  rintro e w3 ⟨rfl,hr3,hg3⟩
  rw[← hsl]at hr3
  have HCO:=aH (kT w.heap.size A (sortB ts).length c (sortB ts) w3 hr3 (by omega))
  rw[hsl]at HCO
  have HB3:=aH (HB.out.grown hg3 HB.out.size (fun k hk=>(HR.out.lt k hk).1))
  have HR3:=aH hr3
  clear hr3 hg3 hsl
  go_wp2_with fail
  refine HCO.out.mono ?_
  rintro e w4 ⟨rfl,hr4,hg4⟩
  have HB4:=aH (HB3.out.grown hg4 HB3.out.size (fun k hk=>(HR3.out.lt k hk).1))
  have HR4:=aH hr4
  clear hr4 hg4
  go_wp2
  go_ret2
  refine⟨HB4.out,?_⟩
  unfold V.names
  rw[HTS.out,if_neg HS.out]
  exact⟨A,c,rfl,HR4.out⟩
namespace V
def elems (ask:List FD) (nm:ByteArray):List ByteArray:=(F.values ask nm).flatMap F.list
def line (ask:List FD) (nm:ByteArray):List UInt8:=T.fold (L nm)++((if F.values ask nm=[] then [] else 58::Lib.join ((elems ask nm).map L) [44])++[10])
def key (names:List ByteArray) (ask:List FD):List UInt8:=names.flatMap (line ask)
end V
def Bld (w:World) (b:Nat) (l:List UInt8) (u:World):Prop:=Lib.IsBuilder 140 5 b b (Lib.byteCells l) u∧Below b w u∧b≤u.heap.size
section
variable {w u v:World} {b:Nat} {l:List UInt8}
theorem Bld.below (h:Bld w b l u) (hb:Below u.heap.size u v):Bld w b l v:=by
 refine⟨?_,aA h.2.2 h.2.1 hb,bD h.2.2 hb.size⟩
 have hk:∀ {p:Value},Lib.BuilderAt 140 5 b b p (Lib.byteCells l) u→Lib.BuilderAt 140 5 b b p (Lib.byteCells l) v:=fun {p} ⟨h1,x,h2,h3,h4⟩ =>
  ⟨h1,x,(hb.block b (Array.getElem?_eq_some_iff.1 h2).1).trans h2,h3.kept (row:=none) ⟨hb.os,hb.tape,hb.output,hb.size,fun k hk _=>hb.block k hk⟩ (by cases x.ownBlock<;>simp),h4⟩
 exact h.1.imp hk hk
theorem Bld.str (h:Bld w b l u) (s:ByteArray) (hs:l.length+s.size≤140737488355328) :
  Calls Tryz.prog 79 #[.pointer (some ⟨b,0,none⟩),.string s] u (fun e v=>e=.returned (.tuple #[.int .i64 s.size,.nilIface])∧Bld w b (l++L s) v):=by
 refine (Any.Builder_WriteString { Tryz.lays156 with } Tryz.Builder_Extra_156 b b (Lib.byteCells l) s u h.1 (by rw[Lib.byteCells_length];exact hs) h.2.2).mono ?_
 rintro e v ⟨he,h1,h2⟩
 refine⟨he,.inr ?_,h.2.1.trans h2,bD h.2.2 h2.size⟩
 rw[Lib.byteCells_append]
 exact h1
theorem Bld.byte (h:Bld w b l u) (c:UInt8) (hs:l.length+1≤140737488355328) :
  Calls Tryz.prog 84 #[.pointer (some ⟨b,0,none⟩),.int .u8 c.toNat] u (fun e v=>e=.returned .nilIface∧Bld w b (l++[c]) v):=by
 refine (lI b b (Lib.byteCells l) c.toNat u h.1 (by rw[Lib.byteCells_length];exact hs) h.2.2).mono ?_
 rintro e v ⟨he,h1,h2⟩
 refine⟨he,.inr ?_,h.2.1.trans h2,bD h.2.2 h2.size⟩
 rw[Lib.byteCells_append]
 exact h1
theorem Bld.string (h:Bld w b l u):Calls Tryz.prog 85 #[.pointer (some ⟨b,0,none⟩)] u (fun e v=>e=.returned (.string (B l))∧Below b w v):=by
 refine (Tryz.Builder_String_any b b l u h.1 h.2.2).mono ?_
 rintro e v ⟨he,h2⟩
 exact⟨he,h.2.1.trans h2⟩
end
theorem aDC (A:Option Addr) (n c:Nat) (xs:List ByteArray) (sep:ByteArray) (w:World) (h:Rd w A n 1 (aC xs)) (hn:n≤1099511627776) (hc:n≤c) (hj:(Lib.join (xs.map L) (L sep)).length≤140737488355328) :
  Calls Tryz.prog 83 #[.slice A n c,.string sep] w (aDU w (B (Lib.join (xs.map L) (L sep)))):=by
 have hl:xs.length=n:=by
  have:=h.1
  unfold aC at this
  rw[List.length_map]at this
  omega
 rcases Nat.eq_zero_or_pos n with rfl | h0
 ·have hx:xs=[]:=List.length_eq_zero_iff.1 hl
  subst hx
  refine (Tryz.strings_Join_none A c sep w).mono ?_
  rintro e w' ⟨rfl,rfl⟩
  exact⟨rfl,zB _ _⟩
 ·obtain⟨b,o,rfl,hlt,hcc⟩:=h.2 h0
  subst hl
  refine (Tryz.strings_Join b o c xs sep w (fun j x hx=>hcc j _ ?_) hlt (by omega) hc hj).mono ?_
  ·unfold aC
   rw[List.getElem?_map,hx]
   rfl
  ·rintro e w' ⟨rfl,h2⟩
   exact⟨rfl,h2⟩
end Go.Proofs.YthjeglnkgdpijaaGreatDoor
