/- The walks of the store's read, Get and free. The walk of the store's Put. Conditions: as each theorem states them. -/
import Derived.Test.YthjeglnkgdpijaaGreatDoorZ25
import Derived.Test.YthjeglnkgdpijaaGreatDoorObjB
set_option maxHeartbeats 4000000
set_option maxRecDepth 100000
namespace Go.Proofs.YthjeglnkgdpijaaGreatDoor
open Go Go.RowKit Go.Maps
def kK (E:O.Ent) (A:Option Addr) (c:Nat) (X:Option Addr) (d:Nat):Value:=.agg #[.string E.k,.string E.v,.int .i64 E.s,.string E.r,.int .i64 E.m,.slice A E.fs.length c,.slice X E.body.length d,.int .i64 E.asked,.int .i64 E.got]
def uT (w:World) (x:Option O.Ent) (e:Ending) (w':World):Prop :=
 ∃ (A:Option Addr) (c:Nat) (X:Option Addr) (d:Nat),e=.returned (.tuple #[kK (x.getD O.Ent.zero) A c X d,.bool x.isSome]) ∧
  Row w' w.heap.size 60 2 A (x.getD O.Ent.zero).fs.length c (aI (x.getD O.Ent.zero).fs)∧Row w' w.heap.size 5 1 X (x.getD O.Ent.zero).body.length d (aB (x.getD O.Ent.zero).body)∧Below w.heap.size w w'
theorem uT.none_ {w w':World} {v:Value} (hv:v=kK O.Ent.zero none 0 none 0) (hb:Below w.heap.size w w'):uT w none (.returned (.tuple #[v,.bool false])) w' :=
 ⟨none,0,none,0,by rw[hv];rfl,Row.none_ _ _ _ _,Row.none_ _ _ _ _,hb⟩
def Tabs (w:World):Prop:=kP w∧zY w∧iJ w
theorem Tabs.below {w w':World} (h:Tabs w) (hb:Below w.heap.size w w'):Tabs w':=⟨h.1.below hb,h.2.1.below hb,h.2.2.below hb⟩
theorem aHX (B:Nat) (X:SM) (s:S.Sto) (no m:Nat) (w:World) (h:dU B X s w) (hf:D.Fit m s.d) (hm:m≤268435456) (hn:no < 4096) (ht:Tabs w) :
  Calls Tryz.prog 100 #[.pointer (some ⟨X.st,0,none⟩),.int .i64 no] w (uT w (S.read s.d no)):=by
 have HD:=aH h
 have HTB:=aH ht
 have HP:=aH (fun u=>yL no u hn)
 have HF:=aH hf
 have HS:=aH (hf.sml hm)
 have hps:=nR no
 obtain⟨G,hG⟩:∃ G,S.read s.d no=G:=⟨_,rfl⟩
 have HG:Hid (G=if (s.d.read (S.path no)).2≠0 then none else O.dec (s.d.read (S.path no)).1):=aH hG.symm
 rw[hG]
 generalize S.path no=nm at *
 have hsz:(s.d.read nm).1.length≤1073741824:=by
  have:=hf.size
  unfold D.Dsk.read D.Dsk.size at *
  split
  ·exact zF _
  ·split
   ·exact zF _
   ·split
    ·exact zF _
    ·exact this _
 have HRD:=aH (fun (u:World) (hb:Below w.heap.size w u)=>aEB B X.M s.d nm u (h.below hb).log.disk (hf.sml hm) hf.ok hps)
 obtain⟨R,hR⟩:∃ R,s.d.read nm=R:=⟨_,rfl⟩
 rw[hR]at HRD HG hsz
 obtain⟨bs,code⟩:=R
 dsimp only at HG hsz
 have HK0:=aH (Blk.new w #[.string ⟨#[]⟩,.string ⟨#[]⟩,.int .i64 0,.string ⟨#[]⟩,.int .i64 0,.slice none 0 0,.slice none 0 0,.int .i64 0,.int .i64 0] 41)
 have HB0:=aH ((zB w.heap.size w).alloc (zA _) (.cells #[.string ⟨#[]⟩,.string ⟨#[]⟩,.int .i64 0,.string ⟨#[]⟩,.int .i64 0,.slice none 0 0,.slice none 0 0,.int .i64 0,.int .i64 0] 41))
 clear h hf ht hG hR hps
 go_enter Tryz.func100,Tryz.ntmps100
 go_upto_region 1 with fail
 obtain⟨w0,hw0⟩:∃ w0,w.alloc (.cells #[.string ⟨#[]⟩,.string ⟨#[]⟩,.int .i64 0,.string ⟨#[]⟩,.int .i64 0,.slice none 0 0,.slice none 0 0,.int .i64 0,.int .i64 0] 41)=w0:=⟨_,rfl⟩
 rw[hw0]at HK0 HB0 ⊢
 clear hw0
 have hS0:Below w.heap.size w w0.drew∧Blk w0.drew w.heap.size #[.string ⟨#[]⟩,.string ⟨#[]⟩,.int .i64 0,.string ⟨#[]⟩,.int .i64 0,.slice none 0 0,.slice none 0 0,.int .i64 0,.int .i64 0] 41:=⟨HB0.out.drew,HK0.out.drew⟩
 clear HB0 HK0
 refine wp_region_noPanic ?_
 refine HT.begin (n:=11) (S:=(fun u=>Below w.heap.size w u∧Blk u w.heap.size #[.string ⟨#[]⟩,.string ⟨#[]⟩,.int .i64 0,.string ⟨#[]⟩,.int .i64 0,.slice none 0 0,.slice none 0 0,.int .i64 0,.int .i64 0] 41)) (by kernel_rfl) hS0 ?_
 generalize w0.drew=wd at *
 refine HT.take 0 (.pointer (some ⟨X.st,0,none⟩)) rfl (by kernel_rfl) (fun _ _ _ h=>h) (Or.inl ⟨by rfl,?_⟩) ?_
 ·intro u hu
  go_simp
 refine HT.take 1 (.pointer (some ⟨X.st,0,none⟩)) rfl (by kernel_rfl) (fun _ _ _ h=>h) (Or.inl ⟨by rfl,?_⟩) ?_
 ·intro u hu
  go_simp
 refine HT.take 2 (.pointer (some ⟨X.st,0,none⟩)) rfl (by kernel_rfl) (fun _ _ _ h=>h) (Or.inl ⟨by rfl,?_⟩) ?_
 ·intro u hu
  go_simp
 refine HT.take 3 (.pointer (some ⟨X.M.d,0,none⟩)) rfl (by kernel_rfl) (fun _ _ _ h=>h) (Or.inl ⟨by rfl,?_⟩) ?_
 ·intro u hu
  obtain⟨y0,y1,y2,y3⟩:=(HD.out.below hu.1).cells
  go_simp
 refine HT.take 4 (.int .i64 no) rfl (by kernel_rfl) (fun _ _ _ h=>h) (Or.inl ⟨by rfl,?_⟩) (?_:HT _ _ _ _ _ _ _ ⟨#[.pointer (some ⟨X.st,0,none⟩),.int .i64 no,_,_,_,_,_,_,_,_,.pointer (some ⟨X.st,0,none⟩),.pointer (some ⟨X.st,0,none⟩),.pointer (some ⟨X.st,0,none⟩),.pointer (some ⟨X.M.d,0,none⟩),.int .i64 no,_,_,_,_,_,_,_,_,_,_,_,_,_,_,_],[]⟩ _)
 ·intro u hu
  go_simp
 refine HT.step 5 rfl (by kernel_rfl) (fun hS K hK=>?_)
 go_simp
 refine (HP.out _).mono ?_
 rintro e w5 ⟨rfl,hb⟩
 refine hK.out _ _ ⟨aA hS.1.size hS.1 hb,hS.2.below hb⟩ ?_
 clear hK hS hb
 refine HT.step 6 rfl (by kernel_rfl) (fun hS K hK=>?_)
 go_simp
 refine (HRD.out _ hS.1).mono ?_
 rintro e w2 ⟨A2,c2,rfl,hr2,hb⟩
 dsimp only at hr2 ⊢
 refine hK.out _ _ ⟨aA hS.1.size hS.1 hb,hS.2.below hb⟩ ?_
 have HR2:=aH hr2.rd
 have hc2:=hr2.cap.1
 clear hK hS hb hr2
 refine HT.take 7 (.tuple #[.slice A2 bs.length c2,.int .i64 code]) rfl (by kernel_rfl) (fun _ _ _ h=>h) (Or.inl ⟨by rfl,?_⟩) ?_
 ·intro u hu
  go_simp
 refine HT.take 8 (.slice A2 bs.length c2) rfl (by kernel_rfl) (fun _ _ _ h=>h) (Or.inl ⟨by rfl,?_⟩) ?_
 ·intro u hu
  go_simp
 refine HT.take 9 (.int .i64 code) rfl (by kernel_rfl) (fun _ _ _ h=>h) (Or.inl ⟨by rfl,?_⟩) ?_
 ·intro u hu
  go_simp
 refine HT.take 10 (.slice A2 bs.length c2) rfl (by kernel_rfl) (fun _ _ _ h=>h) (Or.inl ⟨by rfl,?_⟩) (?_:HT _ _ _ _ _ _ _ ⟨#[.pointer (some ⟨X.st,0,none⟩),.int .i64 no,_,_,_,_,.slice A2 bs.length c2,_,_,.tuple #[.slice A2 bs.length c2,.int .i64 code],.pointer (some ⟨X.st,0,none⟩),.pointer (some ⟨X.st,0,none⟩),.pointer (some ⟨X.st,0,none⟩),.pointer (some ⟨X.M.d,0,none⟩),.int .i64 no,.string nm,.tuple #[.slice A2 bs.length c2,.int .i64 code],.slice A2 bs.length c2,.int .i64 code,_,_,_,_,_,_,_,_,_,_,_],[]⟩ _)
 ·intro u hu
  go_simp
 refine HT.tail _ rfl rfl (by kernel_rfl) (fun hS=>?_)
 have HB2:=aH hS.1
 have HK2:=aH hS.2
 clear hS hS0 HRD
 by_cases hcd:code=0
 rotate_left
 ·have hcb:(code != 0)=true:=by simpa using hcd
  rw[if_pos hcd]at HG
  obtain⟨a0,a1,a2,a3,a4,a5,a6,a7,a8⟩:=HK2.out.cells9
  obtain⟨g0,g1,g2,g3,g4,g5,g6,g7,g8⟩:=HK2.out.free9
  go_wp2
  refine NoPanic.normal ?_
  go_wp2
  obtain⟨z0,z1,z2,z3,z4,z5,z6,z7,z8⟩:=(HK2.out.set9 (.string ⟨#[]⟩) (.string ⟨#[]⟩) (.int .i64 0) (.string ⟨#[]⟩) (.int .i64 0) (.slice none 0 0) (.slice none 0 0) (.int .i64 0) (.int .i64 0)).cells9
  unfold nine at z0 z1 z2 z3 z4 z5 z6 z7 z8
  refine bK (v:=.tuple #[.agg #[.string ⟨#[]⟩,.string ⟨#[]⟩,.int .i64 0,.string ⟨#[]⟩,.int .i64 0,.slice none 0 0,.slice none 0 0,.int .i64 0,.int .i64 0],.bool false]) (by simp [results,Tryz.results100,go_sem,z0,z1,z2,z3,z4,z5,z6,z7,z8]) rfl ?_
  rw[HG.out]
  exact uT.none_ rfl (aK HB2.out (zA _) _ _ _ _ _ _ _ _ _)
 subst hcd
 rw[if_neg (by simp)]at HG
 have HDE:=aH (aC5 A2 c2 bs w2 hsz hc2 HR2.out (HTB.out.below HB2.out).1 (HTB.out.below HB2.out).2.1 (HTB.out.below HB2.out).2.2)
 go_wp2
 refine NoPanic.normal ?_
 go_wp2_with fail
 refine HDE.out.mono ?_
 rintro e w3 (⟨E,A3,c3,X3,d3,hd,rfl,hr3,hx3,hb3⟩ | ⟨hd,rfl,hb3⟩)
 ·have HG3:=aH (HG.out.trans hd)
  have HB4:=aH ((aA HB2.out.size HB2.out hb3).alloc (bD HB2.out.size hb3.size) (.cells #[.string E.k,.string E.v,.int .i64 E.s,.string E.r,.int .i64 E.m,.slice A3 E.fs.length c3,.slice X3 E.body.length d3,.int .i64 E.asked,.int .i64 E.got] 41))
  have HK4:=aH ((HK2.out.below hb3).alloc (.cells #[.string E.k,.string E.v,.int .i64 E.s,.string E.r,.int .i64 E.m,.slice A3 E.fs.length c3,.slice X3 E.body.length d3,.int .i64 E.asked,.int .i64 E.got] 41))
  have HN4:=aH (Blk.new w3 #[.string E.k,.string E.v,.int .i64 E.s,.string E.r,.int .i64 E.m,.slice A3 E.fs.length c3,.slice X3 E.body.length d3,.int .i64 E.asked,.int .i64 E.got] 41)
  have HF4:=aH ((hr3.mono HB2.out.size).alloc (.cells #[.string E.k,.string E.v,.int .i64 E.s,.string E.r,.int .i64 E.m,.slice A3 E.fs.length c3,.slice X3 E.body.length d3,.int .i64 E.asked,.int .i64 E.got] 41))
  have HX4:=aH ((hx3.mono HB2.out.size).alloc (.cells #[.string E.k,.string E.v,.int .i64 E.s,.string E.r,.int .i64 E.m,.slice A3 E.fs.length c3,.slice X3 E.body.length d3,.int .i64 E.asked,.int .i64 E.got] 41))
  clear hb3 hd HDE HG HB2 HK2 HR2 hr3 hx3
  go_upto_region 5 with fail
  generalize w3.alloc (.cells #[.string E.k,.string E.v,.int .i64 E.s,.string E.r,.int .i64 E.m,.slice A3 E.fs.length c3,.slice X3 E.body.length d3,.int .i64 E.asked,.int .i64 E.got] 41)=w4 at *
  generalize w3.heap.size=b4 at *
  obtain⟨x0,x1,x2,x3,x4,x5,x6,x7,x8⟩:=HN4.out.cells9
  obtain⟨a0,a1,a2,a3,a4,a5,a6,a7,a8⟩:=HK4.out.cells9
  obtain⟨g0,g1,g2,g3,g4,g5,g6,g7,g8⟩:=HK4.out.free9
  go_wp2
  obtain⟨z0,z1,z2,z3,z4,z5,z6,z7,z8⟩:=(HK4.out.set9 (.string E.k) (.string E.v) (.int .i64 E.s) (.string E.r) (.int .i64 E.m) (.slice A3 E.fs.length c3) (.slice X3 E.body.length d3) (.int .i64 E.asked) (.int .i64 E.got)).cells9
  unfold nine at z0 z1 z2 z3 z4 z5 z6 z7 z8
  refine bK (v:=.tuple #[.agg #[.string E.k,.string E.v,.int .i64 E.s,.string E.r,.int .i64 E.m,.slice A3 E.fs.length c3,.slice X3 E.body.length d3,.int .i64 E.asked,.int .i64 E.got],.bool true]) (by simp [results,Tryz.results100,go_sem,z0,z1,z2,z3,z4,z5,z6,z7,z8]) rfl ?_
  rw[HG3.out]
  exact⟨A3,c3,X3,d3,rfl,HF4.out.farT9 HK4.out aNB _ _ _ _ _ _ _ _ _,HX4.out.farT9 HK4.out aNA _ _ _ _ _ _ _ _ _,aK HB4.out (zA _) _ _ _ _ _ _ _ _ _⟩
 ·have HG3:=aH (HG.out.trans hd)
  have HB4:=aH ((aA HB2.out.size HB2.out hb3).alloc (bD HB2.out.size hb3.size) (.cells #[.string ⟨#[]⟩,.string ⟨#[]⟩,.int .i64 0,.string ⟨#[]⟩,.int .i64 0,.slice none 0 0,.slice none 0 0,.int .i64 0,.int .i64 0] 41))
  have HK4:=aH ((HK2.out.below hb3).alloc (.cells #[.string ⟨#[]⟩,.string ⟨#[]⟩,.int .i64 0,.string ⟨#[]⟩,.int .i64 0,.slice none 0 0,.slice none 0 0,.int .i64 0,.int .i64 0] 41))
  have HN4:=aH (Blk.new w3 #[.string ⟨#[]⟩,.string ⟨#[]⟩,.int .i64 0,.string ⟨#[]⟩,.int .i64 0,.slice none 0 0,.slice none 0 0,.int .i64 0,.int .i64 0] 41)
  clear hb3 hd HDE HG HB2 HK2 HR2
  go_upto_region 5 with fail
  generalize w3.alloc (.cells #[.string ⟨#[]⟩,.string ⟨#[]⟩,.int .i64 0,.string ⟨#[]⟩,.int .i64 0,.slice none 0 0,.slice none 0 0,.int .i64 0,.int .i64 0] 41)=w4 at *
  generalize w3.heap.size=b4 at *
  obtain⟨x0,x1,x2,x3,x4,x5,x6,x7,x8⟩:=HN4.out.cells9
  obtain⟨a0,a1,a2,a3,a4,a5,a6,a7,a8⟩:=HK4.out.cells9
  obtain⟨g0,g1,g2,g3,g4,g5,g6,g7,g8⟩:=HK4.out.free9
  go_wp2
  obtain⟨z0,z1,z2,z3,z4,z5,z6,z7,z8⟩:=(HK4.out.set9 (.string ⟨#[]⟩) (.string ⟨#[]⟩) (.int .i64 0) (.string ⟨#[]⟩) (.int .i64 0) (.slice none 0 0) (.slice none 0 0) (.int .i64 0) (.int .i64 0)).cells9
  unfold nine at z0 z1 z2 z3 z4 z5 z6 z7 z8
  refine bK (v:=.tuple #[.agg #[.string ⟨#[]⟩,.string ⟨#[]⟩,.int .i64 0,.string ⟨#[]⟩,.int .i64 0,.slice none 0 0,.slice none 0 0,.int .i64 0,.int .i64 0],.bool false]) (by simp [results,Tryz.results100,go_sem,z0,z1,z2,z3,z4,z5,z6,z7,z8]) rfl ?_
  rw[HG3.out]
  exact uT.none_ rfl (aK HB4.out (zA _) _ _ _ _ _ _ _ _ _)
theorem aK4 (B:Nat) (X:SM) (s:S.Sto) (id:ByteArray) (m:Nat) (w:World) (h:dU B X s w) (hf:D.Fit m s.d) (hm:m≤268435456) (hn:∀ p∈s.tab,p.2 < 4096) (hi:id.size≤1099511627776) (ht:Tabs w) :
  Calls Tryz.prog 65 #[.pointer (some ⟨X.st,0,none⟩),.string id] w (uT w (s.get id)):=by
 have HD:=aH h
 have HTB:=aH ht
 have HG:Hid (s.get id=match D.find s.tab id with | none=>none | some no=>S.read s.d no):=aH rfl
 have HRD:=aH (fun (no:Nat) (u:World) (hb:Below w.heap.size w u) (hno:no < 4096)=>aHX B X s no m u (h.below hb) hf hm hno (ht.below hb))
 have hno:∀ no,D.find s.tab id=some no→no < 4096:=fun no hfd=>hn _ (D.aN hfd)
 have HK0:=aH (Blk.new w #[.string ⟨#[]⟩,.string ⟨#[]⟩,.int .i64 0,.string ⟨#[]⟩,.int .i64 0,.slice none 0 0,.slice none 0 0,.int .i64 0,.int .i64 0] 41)
 have hb0:Below w.heap.size w (w.alloc (.cells #[.string ⟨#[]⟩,.string ⟨#[]⟩,.int .i64 0,.string ⟨#[]⟩,.int .i64 0,.slice none 0 0,.slice none 0 0,.int .i64 0,.int .i64 0] 41)):=(zB _ _).alloc (zA _) _
 have HB0:=aH hb0
 have hlk:=aHQ (HD.out.below hb0).tab id (by simp only[maxLen];omega)
 obtain⟨y0,y1,y2,y3⟩:=(HD.out.below hb0).cells
 clear h hf ht hb0 y0 y1 y3
 go_enter Tryz.func65,Tryz.ntmps65
 go_upto_region 1 with fail
 obtain⟨w0,hw0⟩:∃ w0,w.alloc (.cells #[.string ⟨#[]⟩,.string ⟨#[]⟩,.int .i64 0,.string ⟨#[]⟩,.int .i64 0,.slice none 0 0,.slice none 0 0,.int .i64 0,.int .i64 0] 41)=w0:=⟨_,rfl⟩
 rw[hw0]at HK0 HB0 hlk y2 ⊢
 clear hw0
 cases hfd:D.find s.tab id with
 | none =>
  rw[hfd]at hlk HG
  simp only[Option.getD_none,Option.isSome_none]at hlk
  obtain⟨a0,a1,a2,a3,a4,a5,a6,a7,a8⟩:=HK0.out.cells9
  obtain⟨g0,g1,g2,g3,g4,g5,g6,g7,g8⟩:=HK0.out.free9
  go_wp2
  obtain⟨z0,z1,z2,z3,z4,z5,z6,z7,z8⟩:=(HK0.out.set9 (.string ⟨#[]⟩) (.string ⟨#[]⟩) (.int .i64 0) (.string ⟨#[]⟩) (.int .i64 0) (.slice none 0 0) (.slice none 0 0) (.int .i64 0) (.int .i64 0)).cells9
  unfold nine at z0 z1 z2 z3 z4 z5 z6 z7 z8
  refine bK (v:=.tuple #[.agg #[.string ⟨#[]⟩,.string ⟨#[]⟩,.int .i64 0,.string ⟨#[]⟩,.int .i64 0,.slice none 0 0,.slice none 0 0,.int .i64 0,.int .i64 0],.bool false]) (by simp [results,Tryz.results65,go_sem,z0,z1,z2,z3,z4,z5,z6,z7,z8]) rfl ?_
  rw[HG.out]
  exact uT.none_ rfl (aK HB0.out (zA _) _ _ _ _ _ _ _ _ _)
 | some no =>
  rw[hfd]at hlk HG
  simp only[Option.getD_some,Option.isSome_some]at hlk
  have HR0:=aH (HRD.out no w0 HB0.out (hno no hfd))
  clear hno hfd HRD
  go_wp2_with fail
  refine HR0.out.mono ?_
  rintro e w3 ⟨A3,c3,X3,d3,rfl,hr3,hx3,hb3⟩
  unfold kK
  have hrd:S.read s.d no=s.get id:=HG.out.symm
  rw[hrd]at hr3 hx3 ⊢
  obtain⟨F,hF⟩:∃ F,(s.get id).getD O.Ent.zero=F:=⟨_,rfl⟩
  obtain⟨ok,hok⟩:∃ ok,(s.get id).isSome=ok:=⟨_,rfl⟩
  have HFE:=aH hF
  have HOK:=aH hok
  rw[hF]at hr3 hx3 ⊢
  rw[hok]
  have HB3:=aH (aA HB0.out.size HB0.out hb3)
  have HK3:=aH (HK0.out.below hb3)
  have HF3:=aH (hr3.mono HB0.out.size)
  have HX3:=aH (hx3.mono HB0.out.size)
  clear hb3 hr3 hx3 HR0 HB0 HK0 hlk y2 hrd hF hok HG
  obtain⟨a0,a1,a2,a3,a4,a5,a6,a7,a8⟩:=HK3.out.cells9
  obtain⟨g0,g1,g2,g3,g4,g5,g6,g7,g8⟩:=HK3.out.free9
  go_wp2
  obtain⟨z0,z1,z2,z3,z4,z5,z6,z7,z8⟩:=(HK3.out.set9 (.string F.k) (.string F.v) (.int .i64 F.s) (.string F.r) (.int .i64 F.m) (.slice A3 F.fs.length c3) (.slice X3 F.body.length d3) (.int .i64 F.asked) (.int .i64 F.got)).cells9
  unfold nine at z0 z1 z2 z3 z4 z5 z6 z7 z8
  refine bK (v:=.tuple #[.agg #[.string F.k,.string F.v,.int .i64 F.s,.string F.r,.int .i64 F.m,.slice A3 F.fs.length c3,.slice X3 F.body.length d3,.int .i64 F.asked,.int .i64 F.got],.bool ok]) (by simp [results,Tryz.results65,go_sem,z0,z1,z2,z3,z4,z5,z6,z7,z8]) rfl ?_
  exact⟨A3,c3,X3,d3,by unfold kK;rw[HFE.out,HOK.out],by rw[HFE.out];exact HF3.out.farT9 HK3.out aNB _ _ _ _ _ _ _ _ _,by rw[HFE.out];exact HX3.out.farT9 HK3.out aNA _ _ _ _ _ _ _ _ _,aK HB3.out (zA _) _ _ _ _ _ _ _ _ _⟩
theorem aOG {B:Nat} {X:SM} {s:S.Sto} {w w1:World} {id:ByteArray} {no n:Nat} (h:dU B X s w) (hm:w1.ownsMap Tryz.prog 9 S.wV X.tb n ((S.qU s.tab).put (D.key id) (.lit (.int .i64 no)))) (hg:w.grownBy w1 (some X.tb)) (hn:no < s.used.length) :
  ∃ g,dU B X (s.took no id) (w1.setCell ⟨g,no,none⟩ (.bool true))∧aO (X.foot s) w (X.foot (s.took no id)) (w1.setCell ⟨g,no,none⟩ (.bool true))∧w1.cell? ⟨X.st,3,none⟩=some (.slice (some ⟨g,0,none⟩) s.used.length X.uc)∧w1.frozen? ⟨g,no,none⟩=false∧w1.cell? ⟨g,no,none⟩=some (.bool (s.used.getD no false)):=by
 unfold S.qU at hm
 rw[D.mX (fun n=>n)]at hm
 have h1:w1.ownsMap Tryz.prog 9 S.wV X.tb (D.put s.tab id no).length (S.qU (D.put s.tab id no)):=aAK hm
 obtain⟨h2,hw2⟩:=h.tabbed h1 hg
 obtain⟨g,hU,hf,hc,h3,hw3⟩:=h2.marked (no:=no) hn true
 obtain⟨y0,y1,y2,y3⟩:=h2.cells
 dsimp only at hU y3 hc
 rw[hU]at y3
 exact⟨g,h3,hw2.trans hw3,y3,hf,hc⟩
theorem aK2 (B:Nat) (X:SM) (s:S.Sto) (E:O.Ent) (m:Nat) (A:Option Addr) (c:Nat) (Xb:Option Addr) (dd:Nat) (w:World) (h:dU B X s w) (hf:D.Fit m s.d) (hm:m≤134000000) (hu:D.Up s.tab) (hl:s.tab.length≤262144) (hz:∀ p∈s.tab,p.1.size≤1048576) (hc:s.count≤549755813888)
  (hlen:s.used.length≤4096) (htab:∀ p∈s.tab,p.2 < s.used.length) (hr:E.r.size≤1073741824) (hb:F.bulk E.fs≤1073741824) (hk:E.k.size≤1073741824) (hv:E.v.size≤1073741824) (hx:Rd w A E.fs.length 2 (aI E.fs)) (hX:Rd w Xb E.body.length 1 (aB E.body)) (ht:iJ w) :
  Calls Tryz.prog 35 #[.pointer (some ⟨X.st,0,none⟩),kK E A c Xb dd] w (xP B X s w (s.put E).1 (.int .i64 (s.put E).2)):=by
 have HD:=aH h
 have HF:=aH hf
 have HU:=aH hu
 have HZ:=aH hz
 have HTB:=aH htab
 have HEN:=aH (fun (u:World) (hu:Below w.heap.size w u)=>iZ E.k E.v E.s E.r E.m A c E.fs Xb dd E.body E.asked E.got u hr hb (hx.below hu) (hX.below hu) (ht.below hu))
 have HID:=aH (fun (u:World)=>aNF E.k E.v u hk hv)
 have henl:(S.gY E).length≤1099511627776:=by
  unfold S.gY
  rcases O.qR E.k E.v E.s E.r E.m E.fs E.body E.asked E.got with ⟨_,h2⟩ | ⟨_,h2⟩
  ·have h3:=(O.nI (O.gU h2).1 (O.gU h2).2.1).len.2
   omega
  ·rw[h2];exact zF _
 obtain⟨G,hG⟩:∃ G,s.put E=G:=⟨_,rfl⟩
 have HG:Hid (G=if S.iG E≠0 then (s,S.iG E) else if 4096 < (S.aV E).size then (s,101) else
   match s.used.findIdx? (fun x=>decide (x=false)) with
   | none=>(s,130)
   | some no=>s.entered no (S.aV E) (S.lay s.d (S.path no) (S.gY E))):=aH hG.symm
 rw[hG]
 have e1:sW E.k E.v E.s E.r E.m E.fs E.body E.asked E.got=S.gY E:=rfl
 have e2:yO E.k E.v E.s E.r E.m E.fs E.body.length E.asked E.got=S.iG E:=rfl
 have e3:E.k++⟨#[10]⟩++E.v=S.aV E:=rfl
 rw[e1,e2]at HEN
 rw[e3]at HID
 have HK0:=aH (Blk.new w #[.string E.k,.string E.v,.int .i64 E.s,.string E.r,.int .i64 E.m,.slice A E.fs.length c,.slice Xb E.body.length dd,.int .i64 E.asked,.int .i64 E.got] 41)
 have HB0:=aH ((zB w.heap.size w).alloc (zA _) (.cells #[.string E.k,.string E.v,.int .i64 E.s,.string E.r,.int .i64 E.m,.slice A E.fs.length c,.slice Xb E.body.length dd,.int .i64 E.asked,.int .i64 E.got] 41))
 clear h hf hu hz htab hx hX ht hG e1 e2 e3
 unfold kK
 go_enter Tryz.func35,Tryz.ntmps35
 go_upto_region 1 with fail
 generalize w.alloc (.cells #[.string E.k,.string E.v,.int .i64 E.s,.string E.r,.int .i64 E.m,.slice A E.fs.length c,.slice Xb E.body.length dd,.int .i64 E.asked,.int .i64 E.got] 41)=w0 at *
 generalize S.iG E=code at *
 generalize S.gY E=bs at *
 generalize S.aV E=id at *
 obtain⟨x0,x1,x2,x3,x4,x5,x6,x7,x8⟩:=HK0.out.cells9
 go_wp2_with fail
 clear x0 x1 x2 x3 x4 x5 x6 x7 x8
 refine (HEN.out _ HB0.out).mono ?_
 rintro e w1 ⟨A1,c1,rfl,hr1,hb1⟩
 have HB1:=aH (aA HB0.out.size HB0.out hb1)
 have HK1:=aH (HK0.out.below hb1)
 have HR1:=aH (hr1.mono HB0.out.size)
 clear hb1 hr1 HEN HB0 HK0
 by_cases h0:code=0
 rotate_left
 ·rw[if_pos h0]at HG
  have h0b:(code != 0)=true:=by simpa using h0
  go_wp2
  go_ret
  exact⟨by rw[HG.out]<;>rfl,X,by rw[HG.out];exact HD.out.below HB1.out,by rw[HG.out];exact aO.below HB1.out _,rfl,rfl,rfl⟩
 subst h0
 rw[if_neg (by simp)]at HG
 obtain⟨x0,x1,x2,x3,x4,x5,x6,x7,x8⟩:=HK1.out.cells9
 clear x2 x3 x4 x5 x6 x7 x8
 go_wp2_with fail
 clear x0 x1
 refine (HID.out _).mono ?_
 rintro e w2 ⟨rfl,hb2⟩
 have HB2:=aH (aA HB1.out.size HB1.out hb2)
 have HR2:=aH (HR1.out.below hb2)
 have HD2:=aH (HD.out.below HB2.out)
 have HW2:Hid (aO (X.foot s) w (X.foot s) w2):=aH (aO.below HB2.out _)
 have hoff:0 < bs.length→∀ a,A1=some a→¬ X.foot s a.block:=by
  intro hn a ha hfo
  have h1:=HR2.out.2.1
  rcases HR2.out.2.2 with h2 | ⟨g,h2,hB,_⟩
  ·omega
  ·rw[ha]at h2
   cases h2
   have:=HD.out.lt hfo
   dsimp only at this
   omega
 have HOFF:=aH hoff
 have HIX:=aH (aGF X.U s.used.length X.uc s.used w2 (by omega) rfl HD2.out.used.rd)
 obtain⟨y0,y1,y2,y3⟩:=HD2.out.cells
 clear y0 y1 y2 hb2 HID HB1 HK1 HR1 HD HB2 hoff
 go_wp2_with fail
 refine HIX.out.mono ?_
 rintro e w3 ⟨rfl,rfl⟩
 obtain⟨kx,hkx⟩:∃ kx,S.idxF s.used=kx:=⟨_,rfl⟩
 rw[hkx]
 clear y3 HIX
 by_cases hid4:4096 < id.size
 ·rw[if_pos hid4]at HG
  have hidi:(id.size:Int) > 4096:=by omega
  go_wp2
  go_ret
  exact⟨by rw[HG.out]<;>rfl,X,by rw[HG.out];exact HD2.out,by rw[HG.out];exact HW2.out,rfl,rfl,rfl⟩
 rw[if_neg hid4]at HG
 have hidi:¬ (id.size:Int) > 4096:=by omega
 cases hfi:s.used.findIdx? (fun x=>decide (x=false)) with
 | none =>
  rw[hfi]at HG
  obtain rfl:kx=-1:=hkx.symm.trans (S.idxF_none hfi)
  go_wp2
  go_ret
  exact⟨by rw[HG.out]<;>rfl,X,by rw[HG.out];exact HD2.out,by rw[HG.out];exact HW2.out,rfl,rfl,rfl⟩
 | some no =>
 rw[hfi]at HG
 obtain rfl:kx=(no:Int):=hkx.symm.trans (S.idxF_some hfi)
 clear hkx
 dsimp only at HG ⊢
 have hno:no < s.used.length:=by
  rw[List.findIdx?_eq_some_iff_getElem]at hfi
  exact hfi.1
 have hno4:no < 4096:=by omega
 have hnoi:¬ (no:Int) < 0:=by omega
 have HCN:=aH (count_any B X.lg X.M s.d s.count w2 HD2.out.log)
 have HP:=aH (fun u=>yL no u hno4)
 have hps:=nR no
 obtain⟨nm,hnm⟩:∃ nm,nm=S.path no:=⟨_,rfl⟩
 have HNM:=aH hnm
 rw[← hnm]at HP hps HG
 obtain⟨y0,y1,y2,y3⟩:=HD2.out.cells
 clear hfi hnm y0 y2 y3
 go_wp2_with fail
 refine HCN.out.mono ?_
 rintro e w3 ⟨rfl,rfl⟩
 clear y1 HCN
 go_wp2_with fail
 refine (HP.out _).mono ?_
 rintro e w3 ⟨rfl,hb3⟩
 have HD3:=aH (HD2.out.below hb3)
 have HW3:=aH (HW2.out.trans (aO.below hb3 _))
 have HLA:=aH (aK3 B X s m nm A1 bs.length c1 bs w3 HD3.out HF.out (by omega) hps rfl henl (HR2.out.below hb3).rd HOFF.out)
 clear hb3 HD2 HW2 HR2
 go_wp2_with fail
 refine HLA.out.mono ?_
 rintro e w4 ⟨rfl,M4,h4,hw4,hm4⟩
 obtain⟨Y,hY⟩:∃ Y,S.lay s.d nm bs=Y:=⟨_,rfl⟩
 have hF4:=S.aIS HF.out nm bs
 rw[hY]at h4 hw4 HG hF4 ⊢
 obtain⟨d4,cr,e4⟩:=Y
 dsimp only at h4 hw4 hF4 ⊢
 have HD4:=aH h4
 have HW4:=aH (HW3.out.trans hw4)
 have HM4:=aH hm4
 have HF4:=aH hF4
 clear h4 hw4 hm4 hF4 hY HLA HD3 HW3 HOFF henl
 obtain⟨Y5,hY5⟩:∃ Y5:D.Dsk × Nat × Int,Y5=if e4=0 then S.add d4 s.count 1 no id else (d4,s.count,e4):=⟨_,rfl⟩
 have HY5:=aH hY5
 have hF5:D.Fit (m+7) Y5.1:=by
  rw[hY5]
  split
  ·exact S.zV HF4.out _ _ _ _
  ·exact HF4.out.mono (by omega)
 have HF5:=aH hF5
 have hcnt5:Y5.2.1=s.count∨Y5.2.1=s.count+1:=by
  rw[hY5]
  split
  ·unfold S.add
   split
   ·exact .inl rfl
   ·split
    ·exact .inl rfl
    ·exact .inr rfl
  ·exact .inl rfl
 have HG5:Hid (G=if Y5.2.1=s.count then (({ s with d:=if cr then (Y5.1.remove nm).1 else Y5.1 }:S.Sto),Y5.2.2) else (((({ s with d:=Y5.1,count:=Y5.2.1 }:S.Sto).freed id).took no id).tidy,Y5.2.2)):=aH (by
  rw[HG.out,hY5,HNM.out]
  rfl)
 clear hY5 hF5 HG
 have hid2:id.size≤2147483648:=by omega
 go_upto_if 52 with fail
 go_cut [6] (fun s6 wx=>s6=.int .i64 Y5.2.2∧∃ M5,dU B { X with M:=M5 } { s with d:=Y5.1,count:=Y5.2.1 } wx∧aO (X.foot s) w (({ X with M:=M5 }:SM).foot { s with d:=Y5.1,count:=Y5.2.1 }) wx∧M5.d=X.M.d)
 case first =>
  by_cases h4:e4=0
  ·subst h4
   rw[if_pos rfl]at HY5
   have HAD:=aH (add_any B X.lg M4 d4 s.count (m+5) 1 no id w4 HD4.out.log HF4.out (by omega) (by omega) hid2)
   obtain⟨y0,y1,y2,y3⟩:=HD4.out.cells
   dsimp only at y1
   clear y0 y2 y3
   go_wp2_with fail
   refine HAD.out.mono ?_
   rintro e w5 ⟨rfl,M5,h5,hw5,hm5⟩
   obtain⟨h6,hw6⟩:=HD4.out.logged h5 hw5 hm5
   have HD6:=aH h6
   have HW6:=aH (HW4.out.trans hw6)
   have HM6:=aH (hm5.trans HM4.out)
   clear h5 hw5 hm5 h6 hw6 HAD y1 HG5
   go_wp2
   go_meet
   exact⟨by rw[HY5.out],M5,by rw[HY5.out];exact HD6.out,by rw[HY5.out];exact HW6.out,HM6.out⟩
  ·rw[if_neg h4]at HY5
   have h4b:(e4==0)=false:=beq_eq_false_iff_ne.2 h4
   go_wp2
   go_meet
   exact⟨by rw[HY5.out],M4,by rw[HY5.out];exact HD4.out,by rw[HY5.out];exact HW4.out,HM4.out⟩
 case rest =>
  obtain⟨rfl,M5,hd5,hw5,hm5⟩:=hcut
  obtain⟨d5,n5,e5⟩:=Y5
  dsimp only at hd5 hw5 HF5 hcnt5 HG5 ⊢
  have HD5:=aH hd5
  have HW5:=aH hw5
  have HM5:=aH hm5
  have HCN:=aH (count_any B X.lg M5 d5 n5 wc hd5.log)
  obtain⟨y0,y1,y2,y3⟩:=hd5.cells
  dsimp only at y0 y1 y2 y3
  clear hd5 hw5 hm5 HD4 HW4 HM4 HF4 HY5
  go_wp2_with fail
  refine HCN.out.mono ?_
  rintro e w6 ⟨rfl,rfl⟩
  clear HCN
  by_cases hn5:n5=s.count
  ·rw[if_pos hn5]at HG5
   have hnb:((n5:Int)==(s.count:Int))=true:=by rw[hn5];exact beq_self_eq_true _
   cases cr
   ·rw[if_neg (by decide)]at HG5
    have HS5:Hid (({ s with d:=d5,count:=n5 }:S.Sto)={ s with d:=d5 }):=aH (by rw[hn5])
    rw[HS5.out]at HD5 HW5
    go_wp2
    go_ret
    exact⟨by rw[HG5.out]<;>rfl,{ X with M:=M5 },by rw[HG5.out];exact HD5.out,by rw[HG5.out];exact HW5.out,rfl,HM5.out,rfl⟩
   ·rw[if_pos rfl]at HG5
    have HRM:=aH (fun (u:World) (hb:Below wc.heap.size wc u)=>kC B M5 d5 nm u (HD5.out.below hb).log.disk (HF5.out.sml (by omega)) hps)
    have hS0:Below wc.heap.size wc wc.drew:=(zB _ _).drew
    go_upto_region 16 with fail
    refine wp_region_noPanic ?_
    refine HT.begin (n:=6) (S:=(fun u=>Below wc.heap.size wc u)) (by kernel_rfl) hS0 ?_
    generalize wc.drew=wd at *
    refine HT.take 0 (.pointer (some ⟨X.st,0,none⟩)) rfl (by kernel_rfl) (fun _ _ _ h=>h) (Or.inl ⟨by rfl,?_⟩) ?_
    ·intro u hu
     go_simp
    refine HT.take 1 (.pointer (some ⟨X.st,0,none⟩)) rfl (by kernel_rfl) (fun _ _ _ h=>h) (Or.inl ⟨by rfl,?_⟩) ?_
    ·intro u hu
     go_simp
    refine HT.take 2 (.pointer (some ⟨X.st,0,none⟩)) rfl (by kernel_rfl) (fun _ _ _ h=>h) (Or.inl ⟨by rfl,?_⟩) ?_
    ·intro u hu
     go_simp
    refine HT.take 3 (.pointer (some ⟨M5.d,0,none⟩)) rfl (by kernel_rfl) (fun _ _ _ h=>h) (Or.inl ⟨by rfl,?_⟩) ?_
    ·intro u hu
     obtain⟨y0,y1,y2,y3⟩:=(HD5.out.below hu).cells
     dsimp only at y0
     go_simp
    refine HT.take 4 (.int .i64 no) rfl (by kernel_rfl) (fun _ _ _ h=>h) (Or.inl ⟨by rfl,?_⟩) (?_:HT _ _ _ _ _ _ _ ⟨#[.pointer (some ⟨X.st,0,none⟩),_,_,_,_,_,_,_,.int .i64 no,_,_,_,_,_,_,_,_,_,_,_,_,_,_,_,_,_,_,_,_,_,_,_,_,_,_,_,_,_,_,_,_,_,_,_,_,_,_,_,_,_,_,_,_,_,_,_,_,_,_,_,_,_,_,_,_,_,_,_,.pointer (some ⟨X.st,0,none⟩),.pointer (some ⟨X.st,0,none⟩),.pointer (some ⟨X.st,0,none⟩),.pointer (some ⟨M5.d,0,none⟩),.int .i64 no,_,_,_,_,_,_,_,_,_,_,_,_,_,_,_,_,_,_,_,_,_,_,_,_,_,_,_,_,_,_,_],[]⟩ _)
    ·intro u hu
     go_simp
    refine HT.step 5 rfl (by kernel_rfl) (fun hS K hK=>?_)
    go_simp
    refine (HP.out _).mono ?_
    rintro e w7 ⟨rfl,hb⟩
    refine hK.out _ _ (aA hS.size hS hb) ?_
    clear hK hS hb
    refine HT.tail _ rfl rfl (by kernel_rfl) (fun hS=>?_)
    have HB7:=aH hS
    clear hS hS0
    have HD7:=aH (HD5.out.below HB7.out)
    go_wp2_with fail
    refine (HRM.out _ HB7.out).mono ?_
    rintro e w8 hr8
    obtain⟨rfl,M8,h8,hw8,hm8⟩:=aY.sto HD7.out hr8
    have HW8:=aH (HW5.out.trans ((aO.below HB7.out _).trans hw8))
    have HD8:=aH h8
    have HM8:=aH (hm8.trans HM5.out)
    clear hr8 h8 hw8 hm8 HRM HD7
    go_wp2
    refine NoPanic.normal ?_
    go_wp2
    go_ret
    have hse:({ s with d:=(d5.remove nm).1,count:=n5 }:S.Sto)={ s with d:=(d5.remove nm).1 }:=by rw[hn5]
    exact⟨by rw[HG5.out]<;>rfl,{ X with M:=M8 },by rw[HG5.out,← hse];exact HD8.out,by rw[HG5.out,← hse];exact HW8.out,rfl,HM8.out,rfl⟩
  ·rw[if_neg hn5]at HG5
   have hn51:n5=s.count+1:=by omega
   have hnb:((n5:Int)==(s.count:Int))=false:=beq_eq_false_iff_ne.2 (by omega)
   obtain⟨s5,hs5⟩:∃ s5:S.Sto,s5={ s with d:=d5,count:=n5 }:=⟨_,rfl⟩
   have h5t:s5.tab=s.tab:=by rw[hs5]
   have h5u:s5.used=s.used:=by rw[hs5]
   have h5c:s5.count=n5:=by rw[hs5]
   have h5d:s5.d=d5:=by rw[hs5]
   rw[← hs5]at HD5 HW5 HG5
   have HFR:=aH (fun (old:Nat) (h1:old < s5.used.length) (h2:old < 4096)=>aEU B { X with M:=M5 } s5 old (m+7) wc HD5.out (by rw[h5d];exact HF5) (by omega) h1 h2)
   have HF6:Hid (D.Fit (m+8) (s5.freed id).d):=aH (by
    unfold S.Sto.freed
    split
    ·exact S.qO (by rw[h5d];exact HF5) _
    ·rw[h5d];exact HF5.mono (by omega))
   have h6t:(s5.freed id).tab=s.tab:=by
    unfold S.Sto.freed
    split<;>exact h5t
   have h6u:(s5.freed id).used.length=s.used.length:=by
    unfold S.Sto.freed
    split
    ·show (s5.used.set _ false).length=_
     rw[List.length_set,h5u]
    ·rw[h5u]
   have h6c:(s5.freed id).count=n5:=by
    unfold S.Sto.freed
    split<;>exact h5c
   have hlk:=aHQ HD5.out.tab id (by simp only[maxLen];omega)
   rw[h5t]at hlk
   dsimp only at hlk
   clear hs5 HP y0 y1 y3
   go_upto_if 85 with fail
   go_cut [11,12] (fun s11 s12 wx=>∃ X6,dU B X6 (s5.freed id) wx∧aO (X.foot s) w (X6.foot (s5.freed id)) wx∧X6.st=X.st∧X6.M.d=X.M.d∧X6.lg=X.lg)
   case first =>
    cases hfd:D.find s.tab id with
    | none =>
     have HE:Hid (s5.freed id=s5):=aH (by unfold S.Sto.freed;rw[h5t,hfd])
     go_wp2
     go_meet
     exact⟨{ X with M:=M5 },by rw[HE.out];exact HD5.out,by rw[HE.out];exact HW5.out,rfl,HM5.out,rfl⟩
    | some old =>
     have HE:Hid (s5.freed id=s5.free old):=aH (by unfold S.Sto.freed;rw[h5t,hfd])
     have hol:=HTB.out _ (D.aN hfd)
     dsimp only at hol
     have HFR1:=aH (HFR.out old (by rw[h5u];exact hol) (by omega))
     simp only[Option.getD_some]
     clear HFR hfd hlk y2
     go_wp2_with fail
     refine HFR1.out.mono ?_
     rintro e w7 ⟨rfl,X7,h7,hw7,h7a,h7b,h7c⟩
     have HD7:=aH h7
     have HW7:=aH (HW5.out.trans hw7)
     have HM7:Hid (X7.M.d=X.M.d):=aH (h7b.trans HM5.out)
     clear h7 hw7 h7b HFR1
     go_wp2
     go_meet
     exact⟨X7,by rw[HE.out];exact HD7.out,by rw[HE.out];exact HW7.out,h7a,HM7.out,h7c⟩
   case rest =>
    obtain⟨X6,hd6,hw6,h6a,h6b,h6e⟩:=hcut
    obtain⟨s6,hs6⟩:∃ s6,s6=s5.freed id:=⟨_,rfl⟩
    rw[← hs6]at hd6 hw6 h6t h6u h6c HF6 HG5
    have HD6:=aH hd6
    have HW6:=aH hw6
    have H6A:=aH h6a
    have H6B:=aH h6b
    have H6E:=aH h6e
    obtain⟨y0,y1,y2,y3⟩:=hd6.cells
    rw[h6a]at y0 y1 y2 y3
    have hl6:s6.tab.length≤262144:=by rw[h6t];exact hl
    have hti:∀ (u:World),dU B X6 (s6.took no id) u→Calls Tryz.prog 60 #[.pointer (some ⟨X.st,0,none⟩)] u (xP B X6 (s6.took no id) u (s6.took no id).tidy (.tuple #[])):=by
     intro u hu
     rw[← h6a]
     refine xZ B X6 (s6.took no id) (m+8) u hu HF6.out (by omega) ?_ ?_ ?_ ?_
     ·show D.Up (D.put s6.tab id no)
      rw[h6t]
      exact D.rG HU.out _ _
     ·have:=D.fP s6.tab id no
      show (D.put s6.tab id no).length≤_
      omega
     ·intro p hp
      change p∈D.put s6.tab id no at hp
      rw[h6t]at hp
      rcases D.cZ.1 hp with rfl | hp
      ·dsimp only;omega
      ·exact HZ.out p hp.1
     ·show s6.count≤_
      rw[h6c]
      omega
    have HTI:=aH hti
    have hn6:no < s6.used.length:=by rw[h6u];exact hno
    clear hti hd6 hw6 h6b h6e hs6 HD5 HW5 HFR h5t h5u h5c h5d hlk y0 y1
    obtain⟨ww,rfl⟩:∃ ww:World,ww=wc:=⟨_,rfl⟩
    go_wp2_with (at_mapUpdate;refine wpList_mapUpdate_own _ rfl _ _ _ 106 rfl 9 3 (string_keyed bT) aAJ S.wV X6.tb s6.tab.length (S.qU s6.tab) rfl HD6.out.tab (by simp only[maxLen];omega) (.string id) (.int .i64 no) (D.key id) rfl rfl (jJ id (by simp only[maxLen];omega)) (.lit (.int .i64 no)) [] rfl ?_;intro w7 hown7 hgrow7;obtain⟨g8,HD8,HW8,hz8,hf8,hi8⟩:=aOG HD6.out hown7 hgrow7 hn6;rw[H6A.out]at hz8)
    refine (HTI.out _ HD8).mono ?_
    rintro e w9 ⟨rfl,X9,h9,hw9,h9a,h9b,h9c⟩
    have HD9:=aH h9
    have HW9:=aH (HW6.out.trans (HW8.trans hw9))
    have HA9:Hid (X9.st=X.st):=aH (h9a.trans H6A.out)
    have HB9:Hid (X9.M.d=X.M.d):=aH (h9b.trans H6B.out)
    have HC9:Hid (X9.lg=X.lg):=aH (h9c.trans H6E.out)
    clear h9 hw9 h9a h9b h9c HTI HD8 HW8 hz8 hf8 hi8 hown7 hgrow7 HD6 HW6
    go_wp2
    go_ret
    exact⟨by rw[HG5.out]<;>rfl,X9,by rw[HG5.out];exact HD9.out,by rw[HG5.out];exact HW9.out,HA9.out,HB9.out,HC9.out⟩
end Go.Proofs.YthjeglnkgdpijaaGreatDoor
