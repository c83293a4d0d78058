/- The walks of lru's functions at entries (printed by gen/lru.py). Conditions: sizes of at least one byte, a room of at most 2^30, keys of at most 2^30 bytes. -/
import Derived.Test.YthjeglnkgdpijaaGreatDoorZ30
set_option maxHeartbeats 2000000
set_option maxRecDepth 100000
namespace Go.Proofs.YthjeglnkgdpijaaGreatDoor
open Go Go.RowKit Go.Maps
open Lr (Ring nU aH9 Fr nx pv adr)
abbrev After (w w':World):Prop:=Below w.heap.size w w'
theorem After.set {w u:World} (h:After w u) (a:Addr) (v:Value):After (w.setCell a v) (u.setCell a v) :=
 ⟨h.os,h.tape,h.output,by simpa [World.setCell] using h.size,fun k hk=>by
  have hk':k < w.heap.size:=by simpa [World.setCell] using hk
  simp only[World.setCell,Array.getElem?_modify]
  rw[h.block k hk']⟩
theorem wW (t k b1 o1 b2 o2:Nat) (w:World) (h1:w.cell? ⟨k,11,none⟩=some (.pointer (some ⟨b1,o1,none⟩))) (h2:w.cell? ⟨k,12,none⟩=some (.pointer (some ⟨b2,o2,none⟩))) (hk:k < w.heap.size) (hb1:b1 < w.heap.size) (hb2:b2 < w.heap.size)
  (c1:∃ v,w.cell? ⟨b1,o1+12,none⟩=some v) (c2:∃ v,w.cell? ⟨b2,o2+11,none⟩=some v) (f1:w.frozen? ⟨b1,o1+12,none⟩=false) (f2:w.frozen? ⟨b2,o2+11,none⟩=false) :
  Calls Tryz.prog 75 #[.pointer (some ⟨t,0,none⟩),.pointer (some ⟨k,0,none⟩)] w (fun e w'=>e=.returned (.tuple #[])∧After ((w.setCell ⟨b1,o1+12,none⟩ (.pointer (some ⟨b2,o2,none⟩))).setCell ⟨b2,o2+11,none⟩ (.pointer (some ⟨b1,o1,none⟩))) w'):=by
 obtain⟨v1,c1⟩:=c1
 obtain⟨v2,c2⟩:=c2
 have HC:=aH (fun (u:World) (hu:Below w.heap.size w u)=>(And.intro ((hu.cell (p:=⟨k,11,none⟩) hk).trans h1) ((hu.cell (p:=⟨k,12,none⟩) hk).trans h2):u.cell? ⟨k,11,none⟩=some (.pointer (some ⟨b1,o1,none⟩))∧u.cell? ⟨k,12,none⟩=some (.pointer (some ⟨b2,o2,none⟩))))
 have HD:=aH (fun (u:World) (hu:Below w.heap.size w u)=>((hu.cell (p:=⟨b1,o1+12,none⟩) hb1).trans c1:u.cell? ⟨b1,o1+12,none⟩=some v1))
 have HE:=aH (fun (u:World) (hu:Below w.heap.size w u)=>((hu.cell (p:=⟨b2,o2+11,none⟩) hb2).trans c2:u.cell? ⟨b2,o2+11,none⟩=some v2))
 have HF:=aH (fun (u:World) (hu:Below w.heap.size w u)=>(And.intro ((hu.frozen (p:=⟨b1,o1+12,none⟩) hb1).trans f1) ((hu.frozen (p:=⟨b2,o2+11,none⟩) hb2).trans f2):u.frozen? ⟨b1,o1+12,none⟩=false∧u.frozen? ⟨b2,o2+11,none⟩=false))
 have hS0:Below w.heap.size w w.drew:=(zB _ _).drew
 clear h1 h2 c1 c2 f1 f2 hk hb1 hb2
 go_enter Tryz.func75,Tryz.ntmps75
 refine wp_region_noPanic ?_
 refine HT.begin (n:=16) (S:=(fun u=>Below w.heap.size w u)) (by kernel_rfl) hS0 ?_
 generalize w.drew=wd at *
 refine HT.take 0 (.pointer (some ⟨k,0,none⟩)) rfl (by kernel_rfl) (fun _ _ _ h=>h) (Or.inl ⟨by rfl,?_⟩) ?_
 ·intro u hu
  go_simp
 refine HT.take 1 (.pointer (some ⟨k,0,none⟩)) rfl (by kernel_rfl) (fun _ _ _ h=>h) (Or.inl ⟨by rfl,?_⟩) ?_
 ·intro u hu
  go_simp
 refine HT.take 2 (.pointer (some ⟨k,11,none⟩)) rfl (by kernel_rfl) (fun _ _ _ h=>h) (Or.inl ⟨by rfl,?_⟩) (?_:HT _ _ _ _ _ _ _ ⟨#[_,_,_,_,.pointer (some ⟨k,0,none⟩),.pointer (some ⟨k,0,none⟩),.pointer (some ⟨k,11,none⟩),_,_,_,_,_,_,_,_,_,_,_,_,_,_,_,_,_],[]⟩ _)
 ·intro u hu
  go_simp
 refine HT.take 3 (.pointer (some ⟨b1,o1,none⟩)) rfl (by kernel_rfl) (fun _ _ _ h=>h) (Or.inl ⟨by rfl,?_⟩) ?_
 ·intro u hu
  obtain⟨y1,y2⟩:=HC.out u hu
  go_simp
 refine HT.take 4 (.pointer (some ⟨k,0,none⟩)) rfl (by kernel_rfl) (fun _ _ _ h=>h) (Or.inl ⟨by rfl,?_⟩) ?_
 ·intro u hu
  go_simp
 refine HT.take 5 (.pointer (some ⟨k,0,none⟩)) rfl (by kernel_rfl) (fun _ _ _ h=>h) (Or.inl ⟨by rfl,?_⟩) (?_:HT _ _ _ _ _ _ _ ⟨#[_,_,_,_,.pointer (some ⟨k,0,none⟩),.pointer (some ⟨k,0,none⟩),.pointer (some ⟨k,11,none⟩),.pointer (some ⟨b1,o1,none⟩),.pointer (some ⟨k,0,none⟩),.pointer (some ⟨k,0,none⟩),_,_,_,_,_,_,_,_,_,_,_,_,_,_],[]⟩ _)
 ·intro u hu
  go_simp
 refine HT.take 6 (.pointer (some ⟨k,12,none⟩)) rfl (by kernel_rfl) (fun _ _ _ h=>h) (Or.inl ⟨by rfl,?_⟩) ?_
 ·intro u hu
  go_simp
 refine HT.take 7 (.pointer (some ⟨b2,o2,none⟩)) rfl (by kernel_rfl) (fun _ _ _ h=>h) (Or.inl ⟨by rfl,?_⟩) ?_
 ·intro u hu
  obtain⟨y1,y2⟩:=HC.out u hu
  go_simp
 refine HT.take 8 (.pointer (some ⟨k,0,none⟩)) rfl (by kernel_rfl) (fun _ _ _ h=>h) (Or.inl ⟨by rfl,?_⟩) (?_:HT _ _ _ _ _ _ _ ⟨#[_,_,_,_,.pointer (some ⟨k,0,none⟩),.pointer (some ⟨k,0,none⟩),.pointer (some ⟨k,11,none⟩),.pointer (some ⟨b1,o1,none⟩),.pointer (some ⟨k,0,none⟩),.pointer (some ⟨k,0,none⟩),.pointer (some ⟨k,12,none⟩),.pointer (some ⟨b2,o2,none⟩),.pointer (some ⟨k,0,none⟩),_,_,_,_,_,_,_,_,_,_,_],[]⟩ _)
 ·intro u hu
  go_simp
 refine HT.take 9 (.pointer (some ⟨k,0,none⟩)) rfl (by kernel_rfl) (fun _ _ _ h=>h) (Or.inl ⟨by rfl,?_⟩) ?_
 ·intro u hu
  go_simp
 refine HT.take 10 (.pointer (some ⟨k,12,none⟩)) rfl (by kernel_rfl) (fun _ _ _ h=>h) (Or.inl ⟨by rfl,?_⟩) ?_
 ·intro u hu
  go_simp
 refine HT.take 11 (.pointer (some ⟨b2,o2,none⟩)) rfl (by kernel_rfl) (fun _ _ _ h=>h) (Or.inl ⟨by rfl,?_⟩) (?_:HT _ _ _ _ _ _ _ ⟨#[_,_,_,_,.pointer (some ⟨k,0,none⟩),.pointer (some ⟨k,0,none⟩),.pointer (some ⟨k,11,none⟩),.pointer (some ⟨b1,o1,none⟩),.pointer (some ⟨k,0,none⟩),.pointer (some ⟨k,0,none⟩),.pointer (some ⟨k,12,none⟩),.pointer (some ⟨b2,o2,none⟩),.pointer (some ⟨k,0,none⟩),.pointer (some ⟨k,0,none⟩),.pointer (some ⟨k,12,none⟩),.pointer (some ⟨b2,o2,none⟩),_,_,_,_,_,_,_,_],[]⟩ _)
 ·intro u hu
  obtain⟨y1,y2⟩:=HC.out u hu
  go_simp
 refine HT.take 12 (.pointer (some ⟨k,0,none⟩)) rfl (by kernel_rfl) (fun _ _ _ h=>h) (Or.inl ⟨by rfl,?_⟩) ?_
 ·intro u hu
  go_simp
 refine HT.take 13 (.pointer (some ⟨k,0,none⟩)) rfl (by kernel_rfl) (fun _ _ _ h=>h) (Or.inl ⟨by rfl,?_⟩) ?_
 ·intro u hu
  go_simp
 refine HT.take 14 (.pointer (some ⟨k,11,none⟩)) rfl (by kernel_rfl) (fun _ _ _ h=>h) (Or.inl ⟨by rfl,?_⟩) (?_:HT _ _ _ _ _ _ _ ⟨#[_,_,_,_,.pointer (some ⟨k,0,none⟩),.pointer (some ⟨k,0,none⟩),.pointer (some ⟨k,11,none⟩),.pointer (some ⟨b1,o1,none⟩),.pointer (some ⟨k,0,none⟩),.pointer (some ⟨k,0,none⟩),.pointer (some ⟨k,12,none⟩),.pointer (some ⟨b2,o2,none⟩),.pointer (some ⟨k,0,none⟩),.pointer (some ⟨k,0,none⟩),.pointer (some ⟨k,12,none⟩),.pointer (some ⟨b2,o2,none⟩),.pointer (some ⟨k,0,none⟩),.pointer (some ⟨k,0,none⟩),.pointer (some ⟨k,11,none⟩),_,_,_,_,_],[]⟩ _)
 ·intro u hu
  go_simp
 refine HT.take 15 (.pointer (some ⟨b1,o1,none⟩)) rfl (by kernel_rfl) (fun _ _ _ h=>h) (Or.inl ⟨by rfl,?_⟩) (?_:HT _ _ _ _ _ _ _ ⟨#[_,_,_,_,.pointer (some ⟨k,0,none⟩),.pointer (some ⟨k,0,none⟩),.pointer (some ⟨k,11,none⟩),.pointer (some ⟨b1,o1,none⟩),.pointer (some ⟨k,0,none⟩),.pointer (some ⟨k,0,none⟩),.pointer (some ⟨k,12,none⟩),.pointer (some ⟨b2,o2,none⟩),.pointer (some ⟨k,0,none⟩),.pointer (some ⟨k,0,none⟩),.pointer (some ⟨k,12,none⟩),.pointer (some ⟨b2,o2,none⟩),.pointer (some ⟨k,0,none⟩),.pointer (some ⟨k,0,none⟩),.pointer (some ⟨k,11,none⟩),.pointer (some ⟨b1,o1,none⟩),_,_,_,_],[]⟩ _)
 ·intro u hu
  obtain⟨y1,y2⟩:=HC.out u hu
  go_simp
 refine HT.tail _ rfl rfl (by kernel_rfl) (fun hS=>?_)
 have e1:=HD.out _ hS
 have e2:=HE.out _ hS
 obtain⟨g1,g2⟩:=HF.out _ hS
 obtain⟨v3,e3⟩:=cell?_setCell_some (p:=⟨b1,o1+12,none⟩) (x:=.pointer (some ⟨b2,o2,none⟩)) e2
 have HSS:=aH (After.set (After.set hS ⟨b1,o1+12,none⟩ (.pointer (some ⟨b2,o2,none⟩))) ⟨b2,o2+11,none⟩ (.pointer (some ⟨b1,o1,none⟩)))
 clear hS hS0 HC HD HE HF
 go_wp2
 refine NoPanic.normal ?_
 go_wp2
 go_end0
 exact⟨rfl,HSS.out⟩
theorem aB8 (t k b o:Nat) (w:World) (h1:w.cell? ⟨t,15,none⟩=some (.pointer (some ⟨b,o,none⟩))) (ht:t < w.heap.size) (hk:k < w.heap.size) (hb:b < w.heap.size)
  (c1:∃ v,w.cell? ⟨k,11,none⟩=some v) (c2:∃ v,w.cell? ⟨k,12,none⟩=some v) (c3:∃ v,w.cell? ⟨b,o+11,none⟩=some v) (f1:∀ i,w.frozen? ⟨k,i,none⟩=false) (f2:∀ i,w.frozen? ⟨t,i,none⟩=false) (f3:∀ i,w.frozen? ⟨b,i,none⟩=false) :
  Calls Tryz.prog 76 #[.pointer (some ⟨t,0,none⟩),.pointer (some ⟨k,0,none⟩)] w (fun e w'=>e=.returned (.tuple #[]) ∧
   After ((((w.setCell ⟨k,11,none⟩ (.pointer (some ⟨t,3,none⟩))).setCell ⟨k,12,none⟩ (.pointer (some ⟨b,o,none⟩))).setCell ⟨t,15,none⟩ (.pointer (some ⟨k,0,none⟩))).setCell ⟨b,o+11,none⟩ (.pointer (some ⟨k,0,none⟩))) w'):=by
 obtain⟨v1,c1⟩:=c1
 obtain⟨v2,c2⟩:=c2
 obtain⟨v3,c3⟩:=c3
 obtain⟨W2,hW2⟩:∃ W2,(w.setCell ⟨k,11,none⟩ (.pointer (some ⟨t,3,none⟩))).setCell ⟨k,12,none⟩ (.pointer (some ⟨b,o,none⟩))=W2:=⟨_,rfl⟩
 have hs2:W2.heap.size=w.heap.size:=by rw[← hW2];simp [World.setCell]
 have z11:W2.cell? ⟨k,11,none⟩=some (.pointer (some ⟨t,3,none⟩)):=by
  rw[← hW2,Lr.aG (fun e=>by have:12=11:=congrArg Addr.off e;omega)]
  exact Lr.fC c1 _
 have z12:W2.cell? ⟨k,12,none⟩=some (.pointer (some ⟨b,o,none⟩)):=by
  rw[← hW2]
  exact Lr.fC ((Lr.aG (fun e=>by have:11=12:=congrArg Addr.off e;omega) _).trans c2) _
 obtain⟨v4,y4⟩:=cell?_setCell_some (p:=⟨k,11,none⟩) (x:=.pointer (some ⟨t,3,none⟩)) h1
 obtain⟨v4,z15⟩:=cell?_setCell_some (p:=⟨k,12,none⟩) (x:=.pointer (some ⟨b,o,none⟩)) y4
 obtain⟨v5,y5⟩:=cell?_setCell_some (p:=⟨k,11,none⟩) (x:=.pointer (some ⟨t,3,none⟩)) c3
 obtain⟨v5,zb⟩:=cell?_setCell_some (p:=⟨k,12,none⟩) (x:=.pointer (some ⟨b,o,none⟩)) y5
 rw[hW2]at z15 zb
 have g2:W2.frozen? ⟨t,15,none⟩=false:=by rw[← hW2,World.frozen?_setCell,World.frozen?_setCell];exact f2 15
 have g3:W2.frozen? ⟨b,o+11,none⟩=false:=by rw[← hW2,World.frozen?_setCell,World.frozen?_setCell];exact f3 _
 have HC:=aH (fun (u:World) (hu:After w u)=>((hu.cell (p:=⟨t,15,none⟩) ht).trans h1:u.cell? ⟨t,15,none⟩=some (.pointer (some ⟨b,o,none⟩))))
 have HD:=aH (fun (u:World) (hu:After w u)=>(And.intro ((hu.cell (p:=⟨k,11,none⟩) hk).trans c1) ((hu.cell (p:=⟨k,12,none⟩) hk).trans c2):u.cell? ⟨k,11,none⟩=some v1∧u.cell? ⟨k,12,none⟩=some v2))
 have HF:=aH (fun (u:World) (hu:After w u)=>(And.intro ((hu.frozen (p:=⟨k,11,none⟩) hk).trans (f1 11)) ((hu.frozen (p:=⟨k,12,none⟩) hk).trans (f1 12)):u.frozen? ⟨k,11,none⟩=false∧u.frozen? ⟨k,12,none⟩=false))
 have HC2:=aH (fun (u:World) (hu:After W2 u)=>(And.intro ((hu.cell (p:=⟨k,11,none⟩) (by rw[hs2];exact hk)).trans z11) ((hu.cell (p:=⟨k,12,none⟩) (by rw[hs2];exact hk)).trans z12):u.cell? ⟨k,11,none⟩=some (.pointer (some ⟨t,3,none⟩))∧u.cell? ⟨k,12,none⟩=some (.pointer (some ⟨b,o,none⟩))))
 have HD2:=aH (fun (u:World) (hu:After W2 u)=>(And.intro ((hu.cell (p:=⟨t,15,none⟩) (by rw[hs2];exact ht)).trans z15) ((hu.cell (p:=⟨b,o+11,none⟩) (by rw[hs2];exact hb)).trans zb):u.cell? ⟨t,15,none⟩=some v4∧u.cell? ⟨b,o+11,none⟩=some v5))
 have HF2:=aH (fun (u:World) (hu:After W2 u)=>(And.intro ((hu.frozen (p:=⟨t,15,none⟩) (by rw[hs2];exact ht)).trans g2) ((hu.frozen (p:=⟨b,o+11,none⟩) (by rw[hs2];exact hb)).trans g3):u.frozen? ⟨t,15,none⟩=false∧u.frozen? ⟨b,o+11,none⟩=false))
 have hS0:Below w.heap.size w w.drew:=(zB _ _).drew
 have HWW:=aH hW2
 clear h1 c1 c2 c3 f1 f2 f3 ht hk hb hs2 z11 z12 y4 z15 y5 zb g2 g3 hW2
 go_enter Tryz.func76,Tryz.ntmps76
 go_upto_region 0 with fail
 have HWD:=aH hS0
 refine wp_region_noPanic ?_
 refine HT.begin (n:=13) (S:=(fun u=>u.cell? ⟨t,15,none⟩=some (.pointer (some ⟨b,o,none⟩)))) (by kernel_rfl) (HC.out _ hS0) ?_
 clear hS0
 generalize w.drew=wd at *
 refine HT.take 0 (.pointer (some ⟨k,0,none⟩)) rfl (by kernel_rfl) (fun _ _ _ h=>h) (Or.inl ⟨by rfl,?_⟩) ?_
 ·intro u hu
  go_simp
 refine HT.take 1 (.pointer (some ⟨k,0,none⟩)) rfl (by kernel_rfl) (fun _ _ _ h=>h) (Or.inl ⟨by rfl,?_⟩) ?_
 ·intro u hu
  go_simp
 refine HT.take 2 (.pointer (some ⟨t,0,none⟩)) rfl (by kernel_rfl) (fun _ _ _ h=>h) (Or.inl ⟨by rfl,?_⟩) (?_:HT _ _ _ _ _ _ _ ⟨#[_,_,_,_,.pointer (some ⟨k,0,none⟩),.pointer (some ⟨k,0,none⟩),.pointer (some ⟨t,0,none⟩),_,_,_,_,_,_,_,_,_,_,_,_,_,_,_,_,_,_,_,_,_,_,_,_,_],[]⟩ _)
 ·intro u hu
  go_simp
 refine HT.take 3 (.pointer (some ⟨t,0,none⟩)) rfl (by kernel_rfl) (fun _ _ _ h=>h) (Or.inl ⟨by rfl,?_⟩) ?_
 ·intro u hu
  go_simp
 refine HT.take 4 (.pointer (some ⟨t,3,none⟩)) rfl (by kernel_rfl) (fun _ _ _ h=>h) (Or.inl ⟨by rfl,?_⟩) ?_
 ·intro u hu
  go_simp
 refine HT.take 5 (.pointer (some ⟨t,0,none⟩)) rfl (by kernel_rfl) (fun _ _ _ h=>h) (Or.inl ⟨by rfl,?_⟩) (?_:HT _ _ _ _ _ _ _ ⟨#[_,_,_,_,.pointer (some ⟨k,0,none⟩),.pointer (some ⟨k,0,none⟩),.pointer (some ⟨t,0,none⟩),.pointer (some ⟨t,0,none⟩),.pointer (some ⟨t,3,none⟩),.pointer (some ⟨t,0,none⟩),_,_,_,_,_,_,_,_,_,_,_,_,_,_,_,_,_,_,_,_,_,_],[]⟩ _)
 ·intro u hu
  go_simp
 refine HT.take 6 (.pointer (some ⟨t,0,none⟩)) rfl (by kernel_rfl) (fun _ _ _ h=>h) (Or.inl ⟨by rfl,?_⟩) ?_
 ·intro u hu
  go_simp
 refine HT.take 7 (.pointer (some ⟨t,3,none⟩)) rfl (by kernel_rfl) (fun _ _ _ h=>h) (Or.inl ⟨by rfl,?_⟩) ?_
 ·intro u hu
  go_simp
 refine HT.take 8 (.pointer (some ⟨t,15,none⟩)) rfl (by kernel_rfl) (fun _ _ _ h=>h) (Or.inl ⟨by rfl,?_⟩) (?_:HT _ _ _ _ _ _ _ ⟨#[_,_,_,_,.pointer (some ⟨k,0,none⟩),.pointer (some ⟨k,0,none⟩),.pointer (some ⟨t,0,none⟩),.pointer (some ⟨t,0,none⟩),.pointer (some ⟨t,3,none⟩),.pointer (some ⟨t,0,none⟩),.pointer (some ⟨t,0,none⟩),.pointer (some ⟨t,3,none⟩),.pointer (some ⟨t,15,none⟩),_,_,_,_,_,_,_,_,_,_,_,_,_,_,_,_,_,_,_],[]⟩ _)
 ·intro u hu
  go_simp
 refine HT.take 9 (.pointer (some ⟨b,o,none⟩)) rfl (by kernel_rfl) (fun _ _ _ h=>h) (Or.inl ⟨by rfl,?_⟩) ?_
 ·intro u hu
  have y1:=hu
  go_simp
 refine HT.take 10 (.pointer (some ⟨k,0,none⟩)) rfl (by kernel_rfl) (fun _ _ _ h=>h) (Or.inl ⟨by rfl,?_⟩) ?_
 ·intro u hu
  go_simp
 refine HT.take 11 (.pointer (some ⟨k,11,none⟩)) rfl (by kernel_rfl) (fun _ _ _ h=>h) (Or.inl ⟨by rfl,?_⟩) (?_:HT _ _ _ _ _ _ _ ⟨#[_,_,_,_,.pointer (some ⟨k,0,none⟩),.pointer (some ⟨k,0,none⟩),.pointer (some ⟨t,0,none⟩),.pointer (some ⟨t,0,none⟩),.pointer (some ⟨t,3,none⟩),.pointer (some ⟨t,0,none⟩),.pointer (some ⟨t,0,none⟩),.pointer (some ⟨t,3,none⟩),.pointer (some ⟨t,15,none⟩),.pointer (some ⟨b,o,none⟩),.pointer (some ⟨k,0,none⟩),.pointer (some ⟨k,11,none⟩),_,_,_,_,_,_,_,_,_,_,_,_,_,_,_,_],[]⟩ _)
 ·intro u hu
  go_simp
 refine HT.step 12 rfl (by kernel_rfl) (fun hS K hK=>?_)
 go_simp
 obtain⟨e1,e2⟩:=HD.out _ HWD.out
 obtain⟨g1,g2⟩:=HF.out _ HWD.out
 go_simp
 refine hK.out _ _ ((Lr.aG (fun e=>by have:11=15:=congrArg Addr.off e;omega) _).trans (HC.out _ HWD.out)) ?_
 obtain⟨v6,e3⟩:=cell?_setCell_some (p:=⟨k,11,none⟩) (x:=.pointer (some ⟨t,3,none⟩)) e2
 clear hK hS e1 e2 g1
 refine HT.tail _ rfl rfl (by kernel_rfl) (fun hS=>?_)
 have hss:=After.set (After.set HWD.out ⟨k,11,none⟩ (.pointer (some ⟨t,3,none⟩))) ⟨k,12,none⟩ (.pointer (some ⟨b,o,none⟩))
 rw[HWW.out]at hss
 have HSS:=aH hss
 clear hS HC HD HF hss
 go_wp2
 refine NoPanic.normal ?_
 go_upto_region 1 with fail
 clear e3 g2
 have HWE:=aH HSS.out.drew
 generalize ((wd.setCell ⟨k,11,none⟩ (.pointer (some ⟨t,3,none⟩))).setCell ⟨k,12,none⟩ (.pointer (some ⟨b,o,none⟩)))=wx at *
 refine wp_region_noPanic ?_
 refine HT.begin (n:=13) (S:=(fun u=>u.cell? ⟨k,11,none⟩=some (.pointer (some ⟨t,3,none⟩))∧u.cell? ⟨k,12,none⟩=some (.pointer (some ⟨b,o,none⟩)))) (by kernel_rfl) (HC2.out _ HWE.out) ?_
 generalize wx.drew=wd2 at *
 refine HT.take 0 (.pointer (some ⟨k,0,none⟩)) rfl (by kernel_rfl) (fun _ _ _ h=>h) (Or.inl ⟨by rfl,?_⟩) ?_
 ·intro u hu
  go_simp
 refine HT.take 1 (.pointer (some ⟨k,0,none⟩)) rfl (by kernel_rfl) (fun _ _ _ h=>h) (Or.inl ⟨by rfl,?_⟩) ?_
 ·intro u hu
  go_simp
 refine HT.take 2 (.pointer (some ⟨k,11,none⟩)) rfl (by kernel_rfl) (fun _ _ _ h=>h) (Or.inl ⟨by rfl,?_⟩) (?_:HT _ _ _ _ _ _ _ ⟨#[_,_,_,_,.pointer (some ⟨k,0,none⟩),.pointer (some ⟨k,0,none⟩),.pointer (some ⟨t,0,none⟩),.pointer (some ⟨t,0,none⟩),.pointer (some ⟨t,3,none⟩),.pointer (some ⟨t,0,none⟩),.pointer (some ⟨t,0,none⟩),.pointer (some ⟨t,3,none⟩),.pointer (some ⟨t,15,none⟩),.pointer (some ⟨b,o,none⟩),.pointer (some ⟨k,0,none⟩),.pointer (some ⟨k,11,none⟩),_,_,.pointer (some ⟨k,0,none⟩),.pointer (some ⟨k,0,none⟩),.pointer (some ⟨k,11,none⟩),_,_,_,_,_,_,_,_,_,_,_],[]⟩ _)
 ·intro u hu
  go_simp
 refine HT.take 3 (.pointer (some ⟨t,3,none⟩)) rfl (by kernel_rfl) (fun _ _ _ h=>h) (Or.inl ⟨by rfl,?_⟩) ?_
 ·intro u hu
  obtain⟨y1,y2⟩:=hu
  go_simp
 refine HT.take 4 (.pointer (some ⟨k,0,none⟩)) rfl (by kernel_rfl) (fun _ _ _ h=>h) (Or.inl ⟨by rfl,?_⟩) ?_
 ·intro u hu
  go_simp
 refine HT.take 5 (.pointer (some ⟨k,0,none⟩)) rfl (by kernel_rfl) (fun _ _ _ h=>h) (Or.inl ⟨by rfl,?_⟩) (?_:HT _ _ _ _ _ _ _ ⟨#[_,_,_,_,.pointer (some ⟨k,0,none⟩),.pointer (some ⟨k,0,none⟩),.pointer (some ⟨t,0,none⟩),.pointer (some ⟨t,0,none⟩),.pointer (some ⟨t,3,none⟩),.pointer (some ⟨t,0,none⟩),.pointer (some ⟨t,0,none⟩),.pointer (some ⟨t,3,none⟩),.pointer (some ⟨t,15,none⟩),.pointer (some ⟨b,o,none⟩),.pointer (some ⟨k,0,none⟩),.pointer (some ⟨k,11,none⟩),_,_,.pointer (some ⟨k,0,none⟩),.pointer (some ⟨k,0,none⟩),.pointer (some ⟨k,11,none⟩),.pointer (some ⟨t,3,none⟩),.pointer (some ⟨k,0,none⟩),.pointer (some ⟨k,0,none⟩),_,_,_,_,_,_,_,_],[]⟩ _)
 ·intro u hu
  go_simp
 refine HT.take 6 (.pointer (some ⟨k,12,none⟩)) rfl (by kernel_rfl) (fun _ _ _ h=>h) (Or.inl ⟨by rfl,?_⟩) ?_
 ·intro u hu
  go_simp
 refine HT.take 7 (.pointer (some ⟨b,o,none⟩)) rfl (by kernel_rfl) (fun _ _ _ h=>h) (Or.inl ⟨by rfl,?_⟩) ?_
 ·intro u hu
  obtain⟨y1,y2⟩:=hu
  go_simp
 refine HT.take 8 (.pointer (some ⟨k,0,none⟩)) rfl (by kernel_rfl) (fun _ _ _ h=>h) (Or.inl ⟨by rfl,?_⟩) (?_:HT _ _ _ _ _ _ _ ⟨#[_,_,_,_,.pointer (some ⟨k,0,none⟩),.pointer (some ⟨k,0,none⟩),.pointer (some ⟨t,0,none⟩),.pointer (some ⟨t,0,none⟩),.pointer (some ⟨t,3,none⟩),.pointer (some ⟨t,0,none⟩),.pointer (some ⟨t,0,none⟩),.pointer (some ⟨t,3,none⟩),.pointer (some ⟨t,15,none⟩),.pointer (some ⟨b,o,none⟩),.pointer (some ⟨k,0,none⟩),.pointer (some ⟨k,11,none⟩),_,_,.pointer (some ⟨k,0,none⟩),.pointer (some ⟨k,0,none⟩),.pointer (some ⟨k,11,none⟩),.pointer (some ⟨t,3,none⟩),.pointer (some ⟨k,0,none⟩),.pointer (some ⟨k,0,none⟩),.pointer (some ⟨k,12,none⟩),.pointer (some ⟨b,o,none⟩),.pointer (some ⟨k,0,none⟩),_,_,_,_,_],[]⟩ _)
 ·intro u hu
  go_simp
 refine HT.take 9 (.pointer (some ⟨k,0,none⟩)) rfl (by kernel_rfl) (fun _ _ _ h=>h) (Or.inl ⟨by rfl,?_⟩) ?_
 ·intro u hu
  go_simp
 refine HT.take 10 (.pointer (some ⟨t,3,none⟩)) rfl (by kernel_rfl) (fun _ _ _ h=>h) (Or.inl ⟨by rfl,?_⟩) ?_
 ·intro u hu
  go_simp
 refine HT.take 11 (.pointer (some ⟨t,15,none⟩)) rfl (by kernel_rfl) (fun _ _ _ h=>h) (Or.inl ⟨by rfl,?_⟩) (?_:HT _ _ _ _ _ _ _ ⟨#[_,_,_,_,.pointer (some ⟨k,0,none⟩),.pointer (some ⟨k,0,none⟩),.pointer (some ⟨t,0,none⟩),.pointer (some ⟨t,0,none⟩),.pointer (some ⟨t,3,none⟩),.pointer (some ⟨t,0,none⟩),.pointer (some ⟨t,0,none⟩),.pointer (some ⟨t,3,none⟩),.pointer (some ⟨t,15,none⟩),.pointer (some ⟨b,o,none⟩),.pointer (some ⟨k,0,none⟩),.pointer (some ⟨k,11,none⟩),_,_,.pointer (some ⟨k,0,none⟩),.pointer (some ⟨k,0,none⟩),.pointer (some ⟨k,11,none⟩),.pointer (some ⟨t,3,none⟩),.pointer (some ⟨k,0,none⟩),.pointer (some ⟨k,0,none⟩),.pointer (some ⟨k,12,none⟩),.pointer (some ⟨b,o,none⟩),.pointer (some ⟨k,0,none⟩),.pointer (some ⟨k,0,none⟩),.pointer (some ⟨t,3,none⟩),.pointer (some ⟨t,15,none⟩),_,_],[]⟩ _)
 ·intro u hu
  go_simp
 refine HT.step 12 rfl (by kernel_rfl) (fun hS K hK=>?_)
 go_simp
 obtain⟨e1,e2⟩:=HD2.out _ HWE.out
 obtain⟨g1,g2⟩:=HF2.out _ HWE.out
 obtain⟨z1,z2⟩:=HC2.out _ HWE.out
 go_simp
 refine hK.out _ _ ⟨(Lr.aG (fun e=>by have:15=11:=congrArg Addr.off e;omega) _).trans z1,(Lr.aG (fun e=>by have:15=12:=congrArg Addr.off e;omega) _).trans z2⟩ ?_
 obtain⟨v6,e3⟩:=cell?_setCell_some (p:=⟨t,15,none⟩) (x:=.pointer (some ⟨k,0,none⟩)) e2
 clear hK hS e1 e2 g1 z1 z2
 refine HT.tail _ rfl rfl (by kernel_rfl) (fun hS=>?_)
 have HS3:=aH (After.set (After.set HWE.out ⟨t,15,none⟩ (.pointer (some ⟨k,0,none⟩))) ⟨b,o+11,none⟩ (.pointer (some ⟨k,0,none⟩)))
 clear hS HC2 HD2 HF2
 go_wp2
 refine NoPanic.normal ?_
 go_wp2
 go_end0
 rw[HWW.out]
 exact⟨rfl,HS3.out⟩
theorem aO1 {n:Int} (h1:-9223372036854775808≤n) (h2:n≤9223372036854775807):IntKind.i64.wrap n=n:=by
 simp [IntKind.wrap,IntKind.bits,IntKind.signed]
 omega
theorem aER {F F' F'':Nat→Prop} {w w':World} (h:aO F w F' w') (hs:∀ k,F'' k→F' k):aO F w F'' w':=h.wide (fun _ hk=>hk) (fun k hk=>.inl (hs k hk))
theorem LrF.erase {t m j k:Nat} {l:List It} (h:LrF t m (l.eraseIdx j) k):LrF t m l k:=h.imp id (fun h=>h.imp id (fun⟨y,hy,e⟩=>⟨y,List.mem_of_mem_eraseIdx hy,e⟩))
theorem Lr.Ring.unlinks {t j:Nat} {l:List It} {w:World} (h:Ring t l w) (hj:j < l.length) {b1 o1 b2 o2:Nat} (f1:adr t l j=⟨b1,o1,none⟩) (f2:adr t l (j+2)=⟨b2,o2,none⟩) :
  w.cell? ⟨(l[j]'hj).k,11,none⟩=some (.pointer (some ⟨b1,o1,none⟩))∧w.cell? ⟨(l[j]'hj).k,12,none⟩=some (.pointer (some ⟨b2,o2,none⟩))∧(∃ v,w.cell? ⟨b1,o1+12,none⟩=some v)∧∃ v,w.cell? ⟨b2,o2+11,none⟩=some v:=by
 obtain⟨l1,l2⟩:=h.link j (by omega)
 obtain⟨l3,l4⟩:=h.link (j+1) (by omega)
 rw[f1]at l1
 rw[Lr.fP hj,f1]at l2
 rw[Lr.fP hj,show j+1+1=j+2 from rfl,f2]at l3
 rw[show j+1+1=j+2 from rfl,f2]at l4
 exact⟨l2,l3,⟨_,l1⟩,⟨_,l4⟩⟩
theorem Lr.Ring.freeAt {t b:Nat} {l:List It} {w:World} (h:Ring t l w) (hb:b=t∨∃ y∈l,y.k=b) (i:Nat):w.frozen? ⟨b,i,none⟩=false:=by
 rcases hb with rfl | ⟨y,hy,rfl⟩
 ·exact h.tb.free i
 ·exact (h.nd y hy).free i
theorem qE (B t m room j:Nat) (l:List It) (w:World) (h:fU B t m room l w) (hj:j < l.length) :
  Calls Tryz.prog 66 #[.pointer (some ⟨t,0,none⟩),.pointer (some ⟨(l[j]'hj).k,0,none⟩)] w (fun e w'=>e=.returned (.tuple #[])∧fU B t m room (l.eraseIdx j) w'∧aO (LrF t m l) w (LrF t m (l.eraseIdx j)) w'):=by
 obtain⟨b1,o1,f1,g1,lt1,k1⟩:=h.ring.form j
 obtain⟨b2,o2,f2,g2,lt2,k2⟩:=h.ring.form (j+2)
 obtain⟨c1,c2,d1,d2⟩:=h.ring.unlinks hj f1 f2
 have hxm:=List.getElem_mem hj
 have HUN:=aH (wW t (l[j]'hj).k b1 o1 b2 o2 w c1 c2 (h.ring.nd _ hxm).lt lt1 lt2 d1 d2 (h.ring.freeAt k1 _) (h.ring.freeAt k2 _))
 obtain⟨tb,t1,t2,hb⟩:=h.base
 obtain⟨p1,p2,p3⟩:=hb.unlink h.ring (fun _ hy=>hy) hj f1 f2 k1 k2
 obtain⟨W1,hW1⟩:∃ W1,(w.setCell ⟨b1,o1+12,none⟩ (.pointer (some ⟨b2,o2,none⟩))).setCell ⟨b2,o2+11,none⟩ (.pointer (some ⟨b1,o1,none⟩))=W1:=⟨_,rfl⟩
 rw[hW1]at p1 p2 p3 HUN
 have HP1:=aH p1
 have HP2:=aH p2
 have HP3:=aH p3
 have HH:=aH h
 have hue:=Lr.wV hj
 have hur:=h.fits
 have hsz:=(h.small _ hxm).1
 have HPK:=aH (fun id=>Lr.kQ h.one hj id)
 have HT1:=aH t1
 have HT2:=aH t2
 obtain⟨k,hk⟩:∃ k,(l[j]'hj).k=k:=⟨_,rfl⟩
 obtain⟨id,hid⟩:∃ id,(l[j]'hj).id=id:=⟨_,rfl⟩
 obtain⟨z,hz⟩:∃ z,(l[j]'hj).z=z:=⟨_,rfl⟩
 have HND:=aH (fun (u:World) (hu:After W1 u)=>(⟨(p1.below hu).node _ hxm |>.1.1,(p1.below hu).node _ hxm |>.1.2.2.2.2.2.2.2.2.2.2⟩:u.cell? ⟨(l[j]'hj).k,0,none⟩=some (.string (l[j]'hj).id)∧u.cell? ⟨(l[j]'hj).k,10,none⟩=some (.int .i64 (l[j]'hj).z)))
 rw[hk,hid,hz]at HND
 rw[hk]at HUN
 rw[hid]at HPK hsz
 rw[hz]at hue
 rw[hk]
 have HKX:=aH hk
 have HZX:=aH hz
 obtain⟨U,hU⟩:∃ U,Lr.used (l.eraseIdx j)=U:=⟨_,rfl⟩
 obtain⟨V,hV⟩:∃ V,Lr.used l=V:=⟨_,rfl⟩
 have HU:=aH hU
 have hue2:U+z=V:=by rw[← hU,← hV];exact hue
 rw[hV]at hur HP1
 have HVV:=aH hV
 clear h c1 c2 d1 d2 g1 g2 lt1 lt2 k1 k2 f1 f2 t1 t2 hb p1 p2 p3 hW1 hk hid hz hU hV hue hxm
 go_enter Tryz.func66,Tryz.ntmps66
 go_wp2_with fail
 refine HUN.out.mono ?_
 rintro e w1 ⟨rfl,ha1⟩
 have HA1:=aH ha1
 have hwt1:=HP3.out.trans (aO.below ha1 _)
 have HW1:=aH hwt1
 have HQ1:=aH (HP1.out.below ha1)
 have HR1:=aH (HP2.out.below ha1)
 clear ha1 hwt1 HUN HP1 HP2 HP3
 go_upto_region 1 with fail
 have hS0:Below w1.heap.size w1 w1.drew:=(zB _ _).drew
 refine wp_region_noPanic ?_
 refine HT.begin (n:=8) (S:=(fun u=>Below w1.heap.size w1 u)) (by kernel_rfl) hS0 ?_
 generalize w1.drew=wd at *
 refine HT.take 0 (.pointer (some ⟨t,0,none⟩)) rfl (by kernel_rfl) (fun _ _ _ h=>h) (Or.inl ⟨by rfl,?_⟩) ?_
 ·intro u hu
  go_simp
 refine HT.take 1 (.pointer (some ⟨t,0,none⟩)) rfl (by kernel_rfl) (fun _ _ _ h=>h) (Or.inl ⟨by rfl,?_⟩) ?_
 ·intro u hu
  go_simp
 refine HT.take 2 (.pointer (some ⟨t,2,none⟩)) rfl (by kernel_rfl) (fun _ _ _ h=>h) (Or.inl ⟨by rfl,?_⟩) (?_:HT _ _ _ _ _ _ _ ⟨#[_,_,_,_,_,_,_,.pointer (some ⟨t,0,none⟩),.pointer (some ⟨t,0,none⟩),.pointer (some ⟨t,2,none⟩),_,_,_,_,_,_,_,_,_,_,_,_,_,_,_,_],[]⟩ _)
 ·intro u hu
  go_simp
 refine HT.take 3 (.map (some m)) rfl (by kernel_rfl) (fun _ _ _ h=>h) (Or.inl ⟨by rfl,?_⟩) ?_
 ·intro u hu
  obtain⟨y0,y1,y2⟩:=(HQ1.out.below hu).tabc
  go_simp
 refine HT.take 4 (.pointer (some ⟨k,0,none⟩)) rfl (by kernel_rfl) (fun _ _ _ h=>h) (Or.inl ⟨by rfl,?_⟩) ?_
 ·intro u hu
  go_simp
 refine HT.take 5 (.pointer (some ⟨k,0,none⟩)) rfl (by kernel_rfl) (fun _ _ _ h=>h) (Or.inl ⟨by rfl,?_⟩) (?_:HT _ _ _ _ _ _ _ ⟨#[_,_,_,_,_,_,_,.pointer (some ⟨t,0,none⟩),.pointer (some ⟨t,0,none⟩),.pointer (some ⟨t,2,none⟩),.map (some m),.pointer (some ⟨k,0,none⟩),.pointer (some ⟨k,0,none⟩),_,_,_,_,_,_,_,_,_,_,_,_,_],[]⟩ _)
 ·intro u hu
  go_simp
 refine HT.take 6 (.pointer (some ⟨k,0,none⟩)) rfl (by kernel_rfl) (fun _ _ _ h=>h) (Or.inl ⟨by rfl,?_⟩) ?_
 ·intro u hu
  go_simp
 refine HT.take 7 (.string id) rfl (by kernel_rfl) (fun _ _ _ h=>h) (Or.inl ⟨by rfl,?_⟩) (?_:HT _ _ _ _ _ _ _ ⟨#[_,_,_,_,_,_,_,.pointer (some ⟨t,0,none⟩),.pointer (some ⟨t,0,none⟩),.pointer (some ⟨t,2,none⟩),.map (some m),.pointer (some ⟨k,0,none⟩),.pointer (some ⟨k,0,none⟩),.pointer (some ⟨k,0,none⟩),.string id,_,_,_,_,_,_,_,_,_,_,_],[]⟩ _)
 ·intro u hu
  obtain⟨y0,y1⟩:=HND.out u (aA HA1.out.size HA1.out hu)
  go_simp
 refine HT.tail _ rfl rfl (by kernel_rfl) (fun hS=>?_)
 have HQ2:=aH (HQ1.out.below hS)
 have HR2:=aH (HR1.out.below hS)
 have HA2:=aH (aA HA1.out.size HA1.out hS)
 have HW2:=aH (HW1.out.trans (aO.below hS _))
 clear hS hS0 HQ1 HR1 HA1 HW1
 refine wpList_delete_own _ rfl _ _ 120 9 rfl 119 (string_keyed dA) Lr.mapT_ul D.jA m tb.length (D.datum (fun n=>n) tb) rfl HQ2.out.items (.string id) (D.key id) rfl (jU id (by simp only[maxLen];omega)) ?_
 intro w2 hown2 hturn2
 rw[D.kH]at hown2
 obtain⟨q1,q2,q3,q4⟩:=HQ2.out.turn (fF hown2) hturn2.grown
 have HQ3:=aH q1
 have HR3:=aH (HR2.out.same q3 (fun y hy=>q4 y (List.mem_of_mem_eraseIdx hy)))
 have HW3:=aH (HW2.out.trans q2)
 have HND3:Hid (∀ u,After w2 u→u.cell? ⟨k,10,none⟩=some (.int .i64 z)):=aH (fun u hu=>by
  obtain⟨y,hy,hyk,hyz⟩:∃ y∈l,y.k=k∧y.z=z:=⟨l[j]'hj,List.getElem_mem hj,HKX.out,HZX.out⟩
  have:=((q1.below hu).node y hy).1.2.2.2.2.2.2.2.2.2.2
  rw[hyk,hyz]at this
  exact this)
 clear hown2 hturn2 q1 q2 q3 q4 HQ2 HR2 HA2 HW2 HND
 go_wp2
 refine NoPanic.normal ?_
 go_upto_region 2 with fail
 have hS0:Below w2.heap.size w2 w2.drew:=(zB _ _).drew
 refine wp_region_noPanic ?_
 refine HT.begin (n:=9) (S:=(fun u=>Below w2.heap.size w2 u)) (by kernel_rfl) hS0 ?_
 generalize w2.drew=wd2 at *
 refine HT.take 0 (.pointer (some ⟨t,0,none⟩)) rfl (by kernel_rfl) (fun _ _ _ h=>h) (Or.inl ⟨by rfl,?_⟩) ?_
 ·intro u hu
  go_simp
 refine HT.take 1 (.pointer (some ⟨t,0,none⟩)) rfl (by kernel_rfl) (fun _ _ _ h=>h) (Or.inl ⟨by rfl,?_⟩) ?_
 ·intro u hu
  go_simp
 refine HT.take 2 (.pointer (some ⟨t,1,none⟩)) rfl (by kernel_rfl) (fun _ _ _ h=>h) (Or.inl ⟨by rfl,?_⟩) (?_:HT _ _ _ _ _ _ _ ⟨#[_,_,_,_,_,_,_,.pointer (some ⟨t,0,none⟩),.pointer (some ⟨t,0,none⟩),.pointer (some ⟨t,2,none⟩),.map (some m),.pointer (some ⟨k,0,none⟩),.pointer (some ⟨k,0,none⟩),.pointer (some ⟨k,0,none⟩),.string id,.pointer (some ⟨t,0,none⟩),.pointer (some ⟨t,0,none⟩),.pointer (some ⟨t,1,none⟩),_,_,_,_,_,_,_,_],[]⟩ _)
 ·intro u hu
  go_simp
 refine HT.take 3 (.int .i64 V) rfl (by kernel_rfl) (fun _ _ _ h=>h) (Or.inl ⟨by rfl,?_⟩) ?_
 ·intro u hu
  obtain⟨y0,y1,y2⟩:=(HQ3.out.below hu).tabc
  go_simp
 refine HT.take 4 (.pointer (some ⟨k,0,none⟩)) rfl (by kernel_rfl) (fun _ _ _ h=>h) (Or.inl ⟨by rfl,?_⟩) ?_
 ·intro u hu
  go_simp
 refine HT.take 5 (.pointer (some ⟨k,0,none⟩)) rfl (by kernel_rfl) (fun _ _ _ h=>h) (Or.inl ⟨by rfl,?_⟩) (?_:HT _ _ _ _ _ _ _ ⟨#[_,_,_,_,_,_,_,.pointer (some ⟨t,0,none⟩),.pointer (some ⟨t,0,none⟩),.pointer (some ⟨t,2,none⟩),.map (some m),.pointer (some ⟨k,0,none⟩),.pointer (some ⟨k,0,none⟩),.pointer (some ⟨k,0,none⟩),.string id,.pointer (some ⟨t,0,none⟩),.pointer (some ⟨t,0,none⟩),.pointer (some ⟨t,1,none⟩),.int .i64 V,.pointer (some ⟨k,0,none⟩),.pointer (some ⟨k,0,none⟩),_,_,_,_,_],[]⟩ _)
 ·intro u hu
  go_simp
 refine HT.take 6 (.pointer (some ⟨k,10,none⟩)) rfl (by kernel_rfl) (fun _ _ _ h=>h) (Or.inl ⟨by rfl,?_⟩) ?_
 ·intro u hu
  go_simp
 refine HT.take 7 (.int .i64 z) rfl (by kernel_rfl) (fun _ _ _ h=>h) (Or.inl ⟨by rfl,?_⟩) ?_
 ·intro u hu
  have y0:=HND3.out u hu
  go_simp
 refine HT.take 8 (.int .i64 U) rfl (by kernel_rfl) (fun _ _ _ h=>h) (Or.inl ⟨by rfl,?_⟩) (?_:HT _ _ _ _ _ _ _ ⟨#[_,_,_,_,_,_,_,.pointer (some ⟨t,0,none⟩),.pointer (some ⟨t,0,none⟩),.pointer (some ⟨t,2,none⟩),.map (some m),.pointer (some ⟨k,0,none⟩),.pointer (some ⟨k,0,none⟩),.pointer (some ⟨k,0,none⟩),.string id,.pointer (some ⟨t,0,none⟩),.pointer (some ⟨t,0,none⟩),.pointer (some ⟨t,1,none⟩),.int .i64 V,.pointer (some ⟨k,0,none⟩),.pointer (some ⟨k,0,none⟩),.pointer (some ⟨k,10,none⟩),.int .i64 z,.int .i64 U,_,_],[]⟩ _)
 ·intro u hu
  have hvz:(V:Int) - (z:Int)=(U:Int):=by omega
  go_simp
  exact aO1 (by omega) (by omega)
 refine HT.tail _ rfl rfl (by kernel_rfl) (fun hS=>?_)
 have HQ4:=aH (HQ3.out.below hS)
 have HR4:=aH (HR3.out.below hS)
 have HW4:=aH (HW3.out.trans (aO.below hS _))
 obtain⟨y0,y1,y2⟩:=HQ4.out.tabc
 have y3:=HQ4.out.fr.free 1
 clear hS hS0 HQ3 HR3 HW3 HND3
 go_wp2
 refine NoPanic.normal ?_
 go_wp2
 go_end0
 obtain⟨r1,r2,r3⟩:=HQ4.out.count HR4.out U
 rw[← HU.out]at r1 r2 r3 ⊢
 refine⟨rfl,r1.at_ r2 (fun y hy=>List.mem_of_mem_eraseIdx hy) (D.qB HT1.out _) (fun id2=>?_) (Lr.aD9 HH.out.one j) ⟨by rw[HU.out];omega,HH.out.fits.2⟩ (fun y hy=>HH.out.pos y (List.mem_of_mem_eraseIdx hy)) (fun y hy=>HH.out.small y (List.mem_of_mem_eraseIdx hy)) ⟨HH.out.ge.1,HH.out.ge.2.1,fun y hy=>HH.out.ge.2.2 y (List.mem_of_mem_eraseIdx hy)⟩,aER (HW4.out.trans r3) (fun _ hk=>LrF.erase hk)⟩
 rw[D.fO,HPK.out,HT2.out]
 by_cases he:id2=id
 ·rw[if_pos he,if_pos he];rfl
 ·rw[if_neg he,if_neg he]
end Go.Proofs.YthjeglnkgdpijaaGreatDoor
