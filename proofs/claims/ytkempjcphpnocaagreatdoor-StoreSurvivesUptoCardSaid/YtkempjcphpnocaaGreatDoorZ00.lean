/- A block of the call's own, known whole: what it holds behind calls, allocations and stores. No condition: plain lemmas. A row of bytes of the call's own, told by its cells: a marked one ('[]byte(s)') too; append onto it. No condition: plain lemmas. A text's bytes appended to a list of bytes that the call owns: both ways. No condition: a law of the walk. trial The walks of tok: Fold, and of the document's Lower. The walks of tok.Trim, split, List, and of the document's Trim, Pieces, List. The walks of tok.List, and of the document's Trim and List. -/
import Derived.Test.YtkempjcphpnocaaGreatDoorLib
import Derived.Deep.RegionHeld
import Derived.Laws.IdiomCopy
import Derived.Test.YtkempjcphpnocaaGreatDoorShelf
import Derived.Shelf.Strings.SlTrimAscii
namespace Go.Proofs.YtkempjcphpnocaaGreatDoor
open Go.RowKit
def Blk (w:World) (b:Nat) (cs:Array Value) (t:TypeId):Prop:=w.heap[b]?=some (.cells cs t (0,0))
section
variable {w w':World} {b b':Nat} {cs:Array Value} {t:TypeId} {A A':Option Addr} {c c':Nat}
theorem Blk.new (w:World) (cs:Array Value) (t:TypeId):Blk (w.alloc (.cells cs t)) w.heap.size cs t:=heap_alloc_new w _
theorem Blk.lt (h:Blk w b cs t):b < w.heap.size:=(Array.getElem?_eq_some_iff.1 h).1
theorem Blk.below (h:Blk w b cs t) (hb:Below w.heap.size w w'):Blk w' b cs t:=(hb.block b h.lt).trans h
theorem Blk.under {B:Nat} (h:Blk w b cs t) (hb:Below B w w') (hB:b < B):Blk w' b cs t:=(hb.block b hB).trans h
theorem Blk.alloc (h:Blk w b cs t) (o:Obj):Blk (w.alloc o) b cs t:=h.below ((Below.refl _ _).alloc (Nat.le_refl _) _)
theorem Blk.next {o:Obj} (h:Blk w b cs t) (hb:Below (w.alloc o).heap.size (w.alloc o) w'):Blk w' b cs t:=(h.alloc o).below hb
theorem Blk.drew (h:Blk w b cs t):Blk w.drew b cs t:=h
theorem Blk.drewN (h:Blk w b cs t) (k:Nat):Blk (w.drewN k) b cs t:=h
theorem Blk.cell (h:Blk w b cs t) (i:Nat) {v:Value} (hi:cs[i]?=some v):w.cell? ⟨b,i,none⟩=some v:=(cell_of_row w b i cs t (0,0) h).trans hi
theorem Blk.free (h:Blk w b cs t) (i:Nat):w.frozen? ⟨b,i,none⟩=false:=by
 have h':w.heap[b]?=some (.cells cs t (0,0)):=h
 simp [World.frozen?,h']
theorem Blk.set (h:Blk w b cs t) (i:Nat) (v:Value):Blk (w.setCell ⟨b,i,none⟩ v) b (cs.setIfInBounds i v) t:=by
 have h':w.heap[b]?=some (.cells cs t (0,0)):=h
 unfold Blk World.setCell
 simp only[Array.getElem?_modify,if_true,h']
 rfl
theorem Blk.far (h:Blk w b cs t) (i:Nat) (v:Value) (hne:b'≠b):Blk (w.setCell ⟨b',i,none⟩ v) b cs t:=by
 have h':w.heap[b]?=some (.cells cs t (0,0)):=h
 unfold Blk World.setCell
 simp only[Array.getElem?_modify]
 rw[if_neg hne]
 exact h'
theorem Blk.app (h:Blk w b cs t) (ha:App w w' A c A' c') (hne:∀ k,ownB A c=some k→k≠b):Blk w' b cs t :=
 (ha.grown.block b h.lt (fun e=>hne b e.symm rfl)).trans h
theorem Blk.cells1 {x0:Value} (h:Blk w b #[x0] t):w.cell? ⟨b,0,none⟩=some x0:=h.cell 0 rfl
theorem Blk.cells2 {x0 x1:Value} (h:Blk w b #[x0,x1] t):w.cell? ⟨b,0,none⟩=some x0∧w.cell? ⟨b,1,none⟩=some x1:=⟨h.cell 0 rfl,h.cell 1 rfl⟩
theorem Blk.cells3 {x0 x1 x2:Value} (h:Blk w b #[x0,x1,x2] t):w.cell? ⟨b,0,none⟩=some x0∧w.cell? ⟨b,1,none⟩=some x1∧w.cell? ⟨b,2,none⟩=some x2:=⟨h.cell 0 rfl,h.cell 1 rfl,h.cell 2 rfl⟩
theorem Blk.cells4 {x0 x1 x2 x3:Value} (h:Blk w b #[x0,x1,x2,x3] t):w.cell? ⟨b,0,none⟩=some x0∧w.cell? ⟨b,1,none⟩=some x1∧w.cell? ⟨b,2,none⟩=some x2∧w.cell? ⟨b,3,none⟩=some x3:=⟨h.cell 0 rfl,h.cell 1 rfl,h.cell 2 rfl,h.cell 3 rfl⟩
theorem Blk.free4 (h:Blk w b cs t):w.frozen? ⟨b,0,none⟩=false∧w.frozen? ⟨b,1,none⟩=false∧w.frozen? ⟨b,2,none⟩=false∧w.frozen? ⟨b,3,none⟩=false:=⟨h.free 0,h.free 1,h.free 2,h.free 3⟩
theorem Blk.set4 {x0 x1 x2 x3:Value} (h:Blk w b #[x0,x1,x2,x3] t) (y0 y1 y2 y3:Value):Blk ((((w.setCell ⟨b,0,none⟩ y0).setCell ⟨b,1,none⟩ y1).setCell ⟨b,2,none⟩ y2).setCell ⟨b,3,none⟩ y3) b #[y0,y1,y2,y3] t :=
 (((h.set 0 y0).set 1 y1).set 2 y2).set 3 y3
theorem Blk.far4 (h:Blk w b cs t) (hne:b'≠b) (y0 y1 y2 y3:Value):Blk ((((w.setCell ⟨b',0,none⟩ y0).setCell ⟨b',1,none⟩ y1).setCell ⟨b',2,none⟩ y2).setCell ⟨b',3,none⟩ y3) b cs t :=
 (((h.far 0 y0 hne).far 1 y1 hne).far 2 y2 hne).far 3 y3 hne
end
def SlRow (base:Nat) (e:TypeId) (size n:Nat) (xs:List Value) (v:Value) (u:World):Prop:=∃ A c,v=.slice A n c∧Row u base e size A n c xs
def SlRd (size n:Nat) (xs:List Value) (v:Value) (u:World):Prop:=∃ A c,v=.slice A n c∧Rd u A n size xs
def PtrBlk (base:Nat) (cs:Array Value) (t:TypeId) (v:Value) (u:World):Prop:=∃ b,v=.pointer (some ⟨b,0,none⟩)∧base≤b∧Blk u b cs t
section
variable {u w:World} {base size n:Nat} {e t:TypeId} {xs:List Value} {v:Value} {cs:Array Value}
theorem SlRow.below (h:SlRow base e size n xs v u) (hb:Below u.heap.size u w):SlRow base e size n xs v w:=by
 obtain⟨A,c,hv,hr⟩:=h
 exact⟨A,c,hv,hr.below hb⟩
theorem SlRd.below (h:SlRd size n xs v u) (hb:Below u.heap.size u w):SlRd size n xs v w:=by
 obtain⟨A,c,hv,hr⟩:=h
 exact⟨A,c,hv,hr.below hb⟩
theorem PtrBlk.below (h:PtrBlk base cs t v u) (hb:Below u.heap.size u w):PtrBlk base cs t v w:=by
 obtain⟨b,hv,hB,hk⟩:=h
 exact⟨b,hv,hB,hk.below hb⟩
theorem Row.nilB {A:Option Addr} {n c:Nat} (h:Row u base e size A n c xs) (hA:A=none):n=0∧c=0:=by
 subst hA
 rcases h with ⟨_,h | ⟨g,cap,cur,hv,_⟩⟩ | ⟨h1,h2,_⟩
 ·obtain⟨hv,h0⟩:=h
  cases hv
  exact⟨rfl,rfl⟩
 ·cases hv
 ·exact⟨h1,h2⟩
theorem Row.farT {A:Option Addr} {c b:Nat} (h:Row u base e size A n c xs) (hb:Blk u b cs t) (hne:t≠e) (i:Nat) (x:Value):Row (u.setCell ⟨b,i,none⟩ x) base e size A n c xs:=by
 have hb':u.heap[b]?=some (.cells cs t (0,0)):=hb
 rcases h with ⟨h1,h2⟩ | h
 ·refine .inl ⟨h1,?_⟩
  rcases h2 with h2 | ⟨g,cap,cur,hv,hg,hh,r⟩
  ·exact .inl h2
  ·have hgb:b≠g:=by
    intro h
    subst h
    rw[hb']at hh
    injection hh with hh
    injection hh with _ h2
    exact hne h2
   refine .inr ⟨g,cap,cur,hv,hg,?_,r⟩
   rw[← hh]
   unfold World.setCell
   simp only[Array.getElem?_modify]
   rw[if_neg hgb]
 ·exact .inr h
theorem Row.farT4 {A:Option Addr} {c b:Nat} (h:Row u base e size A n c xs) (hb:Blk u b cs t) (hne:t≠e) (y0 y1 y2 y3:Value):Row ((((u.setCell ⟨b,0,none⟩ y0).setCell ⟨b,1,none⟩ y1).setCell ⟨b,2,none⟩ y2).setCell ⟨b,3,none⟩ y3) base e size A n c xs :=
 (((h.farT hb hne 0 y0).farT (hb.set 0 y0) hne 1 y1).farT ((hb.set 0 y0).set 1 y1) hne 2 y2).farT (((hb.set 0 y0).set 1 y1).set 2 y2) hne 3 y3
theorem below_set {B:Nat} {a:World} (h:Below B a u) {b:Nat} (hb:B≤b) (i:Nat) (x:Value):Below B a (u.setCell ⟨b,i,none⟩ x):=h.setCell (p:=⟨b,i,none⟩) hb x
theorem below_four {B:Nat} {a:World} (h:Below B a u) {b:Nat} (hb:B≤b) (y0 y1 y2 y3:Value):Below B a ((((u.setCell ⟨b,0,none⟩ y0).setCell ⟨b,1,none⟩ y1).setCell ⟨b,2,none⟩ y2).setCell ⟨b,3,none⟩ y3) :=
 below_set (below_set (below_set (below_set h hb 0 y0) hb 1 y1) hb 2 y2) hb 3 y3
end
def Two (w:World) (X:Array Value) (tX:TypeId) (O:Array Value) (tO:TypeId) (u:World):Prop:=Blk u w.heap.size X tX∧Blk u (w.heap.size+1) O tO∧Below w.heap.size w u
section
variable {w u v:World} {X O:Array Value} {tX tO:TypeId}
theorem Two.start (w:World) (X:Array Value) (tX:TypeId) (O:Array Value) (tO:TypeId):Two w X tX O tO ((w.alloc (.cells X tX)).alloc (.cells O tO)):=by
 refine⟨(Blk.new w X _).alloc _,?_,((Below.refl _ _).alloc (Nat.le_refl _) _).alloc (by simp only[World.size_alloc];omega) _⟩
 have:=Blk.new (w.alloc (.cells X tX)) O tO
 rwa [World.size_alloc]at this
theorem Two.below (h:Two w X tX O tO u) (hb:Below u.heap.size u v):Two w X tX O tO v:=⟨h.1.below hb,h.2.1.below hb,below_then h.2.2.size h.2.2 hb⟩
theorem Two.alloc (h:Two w X tX O tO u) (o:Obj):Two w X tX O tO (u.alloc o):=h.below ((Below.refl _ _).alloc (Nat.le_refl _) _)
theorem Two.drew (h:Two w X tX O tO u):Two w X tX O tO u.drew:=h.below (Below.refl _ _).drew
theorem Two.size (h:Two w X tX O tO u):w.heap.size+2≤u.heap.size:=by have:=h.2.1.lt;omega
theorem Two.app {A A':Option Addr} {c c' base size n:Nat} {e:TypeId} {xs:List Value} (h:Two w X tX O tO u) (ha:App u v A c A' c') (hr:Row u base e size A n c xs) (hb:w.heap.size+2≤base) (hbu:base≤u.heap.size):Two w X tX O tO v :=
 ⟨h.1.app ha (fun k hk=>by have:=(hr.lt k hk).1;omega),h.2.1.app ha (fun k hk=>by have:=(hr.lt k hk).1;omega),h.2.2.trans ((ha.below hr hbu).mono (by omega))⟩
end
end Go.Proofs.YtkempjcphpnocaaGreatDoor
namespace Go.Proofs.YtkempjcphpnocaaGreatDoor
open Go.RowKit
def CRow (w:World) (base:Nat) (A:Option Addr) (n c:Nat) (bs:List UInt8):Prop :=
 bs.length=n∧n≤c∧(c=0∨∃ g,A=some ⟨g,0,none⟩∧base≤g∧g < w.heap.size∧(∀ j,j < c→(w.cell? ⟨g,j,none⟩).isSome=true∧w.frozen? ⟨g,j,none⟩=false)∧∀ j u,(bcells bs)[j]?=some u→w.cell? ⟨g,j,none⟩=some u)
section
variable {w w':World} {base n c:Nat} {A:Option Addr} {bs:List UInt8}
theorem CRow.none_ (w:World) (base:Nat):CRow w base none 0 0 []:=⟨rfl,Nat.le_refl _,.inl rfl⟩
theorem Row.crow (h:Row w base 5 1 A n c (bcells bs)):CRow w base A n c bs:=by
 have hl:bs.length=n:=by have:=h.len;simpa [bcells] using this
 refine⟨hl,h.cap.1,?_⟩
 rcases h with h | ⟨_,h0,_⟩
 ·have hrd:=Rd.of_own h
  rcases h.2 with ⟨hv,h0⟩ | ⟨g,cap,cur,hv,hb,hg,hle,hm,hs,ht⟩
  ·injection hv with _ _ hc
   exact .inl hc
  ·injection hv with hA _ hc
   subst hA
   subst hc
   refine .inr ⟨g,rfl,hb,(Array.getElem?_eq_some_iff.1 hg).1,fun j hj=>⟨?_,?_⟩,fun j u hu=>?_⟩
   ·rw[cell_of_row w g j cur _ _ hg]
    have:j < cur.size:=by rw[hs];omega
    simp [this]
   ·simp [World.frozen?,hg]
   ·have hj:j < bs.length:=by
     have:=(List.getElem?_eq_some_iff.1 hu).1
     simpa [bcells] using this
    obtain⟨b,o,e,_,hc⟩:=hrd.2 (by omega)
    cases e
    have:=hc j u hu
    rwa [Nat.zero_add]at this
 ·exact .inl h0
theorem CRow.rd (h:CRow w base A n c bs):Rd w A n 1 (bcells bs):=by
 obtain⟨h1,h2,h3⟩:=h
 refine⟨by simp [bcells,h1],fun hn=>?_⟩
 rcases h3 with h3 | ⟨g,hA,hb,hg,_,hc⟩
 ·omega
 ·exact⟨g,0,hA,hg,fun j u hu=>by rw[Nat.zero_add];exact hc j u hu⟩
theorem CRow.below (h:CRow w base A n c bs) (hb:Below w.heap.size w w'):CRow w' base A n c bs:=by
 obtain⟨h1,h2,h3⟩:=h
 refine⟨h1,h2,?_⟩
 rcases h3 with h3 | ⟨g,hA,hB,hg,hf,hc⟩
 ·exact .inl h3
 ·exact .inr ⟨g,hA,hB,Nat.lt_of_lt_of_le hg hb.size,fun j hj=>⟨by rw[hb.cell (p:=⟨g,j,none⟩) hg];exact (hf j hj).1,by rw[hb.frozen (p:=⟨g,j,none⟩) hg];exact (hf j hj).2⟩,fun j u hu=>(hb.cell (p:=⟨g,j,none⟩) hg).trans (hc j u hu)⟩
theorem CRow.alloc (h:CRow w base A n c bs) (o:Obj):CRow (w.alloc o) base A n c bs:=h.below ((Below.refl _ _).alloc (Nat.le_refl _) _)
theorem CRow.drewN (h:CRow w base A n c bs) (k:Nat):CRow (w.drewN k) base A n c bs:=h
theorem CRow.drew (h:CRow w base A n c bs):CRow w.drew base A n c bs:=h
theorem CRow.mono (h:CRow w base A n c bs) {base':Nat} (hb:base'≤base):CRow w base' A n c bs:=by
 obtain⟨h1,h2,h3⟩:=h
 refine⟨h1,h2,h3.imp id ?_⟩
 rintro⟨g,hA,hB,r⟩
 exact⟨g,hA,Nat.le_trans hb hB,r⟩
theorem CRow.lt (h:CRow w base A n c bs):∀ k,ownB A c=some k→base≤k∧k < w.heap.size:=by
 intro k hk
 unfold ownB at hk
 split at hk
 ·cases hk
 ·rename_i hc
  rcases h.2.2 with h3 | ⟨g,hA,hB,hg,_⟩
  ·exact absurd h3 hc
  ·subst hA
   simp at hk
   subst hk
   exact⟨hB,hg⟩
theorem App.belowC {A':Option Addr} {c':Nat} (h:App w w' A c A' c') (hr:CRow w base A n c bs) (hb:base≤w.heap.size):Below base w w' :=
 (Below.refl _ _).grown h.grown hb (fun k hk=>(hr.lt k hk).1)
theorem conv_sbC (w:World) (s:ByteArray):∃ c W,(convert 9 26 (.string s)).run Tryz.prog w=.ok (.slice (some ⟨w.heap.size,0,none⟩) s.size c) W∧CRow W w.heap.size (some ⟨w.heap.size,0,none⟩) s.size c (L s)∧Below w.heap.size w W:=by
 refine⟨_,_,run_bytes_of_string (P:=Tryz.prog) w 9 26 5 s Tryz.underlying9 Tryz.underlying26 Tryz.underlying5,?_,((Below.refl w.heap.size w).drew).alloc (Nat.le_refl _) _⟩
 generalize hC:grownCap w s.size 0 5=C
 have hge:s.size≤C:=by rw[← hC];exact grownCap_ge _ _ _ _
 have hsz:(bytesRow s C).size=C:=by
  have:s.data.size=s.size:=rfl
  simp [bytesRow,this]
  omega
 rw[hsz]
 have hrow:(w.drew.alloc (.cells (bytesRow s C) 5 (C,C+1))).heap[w.heap.size]?=some (.cells (bytesRow s C) 5 (C,C+1)):=heap_alloc_new w.drew _
 refine⟨(L_size s).symm,hge,.inr ⟨w.heap.size,rfl,Nat.le_refl _,by simp,fun j hj=>⟨?_,?_⟩,fun j u hu=>?_⟩⟩
 ·rw[cell_of_row _ w.heap.size j _ _ _ hrow]
  have:j < (bytesRow s C).size:=by rw[hsz];exact hj
  simp [this]
 ·simp only[World.frozen?,hrow]
  simp
  omega
 ·rw[cell_of_row _ w.heap.size j _ _ _ hrow,← hu]
  have hj:j < s.size:=by
   have:=(List.getElem?_eq_some_iff.1 hu).1
   rw[L_size]
   simpa [bcells] using this
  have hj':j < s.data.size:=hj
  unfold bytesRow
  rw[Array.getElem?_append_left (by simpa using hj')]
  simp [bcells,L]
end
section
variable {P:Program} (w:World)
theorem run_appC (t ty e:TypeId) (i:TypeInfo) (z:Value) (ht:P.underlying t=some (.slice e)) (hi:P.info? e=some i) (hz:i.zero=some z)
  (hsize:i.size=1) (hby:i.bytes=1) (hzs:z.cells.size=1) (hE:e=5)
  (base:Nat) (A:Option Addr) (n c:Nat) (bs:List UInt8) (hown:CRow w base A n c bs)
  (S:Option Addr) (m d:Nat) (news:List UInt8) (hr:Rd w S m 1 (bcells news)) (h63:n+m≤4398046511104) (hbase:base≤w.heap.size) :
  ∃ A' c' w',(Builtin.append_ #[t,t] ty #[.slice A n c,.slice S m d]).run P w=.ok (.slice A' (n+m) c') w'∧CRow w' base A' (n+m) c' (bs++news)∧App w w' A c A' c':=by
 have hnl:news.length=m:=by have:=hr.1;simpa [bcells] using this
 rcases Nat.eq_zero_or_pos m with h0 | h0
 ·subst h0
  have hn:news=[]:=List.eq_nil_of_length_eq_zero hnl
  subst hn
  exact⟨A,c,w,run_append_nothing w t ty e i ht hi A n c hown.2.1 S d,by simpa using hown,⟨World.grownBy.refl _ _,.inl ⟨rfl,rfl⟩⟩⟩
 ·obtain⟨hl,hnc,hcase⟩:=hown
  rcases hcase with hc0 | ⟨g,rfl,hB,hg,hf,hcl⟩
  ·subst hc0
   have hn0:n=0:=by omega
   subst hn0
   have hb0:bs=[]:=List.eq_nil_of_length_eq_zero hl
   subst hb0
   subst hE
   obtain⟨A',c',w',hrun,h2,h3⟩:=run_app (P:=P) w t ty 5 i z 1 1 ht hi hz hsize hby hzs (by omega) base A 0 0 [] (Row.empty _ _ _ _ _) S m d _ hr (bcells_one news) (by simp only[maxLen];omega) (by omega) hbase
   exact⟨A',c',w',hrun,Row.crow (by simpa using h2),h3⟩
  ·obtain⟨b,o,rfl,hlt,hc⟩:=hr.2 h0
   have hnews:∀ j u,(bcells news)[j]?=some u→w.cell? ((⟨b,o,none⟩:Addr).add j)=some u:=hr.cells _ rfl h0
   have hnl':(bcells news).length=m:=by simp [bcells,hnl]
   by_cases hroom:n+m≤c
   ·have hrun:=run_append_room_cells (P:=P) w t ty e i ht hi g 0 n c ⟨b,o,none⟩ m d (bcells news) (by rw[hsize,hnl'];omega) hnews (bcells_one news) hroom
     (fun j hj=>by rw[hsize,Nat.zero_add,Nat.mul_one];exact (hf _ (by omega)).1) (fun j hj=>by rw[hsize,Nat.zero_add,Nat.mul_one];exact (hf _ (by omega)).2)
    rw[hsize,Nat.zero_add,Nat.mul_one]at hrun
    have hsome:∀ j,j < (bcells news).length→(w.cell? ⟨g,n+j,none⟩).isSome=true:=fun j hj=>(hf _ (by omega)).1
    have hsz:(w.setCells g n (bcells news)).heap.size=w.heap.size:=by
     have:∀ (vs:List Value) (o:Nat) (u:World),(u.setCells g o vs).heap.size=u.heap.size:=by
      intro vs
      induction vs with
      | nil=>intro o u;rfl
      | cons v vs ih =>
       intro o u
       show ((u.setCell ⟨g,o,none⟩ v).setCells g (o+1) vs).heap.size=_
       rw[ih]
       simp [World.setCell]
     exact this _ _ _
    have hoth:∀ k,k≠g→(w.setCells g n (bcells news)).heap[k]?=w.heap[k]?:=by
     have:∀ (vs:List Value) (o:Nat) (u:World) (k:Nat),k≠g→(u.setCells g o vs).heap[k]?=u.heap[k]?:=by
      intro vs
      induction vs with
      | nil=>intro o u k _;rfl
      | cons v vs ih =>
       intro o u k hk
       show ((u.setCell ⟨g,o,none⟩ v).setCells g (o+1) vs).heap[k]?=_
       rw[ih _ _ k hk]
       unfold World.setCell
       simp only[Array.getElem?_modify]
       rw[if_neg (Ne.symm hk)]
     exact fun k hk=>this _ _ _ k hk
    refine⟨_,c,_,hrun,⟨by rw[List.length_append,hl,hnl],hroom,.inr ⟨g,rfl,hB,by rw[hsz];exact hg,fun j hj=>⟨?_,?_⟩,fun j u hu=>?_⟩⟩,⟨?_,.inl ⟨rfl,rfl⟩⟩⟩
    ·by_cases hin:n≤j∧j < n+(bcells news).length
     ·have:=World.cell?_setCells_in g (bcells news) n w hsome (j - n) (by omega)
      rw[show n+(j - n)=j from by omega]at this
      rw[this];rfl
     ·rw[World.cell?_setCells_out g (bcells news) n w ⟨g,j,none⟩ (fun _ _=>by simp only;omega)]
      exact (hf j hj).1
    ·rw[World.frozen?_setCells];exact (hf j hj).2
    ·have e:bcells (bs++news)=bcells bs++bcells news:=bcells_append bs news
     rw[e]at hu
     have hbl:(bcells bs).length=n:=by simp [bcells,hl]
     by_cases hin:j < n
     ·rw[List.getElem?_append_left (by omega)]at hu
      rw[World.cell?_setCells_out g (bcells news) n w ⟨g,j,none⟩ (fun _ _=>by simp only;omega)]
      exact hcl j u hu
     ·rw[List.getElem?_append_right (by omega),hbl]at hu
      have hj:=(List.getElem?_eq_some_iff.1 hu).1
      have:=World.cell?_setCells_in g (bcells news) n w hsome (j - n) hj
      rw[show n+(j - n)=j from by omega]at this
      rw[this,← (List.getElem?_eq_some_iff.1 hu).2]
    ·have hob:ownB (some ⟨g,0,none⟩) c=some g:=by unfold ownB;rw[if_neg (by omega)];rfl
     rw[hob]
     have hfl:∀ (vs:List Value) (o:Nat) (u:World),(u.setCells g o vs).os=u.os∧(u.setCells g o vs).tape=u.tape∧(u.setCells g o vs).output=u.output:=by
      intro vs
      induction vs with
      | nil=>intro o u;exact⟨rfl,rfl,rfl⟩
      | cons v vs ih =>
       intro o u
       have:=ih (o+1) (u.setCell ⟨g,o,none⟩ v)
       exact⟨this.1,this.2.1,this.2.2⟩
     exact⟨(hfl _ _ _).1,(hfl _ _ _).2.1,(hfl _ _ _).2.2,by rw[hsz];exact Nat.le_refl _,fun k _ hne=>hoth k (fun e=>hne (by rw[e]))⟩
   ·obtain⟨v',w',hrun,h2,h3⟩:=run_append_arg_grows (P:=P) w t ty e i z 1 1 ht hi hz hsize hby hzs (by omega) ⟨g,0,none⟩ n c (bcells bs) (by simp [bcells,hl]) (fun j u hu=>by
      have:(⟨g,0,none⟩:Addr).add j=⟨g,0+j,none⟩:=by unfold Addr.add;split<;>simp_all
      rw[this,Nat.zero_add];exact hcl j u hu) ⟨b,o,none⟩ m d (bcells news) (by rw[hnl'];omega) hnews (by omega) (by simp only[maxLen];omega) (by omega)
    obtain⟨g',cap,hv,hb',hh⟩:=h2.form (by omega)
    have ho:w'.ownsRow base e 1 v' (n+m) (bcells bs++bcells news):=by
     refine⟨h2.1,?_⟩
     rcases h2.2 with h | ⟨g2,cap2,cur2,hv2,hg2,r⟩
     ·exact .inl h
     ·exact .inr ⟨g2,cap2,cur2,hv2,Nat.le_trans hbase hg2,r⟩
    subst hv
    subst hE
    refine⟨_,_,_,hrun,Row.crow (.inl ?_),⟨⟨h3.os,h3.tape,h3.output,h3.size,fun k hk _=>h3.block k hk (by simp)⟩,.inr ⟨g',rfl,hb'⟩⟩⟩
    rw[bcells_append]
    exact ho
end
section
variable (w:World) {ops:Array Oper} {rest:List Oper} {o:Oper} {a:Act} {K:Act→World→Prop} {Q:Exit→Act→World→Prop}
theorem appC (hgd:o.guard=none) (s x:Operand) (ho:o.op=.call { callee:=.builtin .append,args:=#[s,x],argTypes:=#[26,26] })
  (base:Nat) (A:Option Addr) (n c:Nat) (xs:List UInt8) (hs:a.eval s=.slice A n c) (hown:CRow w base A n c xs)
  (S:Option Addr) (m d:Nat) (news:List UInt8) (hx:a.eval x=.slice S m d) (hr:Rd w S m 1 (bcells news)) (h63:n+m≤4398046511104) (hbase:base≤w.heap.size)
  (h:∀ A' c' w',CRow w' base A' (n+m) c' (xs++news)→App w w' A c A' c'→wpList Tryz.prog ops Q rest (a.put o.dst (.slice A' (n+m) c')) w'):wpList Tryz.prog ops Q (o::rest) a w :=
 wpList_plain hgd fun K hK=>by
  obtain⟨i0,hi0,hz0,hz1,hz2⟩:=info_parts Tryz.infoB
  obtain⟨A',c',w',hrun,h2,h3⟩:=run_appC (P:=Tryz.prog) w 26 o.type 5 i0 _ Tryz.underlying26 hi0 hz0 hz1 hz2 rfl rfl base A n c xs hown S m d news hr h63 hbase
  unfold Oper.wp execOp
  simp only[ho,resolve,invoke,builtin,Sem.run_bind,Sem.run_pure,Result.andThen_ok,List.map_toArray,List.map_cons,List.map_nil,hs,hx,hrun]
  exact hK _ _ (h A' c' w' h2 h3)
end
end Go.Proofs.YtkempjcphpnocaaGreatDoor
namespace Go.Proofs.YtkempjcphpnocaaGreatDoor
open Go Go.RowKit
theorem scell_bytes (s:ByteArray):(Array.map (fun b:UInt8=>Value.int IntKind.u8 (b.toNat:Int)) s.data)=(bcells (L s)).toArray:=by
 apply Array.ext'
 simp [bcells,L]
theorem extract_all (s:ByteArray):(Array.map (fun b:UInt8=>Value.int IntKind.u8 (b.toNat:Int)) s.data).extract 0 s.size=(bcells (L s)).toArray:=by
 rw[← scell_bytes]
 have hs:s.size=(Array.map (fun b:UInt8=>Value.int IntKind.u8 (b.toNat:Int)) s.data).size:=by rw[Array.size_map];rfl
 rw[hs,Array.extract_size]
section
variable {P:Program} (w:World)
theorem run_appStr (t u ty e:TypeId) (i:TypeInfo) (z:Value) (ht:P.underlying t=some (.slice e)) (hu:P.underlying u=some .string) (hi:P.info? e=some i) (hz:i.zero=some z)
  (hsize:i.size=1) (hby:i.bytes=1) (hzs:z.cells.size=1) (hE:e=5)
  (base g n c:Nat) (bs:List UInt8) (hc0:c≠0) (hown:CRow w base (some ⟨g,0,none⟩) n c bs)
  (s:ByteArray) (h63:n+s.size≤4398046511104) (hbase:base≤w.heap.size) :
  ∃ A' c' w',(Builtin.append_ #[t,u] ty #[.slice (some ⟨g,0,none⟩) n c,.string s]).run P w=.ok (.slice A' (n+s.size) c') w'∧CRow w' base A' (n+s.size) c' (bs++L s)∧App w w' (some ⟨g,0,none⟩) c A' c':=by
 obtain⟨hl,hnc,hcase⟩:=hown
 rcases hcase with h | ⟨g2,hg2,hB,hg,hf,hcl⟩
 ·exact absurd h hc0
 have hgg:g2=g:=by
  injection hg2 with h
  injection h with h
  exact h.symm
 subst hgg
 have hnl:(bcells (L s)).length=s.size:=by rw[bcells_length,L_size]
 have hLs:(L s).length=s.size:=(L_size s).symm
 by_cases hroom:n+s.size≤c
 ·have hst:=run_storeCells_cells (P:=P) g2 n (bcells (L s)) 0 w (fun j hj=>by simp at hj ⊢;exact (hf _ (by omega)).1) (fun j hj=>by simp at hj ⊢;exact (hf _ (by omega)).2) (bcells_one _)
  simp only[Nat.add_zero]at hst
  have hrun:(Builtin.append_ #[t,u] ty #[.slice (some ⟨g2,0,none⟩) n c,.string s]).run P w=.ok (.slice (some ⟨g2,0,none⟩) (n+s.size) c) (w.setCells g2 n (bcells (L s))):=by
   have hx:=extract_all s
   simp [Builtin.append_,run_underlying ht,run_underlying hu,sizeOf,typeInfo,hi,hsize,Builtin.lenOf,Builtin.firstCells,hroom,Addr.add_lit,hx,hst]
  have hsome:∀ j,j < (bcells (L s)).length→(w.cell? ⟨g2,n+j,none⟩).isSome=true:=fun j hj=>(hf _ (by omega)).1
  have hsz:∀ (vs:List Value) (o:Nat) (u:World),(u.setCells g2 o vs).heap.size=u.heap.size:=by
   intro vs
   induction vs with
   | nil=>intro o u;rfl
   | cons v vs ih =>
    intro o u
    show ((u.setCell ⟨g2,o,none⟩ v).setCells g2 (o+1) vs).heap.size=_
    rw[ih]
    simp [World.setCell]
  have hoth:∀ (vs:List Value) (o:Nat) (u:World) (k:Nat),k≠g2→(u.setCells g2 o vs).heap[k]?=u.heap[k]?:=by
   intro vs
   induction vs with
   | nil=>intro o u k _;rfl
   | cons v vs ih =>
    intro o u k hk
    show ((u.setCell ⟨g2,o,none⟩ v).setCells g2 (o+1) vs).heap[k]?=_
    rw[ih _ _ k hk]
    unfold World.setCell
    simp only[Array.getElem?_modify]
    rw[if_neg (Ne.symm hk)]
  refine⟨_,c,_,hrun,⟨by rw[List.length_append,hl,hLs],hroom,.inr ⟨g2,rfl,hB,by rw[hsz];exact hg,fun j hj=>⟨?_,?_⟩,fun j u hu=>?_⟩⟩,⟨?_,.inl ⟨rfl,rfl⟩⟩⟩
  ·by_cases hin:n≤j∧j < n+(bcells (L s)).length
   ·have:=World.cell?_setCells_in g2 (bcells (L s)) n w hsome (j - n) (by omega)
    rw[show n+(j - n)=j from by omega]at this
    rw[this];rfl
   ·rw[World.cell?_setCells_out g2 (bcells (L s)) n w ⟨g2,j,none⟩ (fun _ _=>by simp only;omega)]
    exact (hf j hj).1
  ·rw[World.frozen?_setCells];exact (hf j hj).2
  ·have e:bcells (bs++L s)=bcells bs++bcells (L s):=bcells_append bs (L s)
   rw[e]at hu
   have hbl:(bcells bs).length=n:=by simp [bcells,hl]
   by_cases hin:j < n
   ·rw[List.getElem?_append_left (by omega)]at hu
    rw[World.cell?_setCells_out g2 (bcells (L s)) n w ⟨g2,j,none⟩ (fun _ _=>by simp only;omega)]
    exact hcl j u hu
   ·rw[List.getElem?_append_right (by omega),hbl]at hu
    have hj:=(List.getElem?_eq_some_iff.1 hu).1
    have:=World.cell?_setCells_in g2 (bcells (L s)) n w hsome (j - n) hj
    rw[show n+(j - n)=j from by omega]at this
    rw[this,← (List.getElem?_eq_some_iff.1 hu).2]
  ·have hob:ownB (some ⟨g2,0,none⟩) c=some g2:=by unfold ownB;rw[if_neg hc0];rfl
   rw[hob]
   have hfl:∀ (vs:List Value) (o:Nat) (u:World),(u.setCells g2 o vs).os=u.os∧(u.setCells g2 o vs).tape=u.tape∧(u.setCells g2 o vs).output=u.output:=by
    intro vs
    induction vs with
    | nil=>intro o u;exact⟨rfl,rfl,rfl⟩
    | cons v vs ih =>
     intro o u
     have:=ih (o+1) (u.setCell ⟨g2,o,none⟩ v)
     exact⟨this.1,this.2.1,this.2.2⟩
   exact⟨(hfl _ _ _).1,(hfl _ _ _).2.1,(hfl _ _ _).2.2,by rw[hsz];exact Nat.le_refl _,fun k _ hne=>hoth _ _ _ k (fun e=>hne (by rw[e]))⟩
 ·have hn:¬ (n+s.size≤c):=hroom
  have h63':¬ (9223372036854775807 < ((n:Int)+(s.size:Int))):=by omega
  have hfit:Builtin.nextslicecap (n+s.size) c * i.bytes≤281474976710656:=growslice_fits (by omega) (by rw[hby];omega)
  have h48':¬ (281474976710656 < Builtin.nextslicecap (n+s.size) c * i.bytes):=by omega
  have hfo:=run_firstCells_some (P:=P) w.drew i.size n ⟨g2,0,none⟩ n c (bcells bs) (by rw[hsize,bcells_length,hl,Nat.mul_one]) (fun j v hv=>by
   have:(⟨g2,0,none⟩:Addr).add j=⟨g2,0+j,none⟩:=by unfold Addr.add;split<;>simp_all
   rw[this,Nat.zero_add]
   simpa using hcl j v hv)
  have hge:=grownCap_ge w (n+s.size) c e
  have hcm:grownCap w (n+s.size) c e≤maxLen:=grownCap_le_maxLen w (n+s.size) c e (by simp only[maxLen];omega)
  obtain⟨cs,hcs⟩:∃ cs,cs=(bcells bs++bcells (L s)).toArray++Builtin.zeroCells z.cells (grownCap w (n+s.size) c e - (n+s.size)):=⟨_,rfl⟩
  have hrun:(Builtin.append_ #[t,u] ty #[.slice (some ⟨g2,0,none⟩) n c,.string s]).run P w=.ok (.slice (some ⟨w.heap.size,0,none⟩) (n+s.size) (grownCap w (n+s.size) c e)) (w.drew.alloc (.cells cs e)):=by
   have hx:=extract_all s
   simp [Builtin.append_,run_underlying ht,run_underlying hu,sizeOf,typeInfo,zeroValue,hi,hz,Builtin.lenOf,hn,h63',h48',Question.forced,hfo,newRow,grownCap]
   simp [Builtin.firstCells,hcs,grownCap,scell_bytes]
   rw[← Array.append_assoc,show (bcells bs).toArray++(bcells (L s)).toArray=(bcells bs++bcells (L s)).toArray by simp]
  have hrow:(w.drew.alloc (.cells cs e)).heap[w.heap.size]?=some (.cells cs e (0,0)):=heap_alloc_new w.drew _
  have hl2:(bcells bs++bcells (L s)).length=n+s.size:=by rw[List.length_append,bcells_length,hl,hnl]
  have hcsz:cs.size=grownCap w (n+s.size) c e:=by
   rw[hcs,Array.size_append,List.size_toArray,size_zeroCells,hzs,hl2]
   omega
  have hown:(w.drew.alloc (.cells cs e)).ownsRow w.heap.size e 1 (.slice (some ⟨w.heap.size,0,none⟩) (n+s.size) (grownCap w (n+s.size) c e)) (n+s.size) (bcells bs++bcells (L s)):=by
   refine⟨by rw[hl2,Nat.mul_one],.inr ⟨w.heap.size,_,_,rfl,Nat.le_refl _,hrow,hge,hcm,by rw[hcsz,Nat.mul_one],?_⟩⟩
   rw[hcs,Array.toList_append,Nat.mul_one]
   have h9:(bcells bs++bcells (L s)).toArray.toList.length=n+s.size:=by simpa using hl2
   rw[← h9]
   exact List.take_left
  subst hE
  have hgr:World.grownBy w (w.drew.alloc (.cells cs 5)) (ownB (some ⟨g2,0,none⟩) c):=⟨rfl,rfl,rfl,by simp,fun k hk _=>Below.heap_alloc w.drew _ k hk⟩
  refine⟨_,_,_,hrun,(Row.crow (.inl ?_)).mono hbase,⟨hgr,.inr ⟨_,rfl,Nat.le_refl _⟩⟩⟩
  rw[bcells_append]
  exact hown
end
section
variable (w:World) {ops:Array Oper} {rest:List Oper} {o:Oper} {a:Act} {K:Act→World→Prop} {Q:Exit→Act→World→Prop}
theorem Tryz.undStr:Tryz.prog.underlying 9=some .string:=by kernel_rfl
theorem appStr (hgd:o.guard=none) (s x:Operand) (ho:o.op=.call { callee:=.builtin .append,args:=#[s,x],argTypes:=#[26,9] })
  (base g n c:Nat) (xs:List UInt8) (hs:a.eval s=.slice (some ⟨g,0,none⟩) n c) (hc0:c≠0) (hown:CRow w base (some ⟨g,0,none⟩) n c xs)
  (str:ByteArray) (hx:a.eval x=.string str) (h63:n+str.size≤4398046511104) (hbase:base≤w.heap.size)
  (h:∀ A' c' w',CRow w' base A' (n+str.size) c' (xs++L str)→App w w' (some ⟨g,0,none⟩) c A' c'→wpList Tryz.prog ops Q rest (a.put o.dst (.slice A' (n+str.size) c')) w'):wpList Tryz.prog ops Q (o::rest) a w :=
 wpList_plain hgd fun K hK=>by
  obtain⟨i0,hi0,hz0,hz1,hz2⟩:=info_parts Tryz.infoB
  obtain⟨A',c',w',hrun,h2,h3⟩:=run_appStr (P:=Tryz.prog) w 26 9 o.type 5 i0 _ Tryz.underlying26 Tryz.undStr hi0 hz0 hz1 hz2 rfl rfl base g n c xs hc0 hown str h63 hbase
  unfold Oper.wp execOp
  simp only[ho,resolve,invoke,builtin,Sem.run_bind,Sem.run_pure,Result.andThen_ok,List.map_toArray,List.map_cons,List.map_nil,hs,hx,hrun]
  exact hK _ _ (h A' c' w' h2 h3)
end
end Go.Proofs.YtkempjcphpnocaaGreatDoor
namespace Go.Proofs.YtkempjcphpnocaaGreatDoor
open Go.RowKit
set_option maxHeartbeats 400000 in
theorem sameFields_any (A B:Option Addr) (n m c d:Nat) (xs ys:List FD) (w:World) (hn:n≤1099511627776) (hm:m≤1099511627776) (hx:Rd w A n 2 (fcells xs)) (hy:Rd w B m 2 (fcells ys)) (hxl:xs.length=n) (hyl:ys.length=m) :
  Calls Tryz.prog 86 #[.slice A n c,.slice B m d] w (RetB w (decide (xs=ys))):=by
 have HX:=Lib.hid hxl
 have HY:=Lib.hid hyl
 clear hxl hyl
 by_cases hnm:n=m
 ·subst hnm
  go_enter Tryz.func86,Tryz.ntmps86
  go_wp2
  go_loopw [5] (fun i wr=>∃ k:Nat,k≤n∧i=.int .i64 k∧xs.take k=ys.take k∧∃ q,wr=w.drewN q) (fun i _=>n - (intOf i).toNat)
  case atStart=>exact⟨0,Nat.zero_le _,rfl,rfl,0,rfl⟩
  case round =>
   obtain⟨k,hk,rfl,he,q,rfl⟩:=hrel
   have HE:=Lib.hid he;clear he
   by_cases hlt:k < n
   ·obtain⟨b1,o1,rfl,hl1,c1,c2⟩:=hx.field hlt HX.out
    obtain⟨b2,o2,rfl,hl2,d1,d2⟩:=hy.field hlt HY.out
    have hneq:=fun w=>neqF (xs[k]'(by have:=HX.out;omega)) (ys[k]'(by have:=HY.out;omega)) w
    have hdec:=tf (decide (xs[k]'(by have:=HX.out;omega)=ys[k]'(by have:=HY.out;omega)))
    rcases hdec with hd | hd
    ·go_wp2
     go_region
     go_wp2
     go_roundw
     case rel=>exact⟨k+1,by omega,by go_num,take_eq_snoc _ _ HE.out (of_decide_eq_true hd),_,rfl⟩
     case measure=>simp [intOf];omega
    ·go_wp2
     go_region
     go_wp2
     go_ret
     exact⟨ret_bool (by
      symm;apply decide_eq_false
      intro e
      subst e
      simp at hd),below_drewN (Below.refl _ _) _⟩
   ·have hkn:k=n:=by omega
    have hfin:xs=ys:=by
     have:=HE.out
     have h1:=HX.out
     have h2:=HY.out
     rw[List.take_of_length_le (by omega),List.take_of_length_le (by omega)]at this
     exact this
    have HF:=Lib.hid hfin
    clear hkn hfin
    go_wp2
    go_ret
    exact⟨ret_bool (by rw[decide_eq_true HF.out]),below_drewN (Below.refl _ _) _⟩
 ·have h1:((n:Int)==(m:Int))=false:=by simp;omega
  have h2:((n:Int) != (m:Int))=true:=by simp;omega
  go_enter Tryz.func86,Tryz.ntmps86
  go_wp2
  go_ret
  exact⟨ret_bool (by have:=HX.out;have:=HY.out;symm;apply decide_eq_false;rintro rfl;omega),Below.refl _ _⟩
set_option maxHeartbeats 400000 in
theorem copyFields_any (A:Option Addr) (n c:Nat) (xs:List FD) (w:World) (hn:n≤1099511627776) (hx:Rd w A n 2 (fcells xs)) :
  Calls Tryz.prog 80 #[.slice A n c] w (RetRow w 167 2 n (fcells xs)):=by
 go_enter Tryz.func80,Tryz.ntmps80
 go_wp2_with (at_builtin;refine appF _ rfl (.tmp 5) (.tmp 6) rfl w.heap.size _ 0 0 [] rfl (Row.empty _ _ _ _ _) A n c xs rfl (hx.alloc _) (by omega) (by simp) ?_;intro A1 c1 w1 hr1 ha1;simp only[Nat.zero_add,List.nil_append]at hr1)
 go_ret
 exact⟨A1,c1,by simp,hr1,((Below.refl _ _).alloc (Nat.le_refl _) _).trans (ha1.below (Row.empty _ _ 167 2 _) (by simp))⟩
end Go.Proofs.YtkempjcphpnocaaGreatDoor
namespace Go.Proofs.YtkempjcphpnocaaGreatDoor
open Go.RowKit
theorem trimS_eq (l:List UInt8):Lib.trimS l [32,9]=T.trim l:=by
 unfold Lib.trimS Lib.trimLeftS Lib.trimRightS T.trim
 have:T.blank=fun c=>([32,9]:List UInt8).contains c:=funext T.blank_eq
 rw[T.trim_comm,T.trimR,this]
theorem strTrim (s:ByteArray) (w:World) (hs:s.size≤1099511627776):Calls Tryz.prog 54 #[.string s,.string ⟨#[32,9]⟩] w (RetS w (B (T.trim (L s)))):=by
 refine (Any.strings_Trim_laid Tryz.lays160 (by kernel_rfl) s ⟨#[32,9]⟩ w (by omega) (by decide) (ascii_of_all (by decide))).mono ?_
 rintro e w' ⟨rfl,hb⟩
 refine⟨?_,hb⟩
 rw[← trimS_eq];rfl
set_option maxHeartbeats 400000 in
theorem trim_any (s:ByteArray) (w:World) (hs:s.size≤1099511627776) :
  Calls Tryz.prog 175 #[.string s] w (RetS w (B (T.trim (L s)))):=by
 go_enter Tryz.func175,Tryz.ntmps175
 go_wp2_with fail
 refine (strTrim s w hs).mono ?_
 rintro e w1 ⟨rfl,hb1⟩
 go_wp2
 go_ret
 exact⟨rfl,hb1⟩
def SplitAt (c:UInt8) (l:List UInt8) (k f:Nat) (q:Bool) (done:List (List UInt8)):Prop :=
 f≤k∧f≤l.length∧k≤l.length+1∧T.pieces c false [] l=done++T.pieces c q ((l.take k).drop f) (l.drop k)
theorem SplitAt.start (c:UInt8) (l:List UInt8):SplitAt c l 0 0 false []:=⟨Nat.le_refl _,Nat.zero_le _,Nat.zero_le _,by simp⟩
theorem SplitAt.cut {c:UInt8} {l:List UInt8} {k f:Nat} {done:List (List UInt8)} (h:SplitAt c l k f false done) (hk:k < l.length) (h34:¬ l[k]=34) (hx:l[k]=c):SplitAt c l (k+1) (k+1) false (done++[(l.take k).drop f]):=by
 refine⟨Nat.le_refl _,by omega,by omega,?_⟩
 rw[h.2.2.2,T.pieces_step c false hk h.1,if_neg (by simp),if_neg h34,if_pos ⟨rfl,hx⟩,List.append_assoc];rfl
theorem SplitAt.on {c:UInt8} {l:List UInt8} {k f:Nat} {q:Bool} {done:List (List UInt8)} (h:SplitAt c l k f q done) (hk:k < l.length) (h92:¬ (q=true∧l[k]=92)) (h34:¬ l[k]=34) (hx:¬ (q=false∧l[k]=c)):SplitAt c l (k+1) f q done:=by
 refine⟨by have:=h.1;omega,h.2.1,by omega,?_⟩
 rw[h.2.2.2,T.pieces_step c q hk h.1,if_neg h92,if_neg h34,if_neg hx]
theorem SplitAt.fin {c:UInt8} {l:List UInt8} {k f:Nat} {q:Bool} {done:List (List UInt8)} (h:SplitAt c l k f q done) (hk:l.length≤k):T.pieces c false [] l=done++[l.drop f]:=by
 rw[h.2.2.2,T.pieces_end c q hk]
end Go.Proofs.YtkempjcphpnocaaGreatDoor
