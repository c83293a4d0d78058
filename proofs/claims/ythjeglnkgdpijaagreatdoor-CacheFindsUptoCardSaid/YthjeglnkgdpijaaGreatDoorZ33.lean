/- A block of the call's own, known whole: what it holds behind calls, allocations and stores. A row of bytes of the call's own, told by its cells: a marked one ('[]byte(s)') too; append onto it. The walks of tok: Fold, and of the document's Lower. The walks of tok.Trim, split, List, and of the document's Trim, Pieces, List. The walks of tok.List, and of the document's Trim and List. Conditions: as each theorem states them. -/
import Derived.Test.YthjeglnkgdpijaaGreatDoorLib
import Derived.Test.YthjeglnkgdpijaaGreatDoorShelf
import Derived.Shelf.Strings.SlTrimAscii
set_option maxHeartbeats 1000000
namespace Go.Proofs.YthjeglnkgdpijaaGreatDoor
open Go.RowKit
def Blk (w:World) (b:Nat) (cs:Array Value) (t:TypeId):Prop:=w.heap[b]?=some (.cells cs t (0,0))
section
variable {w w':World} {b b':Nat} {cs:Array Value} {t:TypeId} {A A':Option Addr} {c c':Nat}
theorem Blk.new (w:World) (cs:Array Value) (t:TypeId):Blk (w.alloc (.cells cs t)) w.heap.size cs t:=heap_alloc_new w _
theorem Blk.lt (h:Blk w b cs t):b < w.heap.size:=(Array.getElem?_eq_some_iff.1 h).1
theorem Blk.below (h:Blk w b cs t) (hb:Below w.heap.size w w'):Blk w' b cs t:=(hb.block b h.lt).trans h
theorem Blk.under {B:Nat} (h:Blk w b cs t) (hb:Below B w w') (hB:b < B):Blk w' b cs t:=(hb.block b hB).trans h
theorem Blk.alloc (h:Blk w b cs t) (o:Obj):Blk (w.alloc o) b cs t:=h.below ((zB _ _).alloc (zA _) _)
theorem Blk.next {o:Obj} (h:Blk w b cs t) (hb:Below (w.alloc o).heap.size (w.alloc o) w'):Blk w' b cs t:=(h.alloc o).below hb
theorem Blk.drew (h:Blk w b cs t):Blk w.drew b cs t:=h
theorem Blk.drewN (h:Blk w b cs t) (k:Nat):Blk (w.drewN k) b cs t:=h
theorem Blk.cell (h:Blk w b cs t) (i:Nat) {v:Value} (hi:cs[i]?=some v):w.cell? ⟨b,i,none⟩=some v:=(cell_of_row w b i cs t (0,0) h).trans hi
theorem Blk.free (h:Blk w b cs t) (i:Nat):w.frozen? ⟨b,i,none⟩=false:=by
 have h':w.heap[b]?=some (.cells cs t (0,0)):=h
 simp [World.frozen?,h']
theorem Blk.set (h:Blk w b cs t) (i:Nat) (v:Value):Blk (w.setCell ⟨b,i,none⟩ v) b (cs.setIfInBounds i v) t:=by
 have h':w.heap[b]?=some (.cells cs t (0,0)):=h
 unfold Blk World.setCell
 simp only[Array.getElem?_modify,if_true,h']
 rfl
theorem Blk.far (h:Blk w b cs t) (i:Nat) (v:Value) (hne:b'≠b):Blk (w.setCell ⟨b',i,none⟩ v) b cs t:=by
 have h':w.heap[b]?=some (.cells cs t (0,0)):=h
 unfold Blk World.setCell
 simp only[Array.getElem?_modify]
 rw[if_neg hne]
 exact h'
theorem Blk.app (h:Blk w b cs t) (ha:App w w' A c A' c') (hne:∀ k,ownB A c=some k→k≠b):Blk w' b cs t :=
 (ha.grown.block b h.lt (fun e=>hne b e.symm rfl)).trans h
theorem Blk.cells1 {x0:Value} (h:Blk w b #[x0] t):w.cell? ⟨b,0,none⟩=some x0:=h.cell 0 rfl
theorem Blk.cells2 {x0 x1:Value} (h:Blk w b #[x0,x1] t):w.cell? ⟨b,0,none⟩=some x0∧w.cell? ⟨b,1,none⟩=some x1:=⟨h.cell 0 rfl,h.cell 1 rfl⟩
theorem Blk.cells4 {x0 x1 x2 x3:Value} (h:Blk w b #[x0,x1,x2,x3] t):w.cell? ⟨b,0,none⟩=some x0∧w.cell? ⟨b,1,none⟩=some x1∧w.cell? ⟨b,2,none⟩=some x2∧w.cell? ⟨b,3,none⟩=some x3:=⟨h.cell 0 rfl,h.cell 1 rfl,h.cell 2 rfl,h.cell 3 rfl⟩
theorem Blk.free4 (h:Blk w b cs t):w.frozen? ⟨b,0,none⟩=false∧w.frozen? ⟨b,1,none⟩=false∧w.frozen? ⟨b,2,none⟩=false∧w.frozen? ⟨b,3,none⟩=false:=⟨h.free 0,h.free 1,h.free 2,h.free 3⟩
theorem Blk.set4 {x0 x1 x2 x3:Value} (h:Blk w b #[x0,x1,x2,x3] t) (y0 y1 y2 y3:Value):Blk ((((w.setCell ⟨b,0,none⟩ y0).setCell ⟨b,1,none⟩ y1).setCell ⟨b,2,none⟩ y2).setCell ⟨b,3,none⟩ y3) b #[y0,y1,y2,y3] t :=
 (((h.set 0 y0).set 1 y1).set 2 y2).set 3 y3
end
def aQO (base:Nat) (e:TypeId) (size n:Nat) (xs:List Value) (v:Value) (u:World):Prop:=∃ A c,v=.slice A n c∧Row u base e size A n c xs
def SlRd (size n:Nat) (xs:List Value) (v:Value) (u:World):Prop:=∃ A c,v=.slice A n c∧Rd u A n size xs
def aF5 (base:Nat) (cs:Array Value) (t:TypeId) (v:Value) (u:World):Prop:=∃ b,v=.pointer (some ⟨b,0,none⟩)∧base≤b∧Blk u b cs t
section
variable {u w:World} {base size n:Nat} {e t:TypeId} {xs:List Value} {v:Value} {cs:Array Value}
theorem aQO.below (h:aQO base e size n xs v u) (hb:Below u.heap.size u w):aQO base e size n xs v w:=by
 obtain⟨A,c,hv,hr⟩:=h
 exact⟨A,c,hv,hr.below hb⟩
theorem SlRd.below (h:SlRd size n xs v u) (hb:Below u.heap.size u w):SlRd size n xs v w:=by
 obtain⟨A,c,hv,hr⟩:=h
 exact⟨A,c,hv,hr.below hb⟩
theorem aF5.below (h:aF5 base cs t v u) (hb:Below u.heap.size u w):aF5 base cs t v w:=by
 obtain⟨b,hv,hB,hk⟩:=h
 exact⟨b,hv,hB,hk.below hb⟩
theorem Row.farT {A:Option Addr} {c b:Nat} (h:Row u base e size A n c xs) (hb:Blk u b cs t) (hne:t≠e) (i:Nat) (x:Value):Row (u.setCell ⟨b,i,none⟩ x) base e size A n c xs:=by
 have hb':u.heap[b]?=some (.cells cs t (0,0)):=hb
 rcases h with ⟨h1,h2⟩ | h
 ·refine .inl ⟨h1,?_⟩
  rcases h2 with h2 | ⟨g,cap,cur,hv,hg,hh,r⟩
  ·exact .inl h2
  ·have hgb:b≠g:=by
    intro h
    subst h
    rw[hb']at hh
    injection hh with hh
    injection hh with _ h2
    exact hne h2
   refine .inr ⟨g,cap,cur,hv,hg,?_,r⟩
   rw[← hh]
   unfold World.setCell
   simp only[Array.getElem?_modify]
   rw[if_neg hgb]
 ·exact .inr h
theorem Row.farT4 {A:Option Addr} {c b:Nat} (h:Row u base e size A n c xs) (hb:Blk u b cs t) (hne:t≠e) (y0 y1 y2 y3:Value):Row ((((u.setCell ⟨b,0,none⟩ y0).setCell ⟨b,1,none⟩ y1).setCell ⟨b,2,none⟩ y2).setCell ⟨b,3,none⟩ y3) base e size A n c xs :=
 (((h.farT hb hne 0 y0).farT (hb.set 0 y0) hne 1 y1).farT ((hb.set 0 y0).set 1 y1) hne 2 y2).farT (((hb.set 0 y0).set 1 y1).set 2 y2) hne 3 y3
theorem aK {B:Nat} {a:World} (h:Below B a u) {b:Nat} (hb:B≤b) (i:Nat) (x:Value):Below B a (u.setCell ⟨b,i,none⟩ x):=h.setCell (p:=⟨b,i,none⟩) hb x
theorem bY {B:Nat} {a:World} (h:Below B a u) {b:Nat} (hb:B≤b) (y0 y1 y2 y3:Value):Below B a ((((u.setCell ⟨b,0,none⟩ y0).setCell ⟨b,1,none⟩ y1).setCell ⟨b,2,none⟩ y2).setCell ⟨b,3,none⟩ y3) :=
 aK (aK (aK (aK h hb 0 y0) hb 1 y1) hb 2 y2) hb 3 y3
end
def Two (w:World) (X:Array Value) (tX:TypeId) (O:Array Value) (tO:TypeId) (u:World):Prop:=Blk u w.heap.size X tX∧Blk u (w.heap.size+1) O tO∧Below w.heap.size w u
section
variable {w u v:World} {X O:Array Value} {tX tO:TypeId}
theorem Two.start (w:World) (X:Array Value) (tX:TypeId) (O:Array Value) (tO:TypeId):Two w X tX O tO ((w.alloc (.cells X tX)).alloc (.cells O tO)):=by
 refine⟨(Blk.new w X _).alloc _,?_,((zB _ _).alloc (zA _) _).alloc (by simp only[bJ];omega) _⟩
 have:=Blk.new (w.alloc (.cells X tX)) O tO
 rwa [bJ]at this
theorem Two.below (h:Two w X tX O tO u) (hb:Below u.heap.size u v):Two w X tX O tO v:=⟨h.1.below hb,h.2.1.below hb,aA h.2.2.size h.2.2 hb⟩
theorem Two.alloc (h:Two w X tX O tO u) (o:Obj):Two w X tX O tO (u.alloc o):=h.below ((zB _ _).alloc (zA _) _)
theorem Two.drew (h:Two w X tX O tO u):Two w X tX O tO u.drew:=h.below (zB _ _).drew
theorem Two.size (h:Two w X tX O tO u):w.heap.size+2≤u.heap.size:=by have:=h.2.1.lt;omega
theorem Two.app {A A':Option Addr} {c c' base size n:Nat} {e:TypeId} {xs:List Value} (h:Two w X tX O tO u) (ha:App u v A c A' c') (hr:Row u base e size A n c xs) (hb:w.heap.size+2≤base) (hbu:base≤u.heap.size):Two w X tX O tO v :=
 ⟨h.1.app ha (fun k hk=>by have:=(hr.lt k hk).1;omega),h.2.1.app ha (fun k hk=>by have:=(hr.lt k hk).1;omega),h.2.2.trans ((ha.below hr hbu).mono (by omega))⟩
end
def bZ (w:World) (base:Nat) (A:Option Addr) (n c:Nat) (bs:List UInt8):Prop :=
 bs.length=n∧n≤c∧(c=0∨∃ g,A=some ⟨g,0,none⟩∧base≤g∧g < w.heap.size∧(∀ j,j < c→(w.cell? ⟨g,j,none⟩).isSome=true∧w.frozen? ⟨g,j,none⟩=false)∧∀ j u,(aB bs)[j]?=some u→w.cell? ⟨g,j,none⟩=some u)
section
variable {w w':World} {base n c:Nat} {A:Option Addr} {bs:List UInt8}
theorem bZ.none_ (w:World) (base:Nat):bZ w base none 0 0 []:=⟨rfl,zA _,.inl rfl⟩
theorem Row.crow (h:Row w base 5 1 A n c (aB bs)):bZ w base A n c bs:=by
 have hl:bs.length=n:=by have:=h.len;simpa [aB] using this
 refine⟨hl,h.cap.1,?_⟩
 rcases h with h | ⟨_,h0,_⟩
 ·have hrd:=Rd.of_own h
  rcases h.2 with ⟨hv,h0⟩ | ⟨g,cap,cur,hv,hb,hg,hle,hm,hs,ht⟩
  ·injection hv with _ _ hc
   exact .inl hc
  ·injection hv with hA _ hc
   subst hA
   subst hc
   refine .inr ⟨g,rfl,hb,(Array.getElem?_eq_some_iff.1 hg).1,fun j hj=>⟨?_,?_⟩,fun j u hu=>?_⟩
   ·rw[cell_of_row w g j cur _ _ hg]
    have:j < cur.size:=by rw[hs];omega
    simp [this]
   ·simp [World.frozen?,hg]
   ·have hj:j < bs.length:=by
     have:=(List.getElem?_eq_some_iff.1 hu).1
     simpa [aB] using this
    obtain⟨b,o,e,_,hc⟩:=hrd.2 (by omega)
    cases e
    have:=hc j u hu
    rwa [Nat.zero_add]at this
 ·exact .inl h0
theorem bZ.rd (h:bZ w base A n c bs):Rd w A n 1 (aB bs):=by
 obtain⟨h1,h2,h3⟩:=h
 refine⟨by simp [aB,h1],fun hn=>?_⟩
 rcases h3 with h3 | ⟨g,hA,hb,hg,_,hc⟩
 ·omega
 ·exact⟨g,0,hA,hg,fun j u hu=>by rw[Nat.zero_add];exact hc j u hu⟩
theorem bZ.below (h:bZ w base A n c bs) (hb:Below w.heap.size w w'):bZ w' base A n c bs:=by
 obtain⟨h1,h2,h3⟩:=h
 refine⟨h1,h2,?_⟩
 rcases h3 with h3 | ⟨g,hA,hB,hg,hf,hc⟩
 ·exact .inl h3
 ·exact .inr ⟨g,hA,hB,Nat.lt_of_lt_of_le hg hb.size,fun j hj=>⟨by rw[hb.cell (p:=⟨g,j,none⟩) hg];exact (hf j hj).1,by rw[hb.frozen (p:=⟨g,j,none⟩) hg];exact (hf j hj).2⟩,fun j u hu=>(hb.cell (p:=⟨g,j,none⟩) hg).trans (hc j u hu)⟩
theorem bZ.alloc (h:bZ w base A n c bs) (o:Obj):bZ (w.alloc o) base A n c bs:=h.below ((zB _ _).alloc (zA _) _)
theorem bZ.drewN (h:bZ w base A n c bs) (k:Nat):bZ (w.drewN k) base A n c bs:=h
theorem bZ.drew (h:bZ w base A n c bs):bZ w.drew base A n c bs:=h
theorem bZ.mono (h:bZ w base A n c bs) {base':Nat} (hb:base'≤base):bZ w base' A n c bs:=by
 obtain⟨h1,h2,h3⟩:=h
 refine⟨h1,h2,h3.imp id ?_⟩
 rintro⟨g,hA,hB,r⟩
 exact⟨g,hA,bD hb hB,r⟩
theorem bZ.lt (h:bZ w base A n c bs):∀ k,ownB A c=some k→base≤k∧k < w.heap.size:=by
 intro k hk
 unfold ownB at hk
 split at hk
 ·cases hk
 ·rename_i hc
  rcases h.2.2 with h3 | ⟨g,hA,hB,hg,_⟩
  ·exact absurd h3 hc
  ·subst hA
   simp at hk
   subst hk
   exact⟨hB,hg⟩
theorem App.belowC {A':Option Addr} {c':Nat} (h:App w w' A c A' c') (hr:bZ w base A n c bs) (hb:base≤w.heap.size):Below base w w' :=
 (zB _ _).grown h.grown hb (fun k hk=>(hr.lt k hk).1)
theorem aAI (w:World) (s:ByteArray):∃ c W,(convert 9 39 (.string s)).run Tryz.prog w=.ok (.slice (some ⟨w.heap.size,0,none⟩) s.size c) W∧bZ W w.heap.size (some ⟨w.heap.size,0,none⟩) s.size c (L s)∧Below w.heap.size w W:=by
 refine⟨_,_,run_bytes_of_string (P:=Tryz.prog) w 9 39 5 s Tryz.underlying9 Tryz.underlying39 Tryz.underlying5,?_,((zB w.heap.size w).drew).alloc (zA _) _⟩
 generalize hC:grownCap w s.size 0 5=C
 have hge:s.size≤C:=by rw[← hC];exact grownCap_ge _ _ _ _
 have hsz:(bytesRow s C).size=C:=by
  have:s.data.size=s.size:=rfl
  simp [bytesRow,this]
  omega
 rw[hsz]
 have hrow:(w.drew.alloc (.cells (bytesRow s C) 5 (C,C+1))).heap[w.heap.size]?=some (.cells (bytesRow s C) 5 (C,C+1)):=heap_alloc_new w.drew _
 refine⟨(aS s).symm,hge,.inr ⟨w.heap.size,rfl,zA _,by simp,fun j hj=>⟨?_,?_⟩,fun j u hu=>?_⟩⟩
 ·rw[cell_of_row _ w.heap.size j _ _ _ hrow]
  have:j < (bytesRow s C).size:=by rw[hsz];exact hj
  simp [this]
 ·simp only[World.frozen?,hrow]
  simp
  omega
 ·rw[cell_of_row _ w.heap.size j _ _ _ hrow,← hu]
  have hj:j < s.size:=by
   have:=(List.getElem?_eq_some_iff.1 hu).1
   rw[aS]
   simpa [aB] using this
  have hj':j < s.data.size:=hj
  unfold bytesRow
  rw[Array.getElem?_append_left (by simpa using hj')]
  simp [aB,L]
end
section
variable {P:Program} (w:World)
theorem aL8 (t ty e:TypeId) (i:TypeInfo) (z:Value) (ht:P.underlying t=some (.slice e)) (hi:P.info? e=some i) (hz:i.zero=some z)
  (hsize:i.size=1) (hby:i.bytes=1) (hzs:z.cells.size=1) (hE:e=5)
  (base:Nat) (A:Option Addr) (n c:Nat) (bs:List UInt8) (hown:bZ w base A n c bs)
  (S:Option Addr) (m d:Nat) (news:List UInt8) (hr:Rd w S m 1 (aB news)) (h63:n+m≤4398046511104) (hbase:base≤w.heap.size) :
  ∃ A' c' w',(Builtin.append_ #[t,t] ty #[.slice A n c,.slice S m d]).run P w=.ok (.slice A' (n+m) c') w'∧bZ w' base A' (n+m) c' (bs++news)∧App w w' A c A' c':=by
 have hnl:news.length=m:=by have:=hr.1;simpa [aB] using this
 rcases Nat.eq_zero_or_pos m with h0 | h0
 ·subst h0
  have hn:news=[]:=List.eq_nil_of_length_eq_zero hnl
  subst hn
  exact⟨A,c,w,run_append_nothing w t ty e i ht hi A n c hown.2.1 S d,by simpa using hown,⟨World.grownBy.refl _ _,.inl ⟨rfl,rfl⟩⟩⟩
 ·obtain⟨hl,hnc,hcase⟩:=hown
  rcases hcase with hc0 | ⟨g,rfl,hB,hg,hf,hcl⟩
  ·subst hc0
   have hn0:n=0:=by omega
   subst hn0
   have hb0:bs=[]:=List.eq_nil_of_length_eq_zero hl
   subst hb0
   subst hE
   obtain⟨A',c',w',hrun,h2,h3⟩:=aIY (P:=P) w t ty 5 i z 1 1 ht hi hz hsize hby hzs (by omega) base A 0 0 [] (Row.empty _ _ _ _ _) S m d _ hr (lF news) (by simp only[maxLen];omega) (by omega) hbase
   exact⟨A',c',w',hrun,Row.crow (by simpa using h2),h3⟩
  ·obtain⟨b,o,rfl,hlt,hc⟩:=hr.2 h0
   have hnews:∀ j u,(aB news)[j]?=some u→w.cell? ((⟨b,o,none⟩:Addr).add j)=some u:=hr.cells _ rfl h0
   have hnl':(aB news).length=m:=by simp [aB,hnl]
   by_cases hroom:n+m≤c
   ·have hrun:=run_append_room_cells (P:=P) w t ty e i ht hi g 0 n c ⟨b,o,none⟩ m d (aB news) (by rw[hsize,hnl'];omega) hnews (lF news) hroom
     (fun j hj=>by rw[hsize,Nat.zero_add,Nat.mul_one];exact (hf _ (by omega)).1) (fun j hj=>by rw[hsize,Nat.zero_add,Nat.mul_one];exact (hf _ (by omega)).2)
    rw[hsize,Nat.zero_add,Nat.mul_one]at hrun
    have hsome:∀ j,j < (aB news).length→(w.cell? ⟨g,n+j,none⟩).isSome=true:=fun j hj=>(hf _ (by omega)).1
    have hsz:(w.setCells g n (aB news)).heap.size=w.heap.size:=by
     have:∀ (vs:List Value) (o:Nat) (u:World),(u.setCells g o vs).heap.size=u.heap.size:=by
      intro vs
      induction vs with
      | nil=>intro o u;rfl
      | cons v vs ih =>
       intro o u
       show ((u.setCell ⟨g,o,none⟩ v).setCells g (o+1) vs).heap.size=_
       rw[ih]
       simp [World.setCell]
     exact this _ _ _
    have hoth:∀ k,k≠g→(w.setCells g n (aB news)).heap[k]?=w.heap[k]?:=by
     have:∀ (vs:List Value) (o:Nat) (u:World) (k:Nat),k≠g→(u.setCells g o vs).heap[k]?=u.heap[k]?:=by
      intro vs
      induction vs with
      | nil=>intro o u k _;rfl
      | cons v vs ih =>
       intro o u k hk
       show ((u.setCell ⟨g,o,none⟩ v).setCells g (o+1) vs).heap[k]?=_
       rw[ih _ _ k hk]
       unfold World.setCell
       simp only[Array.getElem?_modify]
       rw[if_neg (Ne.symm hk)]
     exact fun k hk=>this _ _ _ k hk
    refine⟨_,c,_,hrun,⟨by rw[bC,hl,hnl],hroom,.inr ⟨g,rfl,hB,by rw[hsz];exact hg,fun j hj=>⟨?_,?_⟩,fun j u hu=>?_⟩⟩,⟨?_,.inl ⟨rfl,rfl⟩⟩⟩
    ·by_cases hin:n≤j∧j < n+(aB news).length
     ·have:=World.cell?_setCells_in g (aB news) n w hsome (j - n) (by omega)
      rw[show n+(j - n)=j from by omega]at this
      rw[this];rfl
     ·rw[World.cell?_setCells_out g (aB news) n w ⟨g,j,none⟩ (fun _ _=>by simp only;omega)]
      exact (hf j hj).1
    ·rw[World.frozen?_setCells];exact (hf j hj).2
    ·have e:aB (bs++news)=aB bs++aB news:=fD bs news
     rw[e]at hu
     have hbl:(aB bs).length=n:=by simp [aB,hl]
     by_cases hin:j < n
     ·rw[List.getElem?_append_left (by omega)]at hu
      rw[World.cell?_setCells_out g (aB news) n w ⟨g,j,none⟩ (fun _ _=>by simp only;omega)]
      exact hcl j u hu
     ·rw[List.getElem?_append_right (by omega),hbl]at hu
      have hj:=(List.getElem?_eq_some_iff.1 hu).1
      have:=World.cell?_setCells_in g (aB news) n w hsome (j - n) hj
      rw[show n+(j - n)=j from by omega]at this
      rw[this,← (List.getElem?_eq_some_iff.1 hu).2]
    ·have hob:ownB (some ⟨g,0,none⟩) c=some g:=by unfold ownB;rw[if_neg (by omega)];rfl
     rw[hob]
     have hfl:∀ (vs:List Value) (o:Nat) (u:World),(u.setCells g o vs).os=u.os∧(u.setCells g o vs).tape=u.tape∧(u.setCells g o vs).output=u.output:=by
      intro vs
      induction vs with
      | nil=>intro o u;exact⟨rfl,rfl,rfl⟩
      | cons v vs ih =>
       intro o u
       have:=ih (o+1) (u.setCell ⟨g,o,none⟩ v)
       exact⟨this.1,this.2.1,this.2.2⟩
     exact⟨(hfl _ _ _).1,(hfl _ _ _).2.1,(hfl _ _ _).2.2,by rw[hsz];exact zA _,fun k _ hne=>hoth k (fun e=>hne (by rw[e]))⟩
   ·obtain⟨v',w',hrun,h2,h3⟩:=run_append_arg_grows (P:=P) w t ty e i z 1 1 ht hi hz hsize hby hzs (by omega) ⟨g,0,none⟩ n c (aB bs) (by simp [aB,hl]) (fun j u hu=>by
      have:(⟨g,0,none⟩:Addr).add j=⟨g,0+j,none⟩:=by unfold Addr.add;split<;>simp_all
      rw[this,Nat.zero_add];exact hcl j u hu) ⟨b,o,none⟩ m d (aB news) (by rw[hnl'];omega) hnews (by omega) (by simp only[maxLen];omega) (by omega)
    obtain⟨g',cap,hv,hb',hh⟩:=h2.form (by omega)
    have ho:w'.ownsRow base e 1 v' (n+m) (aB bs++aB news):=by
     refine⟨h2.1,?_⟩
     rcases h2.2 with h | ⟨g2,cap2,cur2,hv2,hg2,r⟩
     ·exact .inl h
     ·exact .inr ⟨g2,cap2,cur2,hv2,bD hbase hg2,r⟩
    subst hv
    subst hE
    refine⟨_,_,_,hrun,Row.crow (.inl ?_),⟨⟨h3.os,h3.tape,h3.output,h3.size,fun k hk _=>h3.block k hk (by simp)⟩,.inr ⟨g',rfl,hb'⟩⟩⟩
    rw[fD]
    exact ho
end
section
variable (w:World) {ops:Array Oper} {rest:List Oper} {o:Oper} {a:Act} {K:Act→World→Prop} {Q:Exit→Act→World→Prop}
theorem appC (hgd:o.guard=none) (s x:Operand) (ho:o.op=.call { callee:=.builtin .append,args:=#[s,x],argTypes:=#[39,39] })
  (base:Nat) (A:Option Addr) (n c:Nat) (xs:List UInt8) (hs:a.eval s=.slice A n c) (hown:bZ w base A n c xs)
  (S:Option Addr) (m d:Nat) (news:List UInt8) (hx:a.eval x=.slice S m d) (hr:Rd w S m 1 (aB news)) (h63:n+m≤4398046511104) (hbase:base≤w.heap.size)
  (h:∀ A' c' w',bZ w' base A' (n+m) c' (xs++news)→App w w' A c A' c'→wpList Tryz.prog ops Q rest (a.put o.dst (.slice A' (n+m) c')) w'):wpList Tryz.prog ops Q (o::rest) a w :=
 wpList_plain hgd fun K hK=>by
  obtain⟨i0,hi0,hz0,hz1,hz2⟩:=info_parts Tryz.infoB
  obtain⟨A',c',w',hrun,h2,h3⟩:=aL8 (P:=Tryz.prog) w 39 o.type 5 i0 _ Tryz.underlying39 hi0 hz0 hz1 hz2 rfl rfl base A n c xs hown S m d news hr h63 hbase
  unfold Oper.wp execOp
  simp only[ho,resolve,invoke,builtin,Sem.run_bind,Sem.run_pure,Result.andThen_ok,List.map_toArray,List.map_cons,List.map_nil,hs,hx,hrun]
  exact hK _ _ (h A' c' w' h2 h3)
end
theorem aJ6 (l:List UInt8) (k:Nat) (h:k < l.length) (m:List UInt8) (hm:m=(l.take k).map T.lower++l.drop k) :
  m.length=l.length∧(∀ h':k < m.length,m[k]=l[k])∧m.set k (T.lower l[k])=(l.take (k+1)).map T.lower++l.drop (k+1):=by
 subst hm
 have hk:((l.take k).map T.lower).length=k:=by simp;omega
 refine⟨by simp;omega,fun h'=>?_,?_⟩
 ·rw[List.getElem_append_right (by omega)]
  simp only[hk,Nat.sub_self,List.getElem_drop,Nat.add_zero]
 ·rw[List.set_append_right _ _ (by omega),hk,Nat.sub_self,List.drop_eq_getElem_cons h,List.set_cons_zero,bI h,List.map_append,List.append_assoc]
  rfl
theorem aA9 {w:World} {p:Addr} {v:Value} (h:w.cell? p=some v):w.setCell p v=w:=by
 obtain⟨b,o,sp⟩:=p
 unfold World.cell? at h
 cases hb:w.heap[b]? with
 | none=>simp [hb]at h
 | some ob =>
  cases ob<;>simp [hb]at h
  case cells c e f =>
   have hlt:b < w.heap.size:=(Array.getElem?_eq_some_iff.1 hb).1
   have hbb:w.heap[b]=.cells c e f:=(Array.getElem?_eq_some_iff.1 hb).2
   obtain⟨hsp,hc⟩:=h
   unfold World.setCell
   have:w.heap.modify b (fun | .cells c elem frozen=>.cells (if sp.isSome then c else c.setIfInBounds o v) elem frozen | o=>o)=w.heap:=by
    apply Array.ext
    ·simp
    ·intro i h1 h2
     simp only[Array.getElem_modify]
     split
     ·rename_i e
      subst e
      rw[hbb]
      subst hsp
      show Obj.cells (c.setIfInBounds o v) e f=Obj.cells c e f
      congr 1
      obtain⟨ho,hv⟩:=Array.getElem?_eq_some_iff.1 hc
      apply Array.ext
      ·simp
      ·intro j hj1 hj2
       rw[Array.getElem_setIfInBounds (by simpa using hj1)]
       split
       ·rename_i e;subst e;exact hv.symm
       ·rfl
     ·rfl
   exact congrArg (fun h=>({ w with heap:=h }:World)) this
theorem rX (s:ByteArray) (w:World) (hs:s.size≤1099511627776) :
  Calls Tryz.prog 80 #[.string s] w (aEM w (B (T.fold (L s)))):=by
 obtain⟨c,m,W,hcv,hc,hbuf,hbel⟩:=aQD w s
 have hsz:(L s).length=s.size:=(aS s).symm
 have HZ:=aH hsz
 clear hsz
 go_enter Tryz.func80,Tryz.ntmps80
 go_wp2
 go_loopw [4,5,10] (fun _ _ i wr=>∃ k:Nat,k≤s.size∧i=.int .i64 k∧vV wr w.heap.size (((L s).take k).map T.lower++(L s).drop k) m∧Below w.heap.size w wr) (fun _ _ i _=>s.size - (intOf i).toNat)
 case atStart=>exact⟨0,zF _,rfl,by simpa using hbuf,hbel⟩
 case round =>
  clear hbuf hbel hcv
  obtain⟨k,hk,rfl,hbuf,hbel⟩:=hrel
  by_cases hlt:k < s.size
  ·obtain⟨e1,e2,e3⟩:=aJ6 (L s) k (by rw[HZ.out];exact hlt) _ rfl
   have hkl:k < (((L s).take k).map T.lower++(L s).drop k).length:=by rw[e1,HZ.out];exact hlt
   have hcell:=hbuf.cell hkl
   rw[e2]at hcell
   have hfree:=hbuf.free hkl
   obtain⟨x,hx⟩:∃ x,x=(L s)[k]'(by rw[HZ.out];exact hlt):=⟨_,rfl⟩
   rw[← hx]at hcell e3
   have hset:=hbuf.set hkl (T.lower x)
   rw[e3]at hset
   have E:=aH (And.intro e1 e2)
   clear e1 e2 e3 hkl hx E
   by_cases hup:65≤x.toNat∧x.toNat≤90
   ·obtain⟨u1,u2⟩:=hup
    have hl:=(T.aMP u1 u2).2
    have hset':vV (wr.setCell ⟨w.heap.size,k,none⟩ (.int .u8 ((x.toNat:Int)+97 - 65))) w.heap.size (((L s).take (k+1)).map T.lower++(L s).drop (k+1)) m:=by
     rw[hl]at hset
     rw[show (x.toNat:Int)+97 - 65=((x.toNat+32:Nat):Int) from by omega]
     exact hset
    clear hl hset
    go_wp2
    go_roundw
    case rel=>exact⟨k+1,by omega,by go_num,hset',hbel.setCell (p:=⟨w.heap.size,k,none⟩) (zA _) _⟩
    case measure=>simp [intOf];omega
   ·have hl:=T.aMQ hup
    rw[hl]at hset
    have hsame:wr.setCell ⟨w.heap.size,k,none⟩ (.int .u8 x.toNat)=wr:=aA9 hcell
    rw[hsame]at hset
    clear hl hsame
    by_cases h1:65≤x.toNat
    ·have h2:¬ x.toNat≤90:=fun h=>hup ⟨h1,h⟩
     clear hup
     go_wp2
     go_roundw
     case rel=>exact⟨k+1,by omega,by go_num,hset,hbel⟩
     case measure=>simp [intOf];omega
    ·clear hup
     go_wp2
     go_roundw
     case rel=>exact⟨k+1,by omega,by go_num,hset,hbel⟩
     case measure=>simp [intOf];omega
  ·have hks:k=s.size:=by omega
   have hrd:=hbuf.rd
   rw[hks]at hrd
   have hz:=HZ.out
   rw[List.take_of_length_le (by omega),List.drop_of_length_le (by omega),List.append_nil,List.length_map,hz]at hrd
   have hcv:=pF hrd c
   clear hks hrd hz
   go_wp2
   go_ret
   exact⟨rfl,hbel⟩
theorem aMN {α β:Type} (f:α→β) (l:List α) (k:Nat) (h:k < l.length):(l.take (k+1)).map f=(l.take k).map f++[f l[k]]:=by
 rw[bI h,List.map_append];rfl
theorem aON (f:FD) (name:ByteArray) (w:World) (h1:f.1.size≤1099511627776) (h2:name.size≤1099511627776) :
  Calls Tryz.prog 123 #[.agg #[.string f.1,.string f.2],.string name] w (qP w (F.is f name)):=by
 go_enter Tryz.func123,Tryz.ntmps123
 go_wp2_with fail
 refine (rX _ _ h1).mono ?_
 rintro e w1 ⟨rfl,hb1⟩
 go_wp2_with fail
 refine (rX _ _ h2).mono ?_
 rintro e w2 ⟨rfl,hb2⟩
 go_wp2
 go_ret
 refine⟨aQ ?_,((zB _ _).alloc (zA _) _).trans ((hb1.mono (by simp)).trans (hb2.mono (by have:=hb1.size;simp at this;omega)))⟩
 show (ByteArray.toList _==ByteArray.toList _)=_
 rw[bM]
 unfold F.is
 by_cases h:T.fold (L f.1)=T.fold (L name)
 ·rw[h];simp
 ·rw[decide_eq_false h,decide_eq_false (fun h'=>h (B_inj h'))]
theorem aLV (l:List UInt8):Lib.trimS l [32,9]=T.trim l:=by
 unfold Lib.trimS Lib.trimLeftS Lib.trimRightS T.trim
 have:T.blank=fun c=>([32,9]:List UInt8).contains c:=funext T.aNT
 rw[T.aAV,T.qV,this]
theorem aPA (s:ByteArray) (w:World) (hs:s.size≤1099511627776):Calls Tryz.prog 88 #[.string s,.string ⟨#[32,9]⟩] w (aEM w (B (T.trim (L s)))):=by
 refine (Any.strings_Trim_laid Tryz.lays160 (by kernel_rfl) s ⟨#[32,9]⟩ w (by omega) (by decide) (ascii_of_all (by decide))).mono ?_
 rintro e w' ⟨rfl,hb⟩
 refine⟨?_,hb⟩
 rw[← aLV];rfl
theorem rM (s:ByteArray) (w:World) (hs:s.size≤1099511627776) :
  Calls Tryz.prog 159 #[.string s] w (aEM w (B (T.trim (L s)))):=by
 go_enter Tryz.func159,Tryz.ntmps159
 go_wp2_with fail
 refine (aPA s w hs).mono ?_
 rintro e w1 ⟨rfl,hb1⟩
 go_wp2
 go_ret
 exact⟨rfl,hb1⟩
theorem yD (s:ByteArray) (a b:Nat):(s.extract a b).size≤s.size:=by
 rw[aS,vU,aS]
 simp only[List.length_take,List.length_drop]
 omega
def dI (c:UInt8) (l:List UInt8) (k f:Nat) (q:Bool) (done:List (List UInt8)):Prop :=
 f≤k∧f≤l.length∧k≤l.length+1∧T.pieces c false [] l=done++T.pieces c q ((l.take k).drop f) (l.drop k)
theorem dI.start (c:UInt8) (l:List UInt8):dI c l 0 0 false []:=⟨zA _,zF _,zF _,by simp⟩
theorem dI.esc {c:UInt8} {l:List UInt8} {k f:Nat} {done:List (List UInt8)} (h:dI c l k f true done) (hk:k < l.length) (hx:l[k]=92):dI c l (k+2) f true done:=by
 refine⟨by have:=h.1;omega,h.2.1,by omega,?_⟩
 rw[h.2.2.2,T.jJ c true hk h.1,if_pos ⟨rfl,hx⟩]
theorem dI.quote {c:UInt8} {l:List UInt8} {k f:Nat} {q:Bool} {done:List (List UInt8)} (h:dI c l k f q done) (hk:k < l.length) (hx:l[k]=34):dI c l (k+1) f (!q) done:=by
 refine⟨by have:=h.1;omega,h.2.1,by omega,?_⟩
 rw[h.2.2.2,T.jJ c q hk h.1,if_neg (by rw[hx];rintro⟨_,h⟩;cases h),if_pos hx]
theorem dI.cut {c:UInt8} {l:List UInt8} {k f:Nat} {done:List (List UInt8)} (h:dI c l k f false done) (hk:k < l.length) (h34:¬ l[k]=34) (hx:l[k]=c):dI c l (k+1) (k+1) false (done++[(l.take k).drop f]):=by
 refine⟨zA _,by omega,by omega,?_⟩
 rw[h.2.2.2,T.jJ c false hk h.1,if_neg (by simp),if_neg h34,if_pos ⟨rfl,hx⟩,List.append_assoc];rfl
theorem dI.on {c:UInt8} {l:List UInt8} {k f:Nat} {q:Bool} {done:List (List UInt8)} (h:dI c l k f q done) (hk:k < l.length) (h92:¬ (q=true∧l[k]=92)) (h34:¬ l[k]=34) (hx:¬ (q=false∧l[k]=c)):dI c l (k+1) f q done:=by
 refine⟨by have:=h.1;omega,h.2.1,by omega,?_⟩
 rw[h.2.2.2,T.jJ c q hk h.1,if_neg h92,if_neg h34,if_neg hx]
theorem dI.fin {c:UInt8} {l:List UInt8} {k f:Nat} {q:Bool} {done:List (List UInt8)} (h:dI c l k f q done) (hk:l.length≤k):T.pieces c false [] l=done++[l.drop f]:=by
 rw[h.2.2.2,T.aGV c q hk]
def trimmed (done:List (List UInt8)):List ByteArray:=done.map fun p=>B (T.trim p)
theorem aAT (done:List (List UInt8)) (p:List UInt8):trimmed (done++[p])=trimmed done++[B (T.trim p)]:=by simp [trimmed]
theorem aC4 (done:List (List UInt8)):(trimmed done).length=done.length:=List.length_map _
def aN6 (c:UInt8) (s:ByteArray) (B0:Nat) (f:List (List UInt8)→List ByteArray) (o fr q i:Value) (wr:World):Prop :=
 ∃ (k m n:Nat) (b:Bool) (done:List (List UInt8)) (A:Option Addr) (d:Nat),i=.int .i64 k∧fr=.int .i64 m∧q=.bool b∧o=.slice A n d∧n=done.length∧n≤m∧dI c (L s) k m b done ∧
  Row wr B0 9 1 A n d (aF (f done))∧B0≤wr.heap.size
theorem aIW (s:ByteArray) (c:UInt8) (w:World) (hs:s.size≤1099511627776) :
  Calls Tryz.prog 124 #[.string s,.int .u8 c.toNat] w (eP w 9 1 (F.split c s).length (aF (F.split c s))):=by
 have HZ:Hid ((L s).length=s.size):=(aS s).symm
 go_enter Tryz.func124,Tryz.ntmps124
 go_wp2
 go_loopw [5,6,7,8,15,25,32] (fun o fr q i _ _ _ wr=>aN6 c s w.heap.size trimmed o fr q i wr∧Below w.heap.size w wr) (fun _ _ _ i _ _ _ _=>s.size+1 - (intOf i).toNat)
 case atStart=>exact⟨⟨0,0,0,false,[],none,0,rfl,rfl,rfl,rfl,rfl,zA _,dI.start _ _,Row.none_ _ _ _ _,zA _⟩,zB _ _⟩
 case round =>
  obtain⟨⟨k,m,n,b,done,A,d,rfl,rfl,rfl,rfl,hn,hnm,hsp,hrow,hB0⟩,hbel⟩:=hrel
  have HN:=aH hn
  clear hn
  have hml:m≤s.size:=by have:=hsp.2.1;rw[HZ.out]at this;exact this
  have hmk:=hsp.1
  have hkl:k≤s.size+1:=by have:=hsp.2.2.1;rw[HZ.out]at this;exact this
  have HS:=aH hsp
  clear hsp
  by_cases hlt:k < s.size
  ·have hL:k < (L s).length:=by rw[HZ.out];exact hlt
   cases b with
   | true =>
    by_cases h92:(L s)[k]=92
    ·have e1:((s[k].toNat:Int)==92)=true:=gV h92
     have H92:=aH h92;clear h92
     go_wp2
     go_roundw
     case rel=>exact⟨⟨k+2,m,n,true,done,A,d,by go_num,rfl,rfl,rfl,HN.out,hnm,HS.out.esc hL H92.out,hrow,hB0⟩,hbel⟩
     case measure=>simp [intOf];omega
    ·have e1:((s[k].toNat:Int)==92)=false:=fK h92
     have H92:=aH h92;clear h92
     by_cases h34:(L s)[k]=34
     ·have e2:((s[k].toNat:Int)==34)=true:=gV h34
      have H34:=aH h34;clear h34
      go_wp2
      go_roundw
      case rel=>exact⟨⟨k+1,m,n,false,done,A,d,by go_num,rfl,rfl,rfl,HN.out,hnm,HS.out.quote hL H34.out,hrow,hB0⟩,hbel⟩
      case measure=>simp [intOf];omega
     ·have e2:((s[k].toNat:Int)==34)=false:=fK h34
      have H34:=aH h34;clear h34
      go_wp2
      go_roundw
      case rel=>exact⟨⟨k+1,m,n,true,done,A,d,by go_num,rfl,rfl,rfl,HN.out,hnm,HS.out.on hL (fun h=>H92.out h.2) H34.out (by simp),hrow,hB0⟩,hbel⟩
      case measure=>simp [intOf];omega
   | false =>
    by_cases h34:(L s)[k]=34
    ·have e2:((s[k].toNat:Int)==34)=true:=gV h34
     have H34:=aH h34;clear h34
     go_wp2
     go_roundw
     case rel=>exact⟨⟨k+1,m,n,true,done,A,d,by go_num,rfl,rfl,rfl,HN.out,hnm,HS.out.quote hL H34.out,hrow,hB0⟩,hbel⟩
     case measure=>simp [intOf];omega
    ·have e2:((s[k].toNat:Int)==34)=false:=fK h34
     have H34:=aH h34;clear h34
     by_cases hc:(L s)[k]=c
     ·have e3:((s[k].toNat:Int)==(c.toNat:Int))=true:=gV hc
      have HC:=aH hc;clear hc
      go_wp2_with fail
      refine (rM _ _ (bD (yD _ _ _) hs)).mono ?_
      rintro e w1 ⟨rfl,hb1⟩
      have hr1:=hrow.below hb1
      have hB1:=aA hB0 hbel hb1
      have hz1:=hb1.size
      clear hb1 hrow hbel
      go_wp2_with (at_builtin;refine aLK _ rfl (.tmp 42) (.tmp 48) rfl w.heap.size A n d _ rfl (hr1.alloc _) _ 1 1 _ rfl (aMJ _ _) (by omega) (by simp;omega) ?_;intro A1 c1 w2 hr2 ha2)
      go_roundw
      case rel =>
       refine⟨⟨k+1,k+1,n+1,false,_,A1,c1,by go_num,by go_num,rfl,rfl,?_,by omega,HS.out.cut hL H34.out HC.out,?_,?_⟩,?_⟩
       ·rw[HN.out];simp
       ·rw[aAT]
        have:L (s.extract m k)=((L s).take k).drop m:=by rw[vU,List.drop_take]
        rw[this]at hr2
        exact hr2
       ·have:=ha2.grown.size;simp at this;omega
       ·exact (hB1.alloc (by omega) _).trans (ha2.below (hr1.alloc _) (by simp;omega))
      case measure=>simp [intOf];omega
     ·have e3:((s[k].toNat:Int)==(c.toNat:Int))=false:=fK hc
      have HC:=aH hc;clear hc
      go_wp2
      go_roundw
      case rel=>exact⟨⟨k+1,m,n,false,done,A,d,by go_num,rfl,rfl,rfl,HN.out,hnm,HS.out.on hL (by simp) H34.out (fun h=>HC.out h.2),hrow,hB0⟩,hbel⟩
      case measure=>simp [intOf];omega
  ·have hfin:=HS.out.fin (by rw[HZ.out];omega)
   have HF:=aH hfin
   clear hfin
   go_wp2_with fail
   refine (rM _ _ (bD (yD _ _ _) hs)).mono ?_
   rintro e w1 ⟨rfl,hb1⟩
   have hr1:=hrow.below hb1
   have hB1:=aA hB0 hbel hb1
   have hz1:=hb1.size
   clear hb1 hrow hbel
   go_wp2_with (at_builtin;refine aLK _ rfl (.tmp 52) (.tmp 57) rfl w.heap.size A n d _ rfl (hr1.alloc _) _ 1 1 _ rfl (aMJ _ _) (by omega) (by simp;omega) ?_;intro A1 c1 w2 hr2 ha2)
   go_ret
   have hlast:trimmed done++[B (T.trim (L (s.extract m s.size)))]=F.split c s:=by
    unfold F.split
    rw[HF.out,List.map_append]
    have:L (s.extract m s.size)=(L s).drop m:=by rw[vU,List.take_of_length_le (by rw[List.length_drop,HZ.out];omega)]
    rw[this];rfl
   have hlen:n+1=(F.split c s).length:=by rw[← hlast,bC,aC4,HN.out];rfl
   refine⟨A1,c1,?_,?_,?_⟩
   ·rw[← hlen];rfl
   ·rw[← hlen,← hlast];exact hr2
   ·exact (hB1.alloc (by omega) _).trans (ha2.below (hr1.alloc _) (by simp;omega))
theorem aPC (s:ByteArray) (w:World) (hs:s.size≤1099511627776) :
  Calls Tryz.prog 124 #[.string s,.int .u8 44] w (eP w 9 1 (F.split 44 s).length (aF (F.split 44 s))):=aIW s 44 w hs
theorem pieces_len (c:UInt8):∀ (n:Nat) (q:Bool) (cur l:List UInt8),l.length≤n→(T.pieces c q cur l).length≤l.length+1:=by
 intro n
 induction n with
 | zero =>
  intro q cur l h
  have:l=[]:=List.eq_nil_of_length_eq_zero (by omega)
  subst this
  simp [T.pieces]
 | succ n ih =>
  intro q cur l h
  cases l with
  | nil=>simp [T.pieces]
  | cons x r =>
   rw[T.jK]
   simp only[List.length_cons]at h ⊢
   split
   ·cases r with
    | nil=>simp
    | cons y r' =>
     have:=ih q (cur++[x,y]) r' (by simp at h;omega)
     simp only[List.length_cons];omega
   ·split
    ·have:=ih (!q) (cur++[x]) r (by omega);omega
    ·split
     ·have:=ih q [] r (by omega);simp only[List.length_cons];omega
     ·have:=ih q (cur++[x]) r (by omega);omega
theorem aA5 (c:UInt8) (s:ByteArray):(F.split c s).length≤s.size+1:=by
 unfold F.split
 rw[List.length_map,aS]
 exact pieces_len c _ _ _ _ (zA _)
theorem aFG (s:ByteArray):(F.list s).length≤s.size+1:=bD (List.length_filter_le _ _) (aA5 44 s)
def full (p:ByteArray):Bool:=!(L p).isEmpty
theorem aJ3 {p:ByteArray} (h:full p=true):p.toList.isEmpty=false∧¬ p.toList=[]:=by
 unfold full at h
 rw[fQ]
 cases hl:L p<;>simp [hl]at h ⊢
theorem aHL {p:ByteArray} (h:full p=false):p.toList.isEmpty=true∧p.toList=[]:=by
 unfold full at h
 rw[fQ]
 cases hl:L p<;>simp [hl]at h ⊢
theorem aFH (s:ByteArray) (w:World) (hs:s.size≤1099511627776) :
  Calls Tryz.prog 82 #[.string s] w (eP w 9 1 (F.list s).length (aF (F.list s))):=by
 go_enter Tryz.func82,Tryz.ntmps82
 go_wp2_with fail
 refine (aPC s _ hs).mono ?_
 rintro e w1 ⟨X,d,rfl,hX,hb1⟩
 have hle:=aA5 44 s
 obtain⟨ps,hps⟩:∃ ps,ps=F.split 44 s:=⟨_,rfl⟩
 have hfin:F.list s=ps.filter full:=by rw[hps];rfl
 rw[← hps]at hX hle ⊢
 obtain⟨n,hn⟩:∃ n,n=ps.length:=⟨_,rfl⟩
 rw[← hn]at hX hle ⊢
 have HP:=aH hps;clear hps
 have HN:=aH hn;clear hn
 have HF:=aH hfin;clear hfin
 have hx:=hX.rd
 clear hX
 go_wp2
 go_loopw [3,5,9] (fun o _ i wr=>∃ (k m:Nat) (A:Option Addr) (c:Nat),k≤n∧m≤k∧i=.int .i64 k∧o=.slice A m c∧m=((ps.take k).filter full).length∧Row wr w1.heap.size 9 1 A m c (aF ((ps.take k).filter full))∧Below w1.heap.size w1 wr) (fun _ _ i _=>n - (intOf i).toNat)
 case atStart=>exact⟨0,0,none,0,zF _,zA _,rfl,rfl,rfl,Row.none_ _ _ _ _,zB _ _⟩
 case round =>
  obtain⟨k,m,A,c,hk,hmk,rfl,rfl,hm,hrow,hbel⟩:=hrel
  have HM:=aH hm
  clear hm
  by_cases hlt:k < n
  ·obtain⟨b,o,rfl,hb,c1⟩:=(hx.below hbel).str hlt HN.out.symm
   have hv:=F.fJ full ps k (by rw[← HN.out];exact hlt)
   obtain⟨x,hxk⟩:∃ x,x=ps[k]'(by rw[← HN.out];exact hlt):=⟨_,rfl⟩
   rw[← hxk]at hv c1
   clear hxk
   rcases tf (full x) with hfx | hfx
   ·obtain⟨f1,f2⟩:=aJ3 hfx
    rw[hfx]at hv
    have hv':((ps.take (k+1)).filter full)=((ps.take k).filter full)++[x]:=by simpa using hv
    have HV:=aH hv'
    clear hv'
    clear hv hfx
    go_wp2_with (at_builtin;refine aLK _ rfl (.tmp 15) (.tmp 17) rfl w1.heap.size A m c _ rfl (hrow.alloc _) _ 1 1 [x] rfl (aMJ _ _) (by omega) (by have:=hbel.size;simp;omega) ?_;intro A1 c1 w2 hr2 ha2)
    go_roundw
    case rel =>
     refine⟨k+1,m+1,A1,c1,by omega,by omega,by go_num,rfl,?_,?_,?_⟩
     ·rw[HV.out,bC,HM.out];rfl
     ·rw[HV.out];exact hr2
     ·exact (hbel.alloc hbel.size _).trans (ha2.below (hrow.alloc _) (by have:=hbel.size;simp;omega))
    case measure=>simp [intOf];omega
   ·obtain⟨f1,f2⟩:=aHL hfx
    rw[hfx]at hv
    have hv':((ps.take (k+1)).filter full)=((ps.take k).filter full):=by simpa using hv
    have HV:=aH hv'
    clear hv'
    clear hv hfx
    go_wp2
    go_roundw
    case rel=>exact⟨k+1,m,A,c,by omega,by omega,by go_num,rfl,by rw[HV.out,HM.out],by rw[HV.out];exact hrow,hbel⟩
    case measure=>simp [intOf];omega
  ·have ht:ps.take k=ps:=List.take_of_length_le (by have:=HN.out;omega)
   rw[ht]at hrow
   have HM2:Hid (m=(F.list s).length):=by have:=HM.out;rw[ht]at this;rw[HF.out];exact this
   clear ht HM
   go_wp2
   go_ret
   refine⟨A,c,?_,?_,hb1.trans (hbel.mono hb1.size)⟩
   ·rw[← HM2.out];rfl
   ·rw[← HM2.out,HF.out];exact hrow.mono hb1.size
end Go.Proofs.YthjeglnkgdpijaaGreatDoor
