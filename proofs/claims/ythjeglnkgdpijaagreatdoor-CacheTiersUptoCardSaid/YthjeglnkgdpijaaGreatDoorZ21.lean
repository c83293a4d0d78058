/- The stand-in disk as a plain state: its steps, what is read of it, what a loss of power leaves; and the document's disk over the same. A block of the call's own, known whole: what it holds behind calls, allocations and stores. A row of bytes of the call's own, told by its cells: a marked one ('[]byte(s)') too; append onto it. The walks of fields.Without, with the library's Clone, DeleteFunc, IndexFunc, ContainsFunc at its closures. The walk of the library's DeleteFunc at fields.Without's closure; fields.Without. The walk of the document's Without. The walks of hop.Strip and of its document's twin. The walks of the document's Show, and the contract of strconv.Itoa. Conditions: as each theorem states them. -/
import Derived.Test.YthjeglnkgdpijaaGreatDoorZ14
import Derived.Lib.AppendIntMem
set_option maxHeartbeats 400000
namespace Go.Proofs.YthjeglnkgdpijaaGreatDoor
namespace D
abbrev NM:=List (ByteArray × Nat)
def ltB (a b:ByteArray):Bool:=decide (L a < L b)
def okB (c:UInt8):Bool:=(decide (97≤c.toNat)&&decide (c.toNat≤122))||(decide (48≤c.toNat)&&decide (c.toNat≤57))||decide (c=46)||decide (c=45)||decide (c=95)||decide (c=47)
def good (s:ByteArray):Bool:=(L s).all okB&&decide (1≤s.size)&&decide (s.size≤64)
def find (l:NM) (nm:ByteArray):Option Nat:=(l.find? fun p=>decide (p.1=nm)).map (·.2)
def del (l:NM) (nm:ByteArray):NM:=l.filter fun p=>decide (p.1≠nm)
def ins:NM→ByteArray→Nat→NM
 | [],nm,no=>[(nm,no)]
 | p::r,nm,no=>if ltB nm p.1 then (nm,no)::p::r else p::ins r nm no
def put (l:NM) (nm:ByteArray) (no:Nat):NM:=ins (del l nm) nm no
inductive Chg where
 | put (nm:ByteArray) (no:Nat)
 | del (nm:ByteArray)
 | ren (a b:ByteArray) (no:Nat)
def Chg.app (l:NM):Chg→NM
 | .put nm no=>D.put l nm no
 | .del nm=>D.del l nm
 | .ren a b no=>D.put (D.del l a) b no
def Chg.within (n:Nat):Chg→Prop
 | .put _ no=>no < n
 | .del _=>True
 | .ren _ _ no=>no < n
structure Dsk where
 now:NM
 safe:NM
 pend:List Chg
 data:List (List UInt8)
 firm:List Nat
 room:Int
 fails:List Int
 power:Int
 n:Int
def Dsk.down (s:Dsk):Bool:=decide (0≤s.power)&&decide (s.n=s.power)
def Dsk.size (s:Dsk) (no:Nat):Nat:=(s.data.getD no []).length
def Dsk.used (s:Dsk):Nat:=(s.now.map fun p=>s.size p.2).sum
def Dsk.begin (s:Dsk) (names:List ByteArray):Dsk × Int :=
 if s.down then (s,93)
 else ({ s with n:=s.n+1 },if decide (s.n+1∈s.fails) then 94 else if names.all good then 0 else 95)
def Dsk.alter (s:Dsk) (c:Chg):Dsk:={ s with now:=c.app s.now,pend:=s.pend++[c] }
def Dsk.create (s:Dsk) (nm:ByteArray):Dsk × Int :=
 match s.begin [nm] with
 | (s1,e)=>if e≠0 then (s1,e) else if (find s1.now nm).isSome then (s1,91)
  else (({ s1 with data:=s1.data++[[]],firm:=s1.firm++[0] }:Dsk).alter (.put nm s1.data.length),0)
def Dsk.on (s:Dsk) (nm:ByteArray) (more:List ByteArray) (f:Dsk→Nat→Dsk × Int):Dsk × Int :=
 match s.begin (more++[nm]) with
 | (s1,e)=>if e≠0 then (s1,e) else match find s1.now nm with
  | none=>(s1,90)
  | some no=>f s1 no
def Dsk.append (s:Dsk) (nm:ByteArray) (d:List UInt8):Dsk × Int :=
 s.on nm [] fun s no=>if 0 < d.length∧s.room < (s.used:Int)+d.length then (s,92) else ({ s with data:=s.data.set no (s.data.getD no []++d) },0)
def Dsk.sync (s:Dsk) (nm:ByteArray):Dsk × Int:=s.on nm [] fun s no=>({ s with firm:=s.firm.set no (s.size no) },0)
def Dsk.syncNames (s:Dsk):Dsk × Int :=
 match s.begin [] with
 | (s1,e)=>if e≠0 then (s1,e) else ({ s1 with safe:=s1.now,pend:=[] },0)
def Dsk.rename (s:Dsk) (a b:ByteArray):Dsk × Int:=s.on a [b] fun s no=>if a=b then (s,0) else (s.alter (.ren a b no),0)
def Dsk.remove (s:Dsk) (nm:ByteArray):Dsk × Int:=s.on nm [] fun s _=>(s.alter (.del nm),0)
def Dsk.read (s:Dsk) (nm:ByteArray):List UInt8 × Int :=
 if s.down then ([],93) else if good nm=false then ([],95) else match find s.now nm with
 | none=>([],90)
 | some no=>(s.data.getD no [],0)
def Dsk.list (s:Dsk):List ByteArray:=if s.down then [] else s.now.map (·.1)
def Dsk.keepN (s:Dsk) (keep:List Int) (no:Nat):Nat:=s.firm.getD no 0+(if no < keep.length then max 0 (min (keep.getD no 0) ((s.size no:Int) - s.firm.getD no 0)) else 0).toNat
def Dsk.namesLeft (s:Dsk) (k:Int):NM:=(s.pend.take k.toNat).foldl Chg.app s.safe
def Dsk.left (s:Dsk) (k:Int) (keep:List Int):List (ByteArray × List UInt8):=(s.namesLeft k).map fun p=>(p.1,(s.data.getD p.2 []).take (s.keepN keep p.2))
def Up (l:NM):Prop:=l.Pairwise fun p q=>ltB p.1 q.1=true
structure Dsk.Ok (s:Dsk):Prop where
 lens:s.firm.length=s.data.length
 upN:Up s.now
 upS:Up s.safe
 inN:∀ p∈s.now,p.2 < s.data.length
 inS:∀ p∈s.safe,p.2 < s.data.length
 inP:∀ c∈s.pend,c.within s.data.length
 fold:s.now=s.pend.foldl Chg.app s.safe
 firms:∀ no,no < s.data.length→s.firm.getD no 0≤s.size no
theorem lt_irrefl (a:ByteArray):ltB a a=false:=by
 unfold ltB
 exact decide_eq_false (List.lt_irrefl _)
theorem lt_trans {a b c:ByteArray} (h1:ltB a b=true) (h2:ltB b c=true):ltB a c=true:=by
 unfold ltB at *
 exact decide_eq_true (List.lt_trans (of_decide_eq_true h1) (of_decide_eq_true h2))
theorem L_inj {a b:ByteArray} (h:L a=L b):a=b:=by
 obtain⟨a⟩:=a
 obtain⟨b⟩:=b
 have:a=b:=Array.toList_inj.1 h
 rw[this]
theorem lt_or {a b:ByteArray} (h:a≠b):ltB a b=true∨ltB b a=true:=by
 unfold ltB
 by_cases h1:L a < L b
 ·exact .inl (decide_eq_true h1)
 ·by_cases h2:L b < L a
  ·exact .inr (decide_eq_true h2)
  ·have:=List.le_antisymm (show L a≤L b from h2) (show L b≤L a from h1)
   exact absurd (L_inj this) h
theorem bY {l:NM} {nm:ByteArray} {p:ByteArray × Nat}:p∈del l nm↔p∈l∧p.1≠nm:=by
 unfold del
 rw[List.mem_filter]
 simp
theorem rH {l:NM} (h:Up l) (nm:ByteArray):Up (del l nm):=List.Pairwise.sublist List.filter_sublist h
theorem aC7:∀ {l:NM} {nm:ByteArray} {no:Nat} {p:ByteArray × Nat},p∈ins l nm no↔p=(nm,no)∨p∈l
 | [],nm,no,p=>by simp [ins]
 | q::r,nm,no,p=>by
  unfold ins
  split
  ·simp
  ·rw[List.mem_cons,List.mem_cons,aC7 (l:=r)]
   constructor
   ·rintro (h | h | h)
    ·exact .inr (.inl h)
    ·exact .inl h
    ·exact .inr (.inr h)
   ·rintro (h | h | h)
    ·exact .inr (.inl h)
    ·exact .inl h
    ·exact .inr (.inr h)
theorem aM7:∀ {l:NM} {nm:ByteArray} {no:Nat},Up l→(∀ p∈l,p.1≠nm)→Up (ins l nm no)
 | [],nm,no,_,_=>by unfold ins Up;exact List.pairwise_singleton _ _
 | q::r,nm,no,h,hn=>by
  have hq:=List.pairwise_cons.1 h
  unfold ins
  split
  ·rename_i hlt
   refine List.pairwise_cons.2 ⟨fun p hp=>?_,h⟩
   rcases List.mem_cons.1 hp with rfl | hp
   ·exact hlt
   ·exact lt_trans hlt (hq.1 p hp)
  ·rename_i hlt
   refine List.pairwise_cons.2 ⟨fun p hp=>?_,aM7 hq.2 (fun p hp=>hn p (List.mem_cons_of_mem _ hp))⟩
   rcases aC7.1 hp with rfl | hp
   ·rcases lt_or (hn q (by simp)) with h1 | h1
    ·exact h1
    ·exact absurd h1 hlt
   ·exact hq.1 p hp
theorem rG {l:NM} (h:Up l) (nm:ByteArray) (no:Nat):Up (put l nm no):=aM7 (rH h nm) (fun _ hp=>(bY.1 hp).2)
theorem cZ {l:NM} {nm:ByteArray} {no:Nat} {p:ByteArray × Nat}:p∈put l nm no↔p=(nm,no)∨(p∈l∧p.1≠nm):=by
 unfold put
 rw[aC7,bY]
theorem aN {l:NM} {nm:ByteArray} {no:Nat} (h:find l nm=some no):(nm,no)∈l:=by
 unfold find at h
 rw[Option.map_eq_some_iff]at h
 obtain⟨p,hp,rfl⟩:=h
 have h1:=List.mem_of_find?_eq_some hp
 have h2:p.1=nm:=by simpa using List.find?_some hp
 rw[← h2]
 exact h1
theorem jT {l:NM} {nm:ByteArray} (h:find l nm=none):∀ p∈l,p.1≠nm:=by
 unfold find at h
 rw[Option.map_eq_none_iff,List.find?_eq_none]at h
 intro p hp
 simpa using h p hp
theorem aPU {l:NM} (h:Up l) (c:Chg):Up (c.app l):=by
 cases c with
 | put nm no=>exact rG h nm no
 | del nm=>exact rH h nm
 | ren a b no=>exact rG (rH h a) b no
def Dsk.look (s:Dsk) (nm:ByteArray) (more:List ByteArray):Dsk × Int × Option Nat :=
 match s.begin (more++[nm]) with
 | (s1,e)=>if e≠0 then (s1,e,none) else match find s1.now nm with
  | none=>(s1,90,none)
  | some no=>(s1,0,some no)
theorem Dsk.on_look (s:Dsk) (nm:ByteArray) (more:List ByteArray) (f:Dsk→Nat→Dsk × Int) :
  s.on nm more f=match s.look nm more with | (s1,_,some no)=>f s1 no | (s1,e,none)=>(s1,e):=by
 unfold Dsk.on Dsk.look
 cases s.begin (more++[nm]) with
 | mk s1 e =>
  dsimp only
  split
  ·rfl
  ·cases find s1.now nm<;>rfl
structure Dsk.Sml (s:Dsk):Prop where
 n0:0≤s.n
 n:s.n≤1099511627776
 fails:s.fails.length≤1099511627776
 now:s.now.length≤1099511627776
 pend:s.pend.length≤1099511627776
 data:s.data.length≤1099511627776
 size:∀ no,s.size no≤1099511627776
theorem Dsk.begin_or (s:Dsk) (ns:List ByteArray):(s.begin ns).1=s∨(s.begin ns).1={ s with n:=s.n+1 }:=by
 unfold Dsk.begin
 split
 ·exact .inl rfl
 ·exact .inr rfl
theorem Dsk.begin_as (s:Dsk) (ns:List ByteArray):∃ n,(s.begin ns).1={ s with n:=n }:=by
 rcases s.begin_or ns with h | h
 ·exact⟨s.n,h⟩
 ·exact⟨_,h⟩
theorem Dsk.look_or (s:Dsk) (nm:ByteArray) (more:List ByteArray):(∃ n e,s.look nm more=({ s with n:=n },e,none)∧e≠0)∨∃ n no,s.look nm more=({ s with n:=n },0,some no)∧find s.now nm=some no:=by
 obtain⟨n,hn⟩:=s.begin_as (more++[nm])
 unfold Dsk.look
 cases hb:s.begin (more++[nm]) with
 | mk s1 e =>
  rw[hb]at hn
  dsimp only at hn ⊢
  subst hn
  by_cases he:e=0
  ·rw[if_neg (by simpa using he)]
   dsimp only
   cases hf:find s.now nm with
   | none=>exact .inl ⟨n,90,rfl,by decide⟩
   | some no=>exact .inr ⟨n,no,rfl,rfl⟩
  ·rw[if_pos he]
   exact .inl ⟨n,e,rfl,he⟩
end D
open Go.RowKit
def Blk (w:World) (b:Nat) (cs:Array Value) (t:TypeId):Prop:=w.heap[b]?=some (.cells cs t (0,0))
section
variable {w w':World} {b b':Nat} {cs:Array Value} {t:TypeId} {A A':Option Addr} {c c':Nat}
theorem Blk.new (w:World) (cs:Array Value) (t:TypeId):Blk (w.alloc (.cells cs t)) w.heap.size cs t:=heap_alloc_new w _
theorem Blk.lt (h:Blk w b cs t):b < w.heap.size:=(Array.getElem?_eq_some_iff.1 h).1
theorem Blk.below (h:Blk w b cs t) (hb:Below w.heap.size w w'):Blk w' b cs t:=(hb.block b h.lt).trans h
theorem Blk.under {B:Nat} (h:Blk w b cs t) (hb:Below B w w') (hB:b < B):Blk w' b cs t:=(hb.block b hB).trans h
theorem Blk.alloc (h:Blk w b cs t) (o:Obj):Blk (w.alloc o) b cs t:=h.below ((zB _ _).alloc (zA _) _)
theorem Blk.next {o:Obj} (h:Blk w b cs t) (hb:Below (w.alloc o).heap.size (w.alloc o) w'):Blk w' b cs t:=(h.alloc o).below hb
theorem Blk.drew (h:Blk w b cs t):Blk w.drew b cs t:=h
theorem Blk.drewN (h:Blk w b cs t) (k:Nat):Blk (w.drewN k) b cs t:=h
theorem Blk.cell (h:Blk w b cs t) (i:Nat) {v:Value} (hi:cs[i]?=some v):w.cell? ⟨b,i,none⟩=some v:=(cell_of_row w b i cs t (0,0) h).trans hi
theorem Blk.free (h:Blk w b cs t) (i:Nat):w.frozen? ⟨b,i,none⟩=false:=by
 have h':w.heap[b]?=some (.cells cs t (0,0)):=h
 simp [World.frozen?,h']
theorem Blk.set (h:Blk w b cs t) (i:Nat) (v:Value):Blk (w.setCell ⟨b,i,none⟩ v) b (cs.setIfInBounds i v) t:=by
 have h':w.heap[b]?=some (.cells cs t (0,0)):=h
 unfold Blk World.setCell
 simp only[Array.getElem?_modify,if_true,h']
 rfl
theorem Blk.far (h:Blk w b cs t) (i:Nat) (v:Value) (hne:b'≠b):Blk (w.setCell ⟨b',i,none⟩ v) b cs t:=by
 have h':w.heap[b]?=some (.cells cs t (0,0)):=h
 unfold Blk World.setCell
 simp only[Array.getElem?_modify]
 rw[if_neg hne]
 exact h'
theorem Blk.app (h:Blk w b cs t) (ha:App w w' A c A' c') (hne:∀ k,ownB A c=some k→k≠b):Blk w' b cs t :=
 (ha.grown.block b h.lt (fun e=>hne b e.symm rfl)).trans h
theorem Blk.cells1 {x0:Value} (h:Blk w b #[x0] t):w.cell? ⟨b,0,none⟩=some x0:=h.cell 0 rfl
theorem Blk.cells2 {x0 x1:Value} (h:Blk w b #[x0,x1] t):w.cell? ⟨b,0,none⟩=some x0∧w.cell? ⟨b,1,none⟩=some x1:=⟨h.cell 0 rfl,h.cell 1 rfl⟩
theorem Blk.cells4 {x0 x1 x2 x3:Value} (h:Blk w b #[x0,x1,x2,x3] t):w.cell? ⟨b,0,none⟩=some x0∧w.cell? ⟨b,1,none⟩=some x1∧w.cell? ⟨b,2,none⟩=some x2∧w.cell? ⟨b,3,none⟩=some x3:=⟨h.cell 0 rfl,h.cell 1 rfl,h.cell 2 rfl,h.cell 3 rfl⟩
theorem Blk.free4 (h:Blk w b cs t):w.frozen? ⟨b,0,none⟩=false∧w.frozen? ⟨b,1,none⟩=false∧w.frozen? ⟨b,2,none⟩=false∧w.frozen? ⟨b,3,none⟩=false:=⟨h.free 0,h.free 1,h.free 2,h.free 3⟩
theorem Blk.set4 {x0 x1 x2 x3:Value} (h:Blk w b #[x0,x1,x2,x3] t) (y0 y1 y2 y3:Value):Blk ((((w.setCell ⟨b,0,none⟩ y0).setCell ⟨b,1,none⟩ y1).setCell ⟨b,2,none⟩ y2).setCell ⟨b,3,none⟩ y3) b #[y0,y1,y2,y3] t :=
 (((h.set 0 y0).set 1 y1).set 2 y2).set 3 y3
end
def aPD (base:Nat) (e:TypeId) (size n:Nat) (xs:List Value) (v:Value) (u:World):Prop:=∃ A c,v=.slice A n c∧Row u base e size A n c xs
def SlRd (size n:Nat) (xs:List Value) (v:Value) (u:World):Prop:=∃ A c,v=.slice A n c∧Rd u A n size xs
def aE9 (base:Nat) (cs:Array Value) (t:TypeId) (v:Value) (u:World):Prop:=∃ b,v=.pointer (some ⟨b,0,none⟩)∧base≤b∧Blk u b cs t
section
variable {u w:World} {base size n:Nat} {e t:TypeId} {xs:List Value} {v:Value} {cs:Array Value}
theorem aPD.below (h:aPD base e size n xs v u) (hb:Below u.heap.size u w):aPD base e size n xs v w:=by
 obtain⟨A,c,hv,hr⟩:=h
 exact⟨A,c,hv,hr.below hb⟩
theorem SlRd.below (h:SlRd size n xs v u) (hb:Below u.heap.size u w):SlRd size n xs v w:=by
 obtain⟨A,c,hv,hr⟩:=h
 exact⟨A,c,hv,hr.below hb⟩
theorem aE9.below (h:aE9 base cs t v u) (hb:Below u.heap.size u w):aE9 base cs t v w:=by
 obtain⟨b,hv,hB,hk⟩:=h
 exact⟨b,hv,hB,hk.below hb⟩
theorem Row.farT {A:Option Addr} {c b:Nat} (h:Row u base e size A n c xs) (hb:Blk u b cs t) (hne:t≠e) (i:Nat) (x:Value):Row (u.setCell ⟨b,i,none⟩ x) base e size A n c xs:=by
 have hb':u.heap[b]?=some (.cells cs t (0,0)):=hb
 rcases h with ⟨h1,h2⟩ | h
 ·refine .inl ⟨h1,?_⟩
  rcases h2 with h2 | ⟨g,cap,cur,hv,hg,hh,r⟩
  ·exact .inl h2
  ·have hgb:b≠g:=by
    intro h
    subst h
    rw[hb']at hh
    injection hh with hh
    injection hh with _ h2
    exact hne h2
   refine .inr ⟨g,cap,cur,hv,hg,?_,r⟩
   rw[← hh]
   unfold World.setCell
   simp only[Array.getElem?_modify]
   rw[if_neg hgb]
 ·exact .inr h
theorem Row.farT4 {A:Option Addr} {c b:Nat} (h:Row u base e size A n c xs) (hb:Blk u b cs t) (hne:t≠e) (y0 y1 y2 y3:Value):Row ((((u.setCell ⟨b,0,none⟩ y0).setCell ⟨b,1,none⟩ y1).setCell ⟨b,2,none⟩ y2).setCell ⟨b,3,none⟩ y3) base e size A n c xs :=
 (((h.farT hb hne 0 y0).farT (hb.set 0 y0) hne 1 y1).farT ((hb.set 0 y0).set 1 y1) hne 2 y2).farT (((hb.set 0 y0).set 1 y1).set 2 y2) hne 3 y3
theorem aJ {B:Nat} {a:World} (h:Below B a u) {b:Nat} (hb:B≤b) (i:Nat) (x:Value):Below B a (u.setCell ⟨b,i,none⟩ x):=h.setCell (p:=⟨b,i,none⟩) hb x
theorem bP {B:Nat} {a:World} (h:Below B a u) {b:Nat} (hb:B≤b) (y0 y1 y2 y3:Value):Below B a ((((u.setCell ⟨b,0,none⟩ y0).setCell ⟨b,1,none⟩ y1).setCell ⟨b,2,none⟩ y2).setCell ⟨b,3,none⟩ y3) :=
 aJ (aJ (aJ (aJ h hb 0 y0) hb 1 y1) hb 2 y2) hb 3 y3
end
def Two (w:World) (X:Array Value) (tX:TypeId) (O:Array Value) (tO:TypeId) (u:World):Prop:=Blk u w.heap.size X tX∧Blk u (w.heap.size+1) O tO∧Below w.heap.size w u
section
variable {w u v:World} {X O:Array Value} {tX tO:TypeId}
theorem Two.start (w:World) (X:Array Value) (tX:TypeId) (O:Array Value) (tO:TypeId):Two w X tX O tO ((w.alloc (.cells X tX)).alloc (.cells O tO)):=by
 refine⟨(Blk.new w X _).alloc _,?_,((zB _ _).alloc (zA _) _).alloc (by simp only[bJ];omega) _⟩
 have:=Blk.new (w.alloc (.cells X tX)) O tO
 rwa [bJ]at this
theorem Two.below (h:Two w X tX O tO u) (hb:Below u.heap.size u v):Two w X tX O tO v:=⟨h.1.below hb,h.2.1.below hb,aA h.2.2.size h.2.2 hb⟩
theorem Two.alloc (h:Two w X tX O tO u) (o:Obj):Two w X tX O tO (u.alloc o):=h.below ((zB _ _).alloc (zA _) _)
theorem Two.drew (h:Two w X tX O tO u):Two w X tX O tO u.drew:=h.below (zB _ _).drew
theorem Two.size (h:Two w X tX O tO u):w.heap.size+2≤u.heap.size:=by have:=h.2.1.lt;omega
theorem Two.app {A A':Option Addr} {c c' base size n:Nat} {e:TypeId} {xs:List Value} (h:Two w X tX O tO u) (ha:App u v A c A' c') (hr:Row u base e size A n c xs) (hb:w.heap.size+2≤base) (hbu:base≤u.heap.size):Two w X tX O tO v :=
 ⟨h.1.app ha (fun k hk=>by have:=(hr.lt k hk).1;omega),h.2.1.app ha (fun k hk=>by have:=(hr.lt k hk).1;omega),h.2.2.trans ((ha.below hr hbu).mono (by omega))⟩
end
def bQ (w:World) (base:Nat) (A:Option Addr) (n c:Nat) (bs:List UInt8):Prop :=
 bs.length=n∧n≤c∧(c=0∨∃ g,A=some ⟨g,0,none⟩∧base≤g∧g < w.heap.size∧(∀ j,j < c→(w.cell? ⟨g,j,none⟩).isSome=true∧w.frozen? ⟨g,j,none⟩=false)∧∀ j u,(aB bs)[j]?=some u→w.cell? ⟨g,j,none⟩=some u)
section
variable {w w':World} {base n c:Nat} {A:Option Addr} {bs:List UInt8}
theorem bQ.none_ (w:World) (base:Nat):bQ w base none 0 0 []:=⟨rfl,zA _,.inl rfl⟩
theorem Row.crow (h:Row w base 5 1 A n c (aB bs)):bQ w base A n c bs:=by
 have hl:bs.length=n:=by have:=h.len;simpa [aB] using this
 refine⟨hl,h.cap.1,?_⟩
 rcases h with h | ⟨_,h0,_⟩
 ·have hrd:=Rd.of_own h
  rcases h.2 with ⟨hv,h0⟩ | ⟨g,cap,cur,hv,hb,hg,hle,hm,hs,ht⟩
  ·injection hv with _ _ hc
   exact .inl hc
  ·injection hv with hA _ hc
   subst hA
   subst hc
   refine .inr ⟨g,rfl,hb,(Array.getElem?_eq_some_iff.1 hg).1,fun j hj=>⟨?_,?_⟩,fun j u hu=>?_⟩
   ·rw[cell_of_row w g j cur _ _ hg]
    have:j < cur.size:=by rw[hs];omega
    simp [this]
   ·simp [World.frozen?,hg]
   ·have hj:j < bs.length:=by
     have:=(List.getElem?_eq_some_iff.1 hu).1
     simpa [aB] using this
    obtain⟨b,o,e,_,hc⟩:=hrd.2 (by omega)
    cases e
    have:=hc j u hu
    rwa [Nat.zero_add]at this
 ·exact .inl h0
theorem bQ.rd (h:bQ w base A n c bs):Rd w A n 1 (aB bs):=by
 obtain⟨h1,h2,h3⟩:=h
 refine⟨by simp [aB,h1],fun hn=>?_⟩
 rcases h3 with h3 | ⟨g,hA,hb,hg,_,hc⟩
 ·omega
 ·exact⟨g,0,hA,hg,fun j u hu=>by rw[Nat.zero_add];exact hc j u hu⟩
theorem bQ.below (h:bQ w base A n c bs) (hb:Below w.heap.size w w'):bQ w' base A n c bs:=by
 obtain⟨h1,h2,h3⟩:=h
 refine⟨h1,h2,?_⟩
 rcases h3 with h3 | ⟨g,hA,hB,hg,hf,hc⟩
 ·exact .inl h3
 ·exact .inr ⟨g,hA,hB,Nat.lt_of_lt_of_le hg hb.size,fun j hj=>⟨by rw[hb.cell (p:=⟨g,j,none⟩) hg];exact (hf j hj).1,by rw[hb.frozen (p:=⟨g,j,none⟩) hg];exact (hf j hj).2⟩,fun j u hu=>(hb.cell (p:=⟨g,j,none⟩) hg).trans (hc j u hu)⟩
theorem bQ.alloc (h:bQ w base A n c bs) (o:Obj):bQ (w.alloc o) base A n c bs:=h.below ((zB _ _).alloc (zA _) _)
theorem bQ.drewN (h:bQ w base A n c bs) (k:Nat):bQ (w.drewN k) base A n c bs:=h
theorem bQ.drew (h:bQ w base A n c bs):bQ w.drew base A n c bs:=h
theorem bQ.mono (h:bQ w base A n c bs) {base':Nat} (hb:base'≤base):bQ w base' A n c bs:=by
 obtain⟨h1,h2,h3⟩:=h
 refine⟨h1,h2,h3.imp id ?_⟩
 rintro⟨g,hA,hB,r⟩
 exact⟨g,hA,bD hb hB,r⟩
theorem bQ.lt (h:bQ w base A n c bs):∀ k,ownB A c=some k→base≤k∧k < w.heap.size:=by
 intro k hk
 unfold ownB at hk
 split at hk
 ·cases hk
 ·rename_i hc
  rcases h.2.2 with h3 | ⟨g,hA,hB,hg,_⟩
  ·exact absurd h3 hc
  ·subst hA
   simp at hk
   subst hk
   exact⟨hB,hg⟩
theorem App.belowC {A':Option Addr} {c':Nat} (h:App w w' A c A' c') (hr:bQ w base A n c bs) (hb:base≤w.heap.size):Below base w w' :=
 (zB _ _).grown h.grown hb (fun k hk=>(hr.lt k hk).1)
theorem zO (w:World) (s:ByteArray):∃ c W,(convert 9 39 (.string s)).run Tryz.prog w=.ok (.slice (some ⟨w.heap.size,0,none⟩) s.size c) W∧bQ W w.heap.size (some ⟨w.heap.size,0,none⟩) s.size c (L s)∧Below w.heap.size w W:=by
 refine⟨_,_,run_bytes_of_string (P:=Tryz.prog) w 9 39 5 s Tryz.underlying9 Tryz.underlying39 Tryz.underlying5,?_,((zB w.heap.size w).drew).alloc (zA _) _⟩
 generalize hC:grownCap w s.size 0 5=C
 have hge:s.size≤C:=by rw[← hC];exact grownCap_ge _ _ _ _
 have hsz:(bytesRow s C).size=C:=by
  have:s.data.size=s.size:=rfl
  simp [bytesRow,this]
  omega
 rw[hsz]
 have hrow:(w.drew.alloc (.cells (bytesRow s C) 5 (C,C+1))).heap[w.heap.size]?=some (.cells (bytesRow s C) 5 (C,C+1)):=heap_alloc_new w.drew _
 refine⟨(aQ s).symm,hge,.inr ⟨w.heap.size,rfl,zA _,by simp,fun j hj=>⟨?_,?_⟩,fun j u hu=>?_⟩⟩
 ·rw[cell_of_row _ w.heap.size j _ _ _ hrow]
  have:j < (bytesRow s C).size:=by rw[hsz];exact hj
  simp [this]
 ·simp only[World.frozen?,hrow]
  simp
  omega
 ·rw[cell_of_row _ w.heap.size j _ _ _ hrow,← hu]
  have hj:j < s.size:=by
   have:=(List.getElem?_eq_some_iff.1 hu).1
   rw[aQ]
   simpa [aB] using this
  have hj':j < s.data.size:=hj
  unfold bytesRow
  rw[Array.getElem?_append_left (by simpa using hj')]
  simp [aB,L]
end
section
variable {P:Program} (w:World)
theorem aK8 (t ty e:TypeId) (i:TypeInfo) (z:Value) (ht:P.underlying t=some (.slice e)) (hi:P.info? e=some i) (hz:i.zero=some z)
  (hsize:i.size=1) (hby:i.bytes=1) (hzs:z.cells.size=1) (hE:e=5)
  (base:Nat) (A:Option Addr) (n c:Nat) (bs:List UInt8) (hown:bQ w base A n c bs)
  (S:Option Addr) (m d:Nat) (news:List UInt8) (hr:Rd w S m 1 (aB news)) (h63:n+m≤4398046511104) (hbase:base≤w.heap.size) :
  ∃ A' c' w',(Builtin.append_ #[t,t] ty #[.slice A n c,.slice S m d]).run P w=.ok (.slice A' (n+m) c') w'∧bQ w' base A' (n+m) c' (bs++news)∧App w w' A c A' c':=by
 have hnl:news.length=m:=by have:=hr.1;simpa [aB] using this
 rcases Nat.eq_zero_or_pos m with h0 | h0
 ·subst h0
  have hn:news=[]:=List.eq_nil_of_length_eq_zero hnl
  subst hn
  exact⟨A,c,w,run_append_nothing w t ty e i ht hi A n c hown.2.1 S d,by simpa using hown,⟨World.grownBy.refl _ _,.inl ⟨rfl,rfl⟩⟩⟩
 ·obtain⟨hl,hnc,hcase⟩:=hown
  rcases hcase with hc0 | ⟨g,rfl,hB,hg,hf,hcl⟩
  ·subst hc0
   have hn0:n=0:=by omega
   subst hn0
   have hb0:bs=[]:=List.eq_nil_of_length_eq_zero hl
   subst hb0
   subst hE
   obtain⟨A',c',w',hrun,h2,h3⟩:=aH0 (P:=P) w t ty 5 i z 1 1 ht hi hz hsize hby hzs (by omega) base A 0 0 [] (Row.empty _ _ _ _ _) S m d _ hr (kM news) (by simp only[maxLen];omega) (by omega) hbase
   exact⟨A',c',w',hrun,Row.crow (by simpa using h2),h3⟩
  ·obtain⟨b,o,rfl,hlt,hc⟩:=hr.2 h0
   have hnews:∀ j u,(aB news)[j]?=some u→w.cell? ((⟨b,o,none⟩:Addr).add j)=some u:=hr.cells _ rfl h0
   have hnl':(aB news).length=m:=by simp [aB,hnl]
   by_cases hroom:n+m≤c
   ·have hrun:=run_append_room_cells (P:=P) w t ty e i ht hi g 0 n c ⟨b,o,none⟩ m d (aB news) (by rw[hsize,hnl'];omega) hnews (kM news) hroom
     (fun j hj=>by rw[hsize,Nat.zero_add,Nat.mul_one];exact (hf _ (by omega)).1) (fun j hj=>by rw[hsize,Nat.zero_add,Nat.mul_one];exact (hf _ (by omega)).2)
    rw[hsize,Nat.zero_add,Nat.mul_one]at hrun
    have hsome:∀ j,j < (aB news).length→(w.cell? ⟨g,n+j,none⟩).isSome=true:=fun j hj=>(hf _ (by omega)).1
    have hsz:(w.setCells g n (aB news)).heap.size=w.heap.size:=by
     have:∀ (vs:List Value) (o:Nat) (u:World),(u.setCells g o vs).heap.size=u.heap.size:=by
      intro vs
      induction vs with
      | nil=>intro o u;rfl
      | cons v vs ih =>
       intro o u
       show ((u.setCell ⟨g,o,none⟩ v).setCells g (o+1) vs).heap.size=_
       rw[ih]
       simp [World.setCell]
     exact this _ _ _
    have hoth:∀ k,k≠g→(w.setCells g n (aB news)).heap[k]?=w.heap[k]?:=by
     have:∀ (vs:List Value) (o:Nat) (u:World) (k:Nat),k≠g→(u.setCells g o vs).heap[k]?=u.heap[k]?:=by
      intro vs
      induction vs with
      | nil=>intro o u k _;rfl
      | cons v vs ih =>
       intro o u k hk
       show ((u.setCell ⟨g,o,none⟩ v).setCells g (o+1) vs).heap[k]?=_
       rw[ih _ _ k hk]
       unfold World.setCell
       simp only[Array.getElem?_modify]
       rw[if_neg (Ne.symm hk)]
     exact fun k hk=>this _ _ _ k hk
    refine⟨_,c,_,hrun,⟨by rw[bC,hl,hnl],hroom,.inr ⟨g,rfl,hB,by rw[hsz];exact hg,fun j hj=>⟨?_,?_⟩,fun j u hu=>?_⟩⟩,⟨?_,.inl ⟨rfl,rfl⟩⟩⟩
    ·by_cases hin:n≤j∧j < n+(aB news).length
     ·have:=World.cell?_setCells_in g (aB news) n w hsome (j - n) (by omega)
      rw[show n+(j - n)=j from by omega]at this
      rw[this];rfl
     ·rw[World.cell?_setCells_out g (aB news) n w ⟨g,j,none⟩ (fun _ _=>by simp only;omega)]
      exact (hf j hj).1
    ·rw[World.frozen?_setCells];exact (hf j hj).2
    ·have e:aB (bs++news)=aB bs++aB news:=eG bs news
     rw[e]at hu
     have hbl:(aB bs).length=n:=by simp [aB,hl]
     by_cases hin:j < n
     ·rw[List.getElem?_append_left (by omega)]at hu
      rw[World.cell?_setCells_out g (aB news) n w ⟨g,j,none⟩ (fun _ _=>by simp only;omega)]
      exact hcl j u hu
     ·rw[List.getElem?_append_right (by omega),hbl]at hu
      have hj:=(List.getElem?_eq_some_iff.1 hu).1
      have:=World.cell?_setCells_in g (aB news) n w hsome (j - n) hj
      rw[show n+(j - n)=j from by omega]at this
      rw[this,← (List.getElem?_eq_some_iff.1 hu).2]
    ·have hob:ownB (some ⟨g,0,none⟩) c=some g:=by unfold ownB;rw[if_neg (by omega)];rfl
     rw[hob]
     have hfl:∀ (vs:List Value) (o:Nat) (u:World),(u.setCells g o vs).os=u.os∧(u.setCells g o vs).tape=u.tape∧(u.setCells g o vs).output=u.output:=by
      intro vs
      induction vs with
      | nil=>intro o u;exact⟨rfl,rfl,rfl⟩
      | cons v vs ih =>
       intro o u
       have:=ih (o+1) (u.setCell ⟨g,o,none⟩ v)
       exact⟨this.1,this.2.1,this.2.2⟩
     exact⟨(hfl _ _ _).1,(hfl _ _ _).2.1,(hfl _ _ _).2.2,by rw[hsz];exact zA _,fun k _ hne=>hoth k (fun e=>hne (by rw[e]))⟩
   ·obtain⟨v',w',hrun,h2,h3⟩:=run_append_arg_grows (P:=P) w t ty e i z 1 1 ht hi hz hsize hby hzs (by omega) ⟨g,0,none⟩ n c (aB bs) (by simp [aB,hl]) (fun j u hu=>by
      have:(⟨g,0,none⟩:Addr).add j=⟨g,0+j,none⟩:=by unfold Addr.add;split<;>simp_all
      rw[this,Nat.zero_add];exact hcl j u hu) ⟨b,o,none⟩ m d (aB news) (by rw[hnl'];omega) hnews (by omega) (by simp only[maxLen];omega) (by omega)
    obtain⟨g',cap,hv,hb',hh⟩:=h2.form (by omega)
    have ho:w'.ownsRow base e 1 v' (n+m) (aB bs++aB news):=by
     refine⟨h2.1,?_⟩
     rcases h2.2 with h | ⟨g2,cap2,cur2,hv2,hg2,r⟩
     ·exact .inl h
     ·exact .inr ⟨g2,cap2,cur2,hv2,bD hbase hg2,r⟩
    subst hv
    subst hE
    refine⟨_,_,_,hrun,Row.crow (.inl ?_),⟨⟨h3.os,h3.tape,h3.output,h3.size,fun k hk _=>h3.block k hk (by simp)⟩,.inr ⟨g',rfl,hb'⟩⟩⟩
    rw[eG]
    exact ho
end
section
variable (w:World) {ops:Array Oper} {rest:List Oper} {o:Oper} {a:Act} {K:Act→World→Prop} {Q:Exit→Act→World→Prop}
theorem appC (hgd:o.guard=none) (s x:Operand) (ho:o.op=.call { callee:=.builtin .append,args:=#[s,x],argTypes:=#[39,39] })
  (base:Nat) (A:Option Addr) (n c:Nat) (xs:List UInt8) (hs:a.eval s=.slice A n c) (hown:bQ w base A n c xs)
  (S:Option Addr) (m d:Nat) (news:List UInt8) (hx:a.eval x=.slice S m d) (hr:Rd w S m 1 (aB news)) (h63:n+m≤4398046511104) (hbase:base≤w.heap.size)
  (h:∀ A' c' w',bQ w' base A' (n+m) c' (xs++news)→App w w' A c A' c'→wpList Tryz.prog ops Q rest (a.put o.dst (.slice A' (n+m) c')) w'):wpList Tryz.prog ops Q (o::rest) a w :=
 wpList_plain hgd fun K hK=>by
  obtain⟨i0,hi0,hz0,hz1,hz2⟩:=info_parts Tryz.infoB
  obtain⟨A',c',w',hrun,h2,h3⟩:=aK8 (P:=Tryz.prog) w 39 o.type 5 i0 _ Tryz.underlying39 hi0 hz0 hz1 hz2 rfl rfl base A n c xs hown S m d news hr h63 hbase
  unfold Oper.wp execOp
  simp only[ho,resolve,invoke,builtin,Sem.run_bind,Sem.run_pure,Result.andThen_ok,List.map_toArray,List.map_cons,List.map_nil,hs,hx,hrun]
  exact hK _ _ (h A' c' w' h2 h3)
end
theorem vC (A B:Option Addr) (n m c d:Nat) (xs ys:List FD) (w:World) (hn:n≤1099511627776) (hm:m≤1099511627776) (hx:Rd w A n 2 (aI xs)) (hy:Rd w B m 2 (aI ys)) (hxl:xs.length=n) (hyl:ys.length=m) :
  Calls Tryz.prog 86 #[.slice A n c,.slice B m d] w (pR w (decide (xs=ys))):=by
 have HX:=aH hxl
 have HY:=aH hyl
 clear hxl hyl
 by_cases hnm:n=m
 ·subst hnm
  go_enter Tryz.func86,Tryz.ntmps86
  go_wp2
  go_loopw [5] (fun i wr=>∃ k:Nat,k≤n∧i=.int .i64 k∧xs.take k=ys.take k∧∃ q,wr=w.drewN q) (fun i _=>n - (intOf i).toNat)
  case atStart=>exact⟨0,zF _,rfl,rfl,0,rfl⟩
  case round =>
   obtain⟨k,hk,rfl,he,q,rfl⟩:=hrel
   have HE:=aH he;clear he
   by_cases hlt:k < n
   ·obtain⟨b1,o1,rfl,hl1,c1,c2⟩:=hx.field hlt HX.out
    obtain⟨b2,o2,rfl,hl2,d1,d2⟩:=hy.field hlt HY.out
    have hneq:=fun w=>neqF (xs[k]'(by have:=HX.out;omega)) (ys[k]'(by have:=HY.out;omega)) w
    have hdec:=tf (decide (xs[k]'(by have:=HX.out;omega)=ys[k]'(by have:=HY.out;omega)))
    rcases hdec with hd | hd
    ·go_wp2
     go_region
     go_wp2
     go_roundw
     case rel=>exact⟨k+1,by omega,by go_num,oV _ _ HE.out (of_decide_eq_true hd),_,rfl⟩
     case measure=>simp [intOf];omega
    ·go_wp2
     go_region
     go_wp2
     go_ret
     exact⟨aP (by
      symm;apply decide_eq_false
      intro e
      subst e
      simp at hd),below_drewN (zB _ _) _⟩
   ·have hkn:k=n:=by omega
    have hfin:xs=ys:=by
     have:=HE.out
     have h1:=HX.out
     have h2:=HY.out
     rw[List.take_of_length_le (by omega),List.take_of_length_le (by omega)]at this
     exact this
    have HF:=aH hfin
    clear hkn hfin
    go_wp2
    go_ret
    exact⟨aP (by rw[decide_eq_true HF.out]),below_drewN (zB _ _) _⟩
 ·have h1:((n:Int)==(m:Int))=false:=by simp;omega
  have h2:((n:Int) != (m:Int))=true:=by simp;omega
  go_enter Tryz.func86,Tryz.ntmps86
  go_wp2
  go_ret
  exact⟨aP (by have:=HX.out;have:=HY.out;symm;apply decide_eq_false;rintro rfl;omega),zB _ _⟩
theorem kS (A:Option Addr) (n c:Nat) (xs:List FD) (w:World) (hn:n≤1099511627776) (hx:Rd w A n 2 (aI xs)) :
  Calls Tryz.prog 14 #[.slice A n c] w (dN w 60 2 n (aI xs)):=by
 go_enter Tryz.func14,Tryz.ntmps14
 go_wp2_with (at_builtin;refine appF _ rfl (.tmp 5) (.tmp 6) rfl w.heap.size _ 0 0 [] rfl (Row.empty _ _ _ _ _) A n c xs rfl (hx.alloc _) (by omega) (by simp) ?_;intro A1 c1 w1 hr1 ha1;simp only[Nat.zero_add,List.nil_append]at hr1)
 go_ret
 exact⟨A1,c1,by simp,hr1,((zB _ _).alloc (zA _) _).trans (ha1.below (Row.empty _ _ 60 2 _) (by simp))⟩
theorem aKV:∀ fs:List FD,∀ name:ByteArray,(F.tokens fs name).length≤F.bulk fs:=by
 intro fs name
 induction fs with
 | nil=>simp [F.tokens,F.values,F.bulk]
 | cons f l ih =>
  have hl:=aEL f.2
  unfold F.tokens F.values at ih ⊢
  rw[List.filter_cons]
  simp only[F.bulk]
  split
  ·rw[List.map_cons,List.flatMap_cons,bC,List.length_map];omega
  ·omega
theorem aLK {fs:List FD} {name x:ByteArray} (hx:x∈F.tokens fs name):x.size≤F.bulk fs:=by
 unfold F.tokens at hx
 obtain⟨v,hv,hx⟩:=List.mem_flatMap.1 hx
 obtain⟨el,hel,rfl⟩:=List.mem_map.1 hx
 have h1:=aEK hel
 unfold F.values at hv
 obtain⟨f,hf,rfl⟩:=List.mem_map.1 hv
 have h2:=F.qN (List.mem_filter.1 hf).1
 rw[iK]
 unfold T.fold
 rw[List.length_map,← aQ]
 omega
def aQ2 (ns:List ByteArray):Prop:=∀ s∈ns,s.size≤1099511627776
def among (ns:List ByteArray) (f:FD):Bool:=ns.any fun n=>F.is f n
structure Names (w0:World) (X:Option Addr) (m d:Nat) (ns:List ByteArray) (g:Nat):Prop where
 hm:m≤1099511627776
 hl:ns.length=m
 hn:aQ2 ns
 hx:Rd w0 X m 1 (aC ns)
 c0:w0.cell? ⟨g,0,none⟩=some (.slice X m d)
def kept (p:FD→Bool) (fs:List FD):List FD:=fs.filter fun f=>!p f
theorem aBG (p:FD→Bool) (fs:List FD) (k:Nat) (h:k < fs.length):kept p (fs.take (k+1))=kept p (fs.take k)++(if p fs[k] then [] else [fs[k]]):=by
 unfold kept
 rw[F.eX _ _ _ h]
 congr 1
 by_cases hp:p fs[k]=true<;>simp [hp]
def aCB (p:FD→Bool) (fs xs:List FD) (i j:Nat):Prop:=xs.length=fs.length∧i < j∧j≤fs.length∧xs.take i=kept p (fs.take j)∧xs.drop j=fs.drop j
theorem aCB.at_ {p:FD→Bool} {fs xs:List FD} {i j:Nat} (h:aCB p fs xs i j) (hj:j < fs.length):∃ hx:j < xs.length,xs[j]=fs[j]:=by
 have hx:j < xs.length:=by rw[h.1];exact hj
 refine⟨hx,?_⟩
 have:=h.2.2.2.2
 rw[List.drop_eq_getElem_cons hx,List.drop_eq_getElem_cons hj]at this
 injection this
theorem aCB.skip {p:FD→Bool} {fs xs:List FD} {i j:Nat} (h:aCB p fs xs i j) (hj:j < fs.length) (hp:p fs[j]=true):aCB p fs xs i (j+1):=by
 obtain⟨h1,h2,h3,h4,h5⟩:=h
 refine⟨h1,by omega,by omega,?_,?_⟩
 ·rw[aBG p fs j hj,if_pos hp,List.append_nil];exact h4
 ·rw[← List.drop_drop,← List.drop_drop,h5]
theorem aCB.move {p:FD→Bool} {fs xs:List FD} {i j:Nat} (h:aCB p fs xs i j) (hj:j < fs.length) (hp:p fs[j]=false):aCB p fs (xs.set i fs[j]) (i+1) (j+1):=by
 obtain⟨h1,h2,h3,h4,h5⟩:=h
 have hi:i < xs.length:=by omega
 refine⟨by simpa using h1,by omega,by omega,?_,?_⟩
 ·rw[aBG p fs j hj,if_neg (by simp [hp]),← h4,bI (by simpa using hi)]
  simp [List.take_set_of_le]
 ·rw[List.drop_set_of_lt (by omega),← List.drop_drop,← List.drop_drop,h5]
theorem Row.nil {w:World} {base:Nat} {e:TypeId} {size:Nat} {A:Option Addr} {n c:Nat} {xs:List Value} (h:Row w base e size A n c xs) (hA:A=none):n=0∧c=0:=by
 subst hA
 rcases h with ⟨_,h | ⟨g,cap,cur,hv,_⟩⟩ | ⟨h1,h2,_⟩
 ·obtain⟨hv,h0⟩:=h
  cases hv
  exact⟨rfl,rfl⟩
 ·cases hv
 ·exact⟨h1,h2⟩
theorem iR {fs:List FD} (h:F.bulk fs≤1073741824):pU fs:=fun f hf=>by
 have:=F.qN hf
 omega
def iJ (w:World):Prop:=Lib.TabIs Tryz.prog w "internal/strconv.uint64pow10" .u64 Lib.pow10Tab
theorem aHR:∃ g,Tryz.prog.globalNamed "internal/strconv.uint64pow10"=some g:=⟨4,by kernel_rfl⟩
theorem iJ.below {w w':World} (h:iJ w) (hb:Below w.heap.size w w'):iJ w':=by
 obtain⟨g,hg⟩:=aHR
 unfold iJ Lib.TabIs at h ⊢
 refine var?_below hb hg ?_ h
 unfold World.var? at h
 rw[hg]at h
 simp only[Option.bind_some]at h
 rcases Nat.lt_or_ge g w.heap.size with hlt | hge
 ·exact hlt
 ·rw[Array.getElem?_eq_none hge]at h;simp at h
theorem iJ.alloc {w:World} (h:iJ w) (o:Obj):iJ (w.alloc o):=h.below ((zB _ _).alloc (zA _) _)
theorem aEO (n:Int) (h0:-9223372036854775808≤n) (h1:n≤9223372036854775807) (w:World) (ht:iJ w):Calls Tryz.prog 156 #[.int .i64 n] w (aDU w (B (Lib.itoa n))):=by
 refine (Tryz.strconv_Itoa n h0 h1 w ht).mono ?_
 rintro e w' ⟨rfl,k,os,rfl⟩
 exact⟨rfl,Lib.below_grow _ w (zA _) k os⟩
def aOQ:Nat→Nat→List UInt8
 | 0,_=>[]
 | n+1,u=>if u=0 then [] else UInt8.ofNat (48+u % 10)::aOQ n (u / 10)
theorem tH:∀ (n m u:Nat),u≤n→u≤m→aOQ n u=aOQ m u
 | 0,0,u,_,_=>rfl
 | 0,m+1,u,h,_=>by
  have:u=0:=by omega
  subst this;rfl
 | n+1,0,u,_,h=>by
  have:u=0:=by omega
  subst this;rfl
 | n+1,m+1,u,h,h'=>by
  unfold aOQ
  split
  ·rfl
  ·rw[tH n m (u / 10) (by omega) (by omega)]
def low (u:Nat):List UInt8:=aOQ u u
theorem aLP:low 0=[]:=rfl
theorem aOR {u:Nat} (h:0 < u):low u=UInt8.ofNat (48+u % 10)::low (u / 10):=by
 obtain⟨n,rfl⟩:∃ n,u=n+1:=⟨u - 1,by omega⟩
 show aOQ (n+1) (n+1)=_
 rw[aOQ,if_neg (by omega),low,tH n ((n+1) / 10) ((n+1) / 10) (by omega) (zA _)]
theorem aJN:∀ u:Nat,0 < u→Lib.decDigits u=(low u).reverse:=by
 intro u
 induction u using Nat.strongRecOn with
 | ind u ih =>
  intro h
  rw[aOR h,List.reverse_cons]
  rw[Lib.decDigits]
  split
  ·rename_i h10
   have:u / 10=0:=by omega
   rw[this,aLP,Nat.mod_eq_of_lt h10];rfl
  ·rw[ih (u / 10) (by omega) (by omega)]
theorem aBI (n:Int) (h:n≠0):Lib.itoa n=((low n.natAbs)++(if n < 0 then [45] else [])).reverse:=by
 unfold Lib.itoa
 split
 ·rw[aJN n.natAbs (by omega)];simp
 ·rw[aJN n.toNat (by omega)]
  have:n.toNat=n.natAbs:=by omega
  rw[this];simp
end Go.Proofs.YthjeglnkgdpijaaGreatDoor
