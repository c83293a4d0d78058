/- A text's bytes appended to a list of bytes that the call owns: both ways. No condition: a law of the walk. The stand-in disk as a plain state: its steps, what is read of it, what a loss of power leaves; and the document's disk over the same. No program here. The walk of head.Request. Conditions: a row of at most 2^30 bytes; the library's two tables of UTF-8 as its text lays them; internal/bytealg.MaxLen holds some number. How many tokens a list of fields has, and how great they are. No program here but what lists are. The walks of fields.Without, with the library's Clone, DeleteFunc, IndexFunc, ContainsFunc at its closures. The walk of the library's DeleteFunc at fields.Without's closure; fields.Without. The walk of the document's Without. The walks of hop.Strip and of its document's twin. The walks of fields.Print and of the document's. Condition: a list of bulk at most 2^30. -/
import Derived.Test.YthjeglnkgdpijaaGreatDoorHeadB
import Derived.Deep.CutBlock
import Derived.Deep.RegionHeld3
set_option maxHeartbeats 1000000
set_option maxRecDepth 100000
namespace Go.Proofs.YthjeglnkgdpijaaGreatDoor
open Go Go.RowKit
theorem scell_bytes (s:ByteArray):(Array.map (fun b:UInt8=>Value.int IntKind.u8 (b.toNat:Int)) s.data)=(bcells (L s)).toArray:=by
 apply Array.ext'
 simp [bcells,L]
theorem extract_all (s:ByteArray):(Array.map (fun b:UInt8=>Value.int IntKind.u8 (b.toNat:Int)) s.data).extract 0 s.size=(bcells (L s)).toArray:=by
 rw[← scell_bytes]
 have hs:s.size=(Array.map (fun b:UInt8=>Value.int IntKind.u8 (b.toNat:Int)) s.data).size:=by rw[Array.size_map];rfl
 rw[hs,Array.extract_size]
section
variable {P:Program} (w:World)
theorem run_appStr (t u ty e:TypeId) (i:TypeInfo) (z:Value) (ht:P.underlying t=some (.slice e)) (hu:P.underlying u=some .string) (hi:P.info? e=some i) (hz:i.zero=some z)
  (hsize:i.size=1) (hby:i.bytes=1) (hzs:z.cells.size=1) (hE:e=5)
  (base g n c:Nat) (bs:List UInt8) (hc0:c≠0) (hown:CRow w base (some ⟨g,0,none⟩) n c bs)
  (s:ByteArray) (h63:n+s.size≤4398046511104) (hbase:base≤w.heap.size) :
  ∃ A' c' w',(Builtin.append_ #[t,u] ty #[.slice (some ⟨g,0,none⟩) n c,.string s]).run P w=.ok (.slice A' (n+s.size) c') w'∧CRow w' base A' (n+s.size) c' (bs++L s)∧App w w' (some ⟨g,0,none⟩) c A' c':=by
 obtain⟨hl,hnc,hcase⟩:=hown
 rcases hcase with h | ⟨g2,hg2,hB,hg,hf,hcl⟩
 ·exact absurd h hc0
 have hgg:g2=g:=by
  injection hg2 with h
  injection h with h
  exact h.symm
 subst hgg
 have hnl:(bcells (L s)).length=s.size:=by rw[bcells_length,L_size]
 have hLs:(L s).length=s.size:=(L_size s).symm
 by_cases hroom:n+s.size≤c
 ·have hst:=run_storeCells_cells (P:=P) g2 n (bcells (L s)) 0 w (fun j hj=>by simp at hj ⊢;exact (hf _ (by omega)).1) (fun j hj=>by simp at hj ⊢;exact (hf _ (by omega)).2) (bcells_one _)
  simp only[Nat.add_zero]at hst
  have hrun:(Builtin.append_ #[t,u] ty #[.slice (some ⟨g2,0,none⟩) n c,.string s]).run P w=.ok (.slice (some ⟨g2,0,none⟩) (n+s.size) c) (w.setCells g2 n (bcells (L s))):=by
   have hx:=extract_all s
   simp [Builtin.append_,run_underlying ht,run_underlying hu,sizeOf,typeInfo,hi,hsize,Builtin.lenOf,Builtin.firstCells,hroom,Addr.add_lit,hx,hst]
  have hsome:∀ j,j < (bcells (L s)).length→(w.cell? ⟨g2,n+j,none⟩).isSome=true:=fun j hj=>(hf _ (by omega)).1
  have hsz:∀ (vs:List Value) (o:Nat) (u:World),(u.setCells g2 o vs).heap.size=u.heap.size:=by
   intro vs
   induction vs with
   | nil=>intro o u;rfl
   | cons v vs ih =>
    intro o u
    show ((u.setCell ⟨g2,o,none⟩ v).setCells g2 (o+1) vs).heap.size=_
    rw[ih]
    simp [World.setCell]
  have hoth:∀ (vs:List Value) (o:Nat) (u:World) (k:Nat),k≠g2→(u.setCells g2 o vs).heap[k]?=u.heap[k]?:=by
   intro vs
   induction vs with
   | nil=>intro o u k _;rfl
   | cons v vs ih =>
    intro o u k hk
    show ((u.setCell ⟨g2,o,none⟩ v).setCells g2 (o+1) vs).heap[k]?=_
    rw[ih _ _ k hk]
    unfold World.setCell
    simp only[Array.getElem?_modify]
    rw[if_neg (Ne.symm hk)]
  refine⟨_,c,_,hrun,⟨by rw[List.length_append,hl,hLs],hroom,.inr ⟨g2,rfl,hB,by rw[hsz];exact hg,fun j hj=>⟨?_,?_⟩,fun j u hu=>?_⟩⟩,⟨?_,.inl ⟨rfl,rfl⟩⟩⟩
  ·by_cases hin:n≤j∧j < n+(bcells (L s)).length
   ·have:=World.cell?_setCells_in g2 (bcells (L s)) n w hsome (j - n) (by omega)
    rw[show n+(j - n)=j from by omega]at this
    rw[this];rfl
   ·rw[World.cell?_setCells_out g2 (bcells (L s)) n w ⟨g2,j,none⟩ (fun _ _=>by simp only;omega)]
    exact (hf j hj).1
  ·rw[World.frozen?_setCells];exact (hf j hj).2
  ·have e:bcells (bs++L s)=bcells bs++bcells (L s):=bcells_append bs (L s)
   rw[e]at hu
   have hbl:(bcells bs).length=n:=by simp [bcells,hl]
   by_cases hin:j < n
   ·rw[List.getElem?_append_left (by omega)]at hu
    rw[World.cell?_setCells_out g2 (bcells (L s)) n w ⟨g2,j,none⟩ (fun _ _=>by simp only;omega)]
    exact hcl j u hu
   ·rw[List.getElem?_append_right (by omega),hbl]at hu
    have hj:=(List.getElem?_eq_some_iff.1 hu).1
    have:=World.cell?_setCells_in g2 (bcells (L s)) n w hsome (j - n) hj
    rw[show n+(j - n)=j from by omega]at this
    rw[this,← (List.getElem?_eq_some_iff.1 hu).2]
  ·have hob:ownB (some ⟨g2,0,none⟩) c=some g2:=by unfold ownB;rw[if_neg hc0];rfl
   rw[hob]
   have hfl:∀ (vs:List Value) (o:Nat) (u:World),(u.setCells g2 o vs).os=u.os∧(u.setCells g2 o vs).tape=u.tape∧(u.setCells g2 o vs).output=u.output:=by
    intro vs
    induction vs with
    | nil=>intro o u;exact⟨rfl,rfl,rfl⟩
    | cons v vs ih =>
     intro o u
     have:=ih (o+1) (u.setCell ⟨g2,o,none⟩ v)
     exact⟨this.1,this.2.1,this.2.2⟩
   exact⟨(hfl _ _ _).1,(hfl _ _ _).2.1,(hfl _ _ _).2.2,by rw[hsz];exact Nat.le_refl _,fun k _ hne=>hoth _ _ _ k (fun e=>hne (by rw[e]))⟩
 ·have hn:¬ (n+s.size≤c):=hroom
  have h63':¬ (9223372036854775807 < ((n:Int)+(s.size:Int))):=by omega
  have hfit:Builtin.nextslicecap (n+s.size) c * i.bytes≤281474976710656:=growslice_fits (by omega) (by rw[hby];omega)
  have h48':¬ (281474976710656 < Builtin.nextslicecap (n+s.size) c * i.bytes):=by omega
  have hfo:=run_firstCells_some (P:=P) w.drew i.size n ⟨g2,0,none⟩ n c (bcells bs) (by rw[hsize,bcells_length,hl,Nat.mul_one]) (fun j v hv=>by
   have:(⟨g2,0,none⟩:Addr).add j=⟨g2,0+j,none⟩:=by unfold Addr.add;split<;>simp_all
   rw[this,Nat.zero_add]
   simpa using hcl j v hv)
  have hge:=grownCap_ge w (n+s.size) c e
  have hcm:grownCap w (n+s.size) c e≤maxLen:=grownCap_le_maxLen w (n+s.size) c e (by simp only[maxLen];omega)
  obtain⟨cs,hcs⟩:∃ cs,cs=(bcells bs++bcells (L s)).toArray++Builtin.zeroCells z.cells (grownCap w (n+s.size) c e - (n+s.size)):=⟨_,rfl⟩
  have hrun:(Builtin.append_ #[t,u] ty #[.slice (some ⟨g2,0,none⟩) n c,.string s]).run P w=.ok (.slice (some ⟨w.heap.size,0,none⟩) (n+s.size) (grownCap w (n+s.size) c e)) (w.drew.alloc (.cells cs e)):=by
   have hx:=extract_all s
   simp [Builtin.append_,run_underlying ht,run_underlying hu,sizeOf,typeInfo,zeroValue,hi,hz,Builtin.lenOf,hn,h63',h48',Question.forced,hfo,newRow,grownCap]
   simp [Builtin.firstCells,hcs,grownCap,scell_bytes]
   rw[← Array.append_assoc,show (bcells bs).toArray++(bcells (L s)).toArray=(bcells bs++bcells (L s)).toArray by simp]
  have hrow:(w.drew.alloc (.cells cs e)).heap[w.heap.size]?=some (.cells cs e (0,0)):=heap_alloc_new w.drew _
  have hl2:(bcells bs++bcells (L s)).length=n+s.size:=by rw[List.length_append,bcells_length,hl,hnl]
  have hcsz:cs.size=grownCap w (n+s.size) c e:=by
   rw[hcs,Array.size_append,List.size_toArray,size_zeroCells,hzs,hl2]
   omega
  have hown:(w.drew.alloc (.cells cs e)).ownsRow w.heap.size e 1 (.slice (some ⟨w.heap.size,0,none⟩) (n+s.size) (grownCap w (n+s.size) c e)) (n+s.size) (bcells bs++bcells (L s)):=by
   refine⟨by rw[hl2,Nat.mul_one],.inr ⟨w.heap.size,_,_,rfl,Nat.le_refl _,hrow,hge,hcm,by rw[hcsz,Nat.mul_one],?_⟩⟩
   rw[hcs,Array.toList_append,Nat.mul_one]
   have h9:(bcells bs++bcells (L s)).toArray.toList.length=n+s.size:=by simpa using hl2
   rw[← h9]
   exact List.take_left
  subst hE
  have hgr:World.grownBy w (w.drew.alloc (.cells cs 5)) (ownB (some ⟨g2,0,none⟩) c):=⟨rfl,rfl,rfl,by simp,fun k hk _=>Below.heap_alloc w.drew _ k hk⟩
  refine⟨_,_,_,hrun,(Row.crow (.inl ?_)).mono hbase,⟨hgr,.inr ⟨_,rfl,Nat.le_refl _⟩⟩⟩
  rw[bcells_append]
  exact hown
end
section
variable (w:World) {ops:Array Oper} {rest:List Oper} {o:Oper} {a:Act} {K:Act→World→Prop} {Q:Exit→Act→World→Prop}
theorem Tryz.undStr:Tryz.prog.underlying 9=some .string:=by kernel_rfl
theorem appStr (hgd:o.guard=none) (s x:Operand) (ho:o.op=.call { callee:=.builtin .append,args:=#[s,x],argTypes:=#[39,9] })
  (base g n c:Nat) (xs:List UInt8) (hs:a.eval s=.slice (some ⟨g,0,none⟩) n c) (hc0:c≠0) (hown:CRow w base (some ⟨g,0,none⟩) n c xs)
  (str:ByteArray) (hx:a.eval x=.string str) (h63:n+str.size≤4398046511104) (hbase:base≤w.heap.size)
  (h:∀ A' c' w',CRow w' base A' (n+str.size) c' (xs++L str)→App w w' (some ⟨g,0,none⟩) c A' c'→wpList Tryz.prog ops Q rest (a.put o.dst (.slice A' (n+str.size) c')) w'):wpList Tryz.prog ops Q (o::rest) a w :=
 wpList_plain hgd fun K hK=>by
  obtain⟨i0,hi0,hz0,hz1,hz2⟩:=info_parts Tryz.infoB
  obtain⟨A',c',w',hrun,h2,h3⟩:=run_appStr (P:=Tryz.prog) w 39 9 o.type 5 i0 _ Tryz.underlying39 Tryz.undStr hi0 hz0 hz1 hz2 rfl rfl base g n c xs hc0 hown str h63 hbase
  unfold Oper.wp execOp
  simp only[ho,resolve,invoke,builtin,Sem.run_bind,Sem.run_pure,Result.andThen_ok,List.map_toArray,List.map_cons,List.map_nil,hs,hx,hrun]
  exact hK _ _ (h A' c' w' h2 h3)
end
end Go.Proofs.YthjeglnkgdpijaaGreatDoor
namespace Go.Proofs.YthjeglnkgdpijaaGreatDoor
namespace D
abbrev NM:=List (ByteArray × Nat)
def ltB (a b:ByteArray):Bool:=decide (L a < L b)
def okB (c:UInt8):Bool:=(decide (97≤c.toNat)&&decide (c.toNat≤122))||(decide (48≤c.toNat)&&decide (c.toNat≤57))||decide (c=46)||decide (c=45)||decide (c=95)||decide (c=47)
def good (s:ByteArray):Bool:=(L s).all okB&&decide (1≤s.size)&&decide (s.size≤64)
def find (l:NM) (nm:ByteArray):Option Nat:=(l.find? fun p=>decide (p.1=nm)).map (·.2)
def del (l:NM) (nm:ByteArray):NM:=l.filter fun p=>decide (p.1≠nm)
def ins:NM→ByteArray→Nat→NM
 | [],nm,no=>[(nm,no)]
 | p::r,nm,no=>if ltB nm p.1 then (nm,no)::p::r else p::ins r nm no
def put (l:NM) (nm:ByteArray) (no:Nat):NM:=ins (del l nm) nm no
inductive Chg where
 | put (nm:ByteArray) (no:Nat)
 | del (nm:ByteArray)
 | ren (a b:ByteArray) (no:Nat)
def Chg.app (l:NM):Chg→NM
 | .put nm no=>D.put l nm no
 | .del nm=>D.del l nm
 | .ren a b no=>D.put (D.del l a) b no
def Chg.within (n:Nat):Chg→Prop
 | .put _ no=>no < n
 | .del _=>True
 | .ren _ _ no=>no < n
structure Dsk where
 now:NM
 safe:NM
 pend:List Chg
 data:List (List UInt8)
 firm:List Nat
 room:Int
 fails:List Int
 power:Int
 n:Int
def Dsk.down (s:Dsk):Bool:=decide (0≤s.power)&&decide (s.n=s.power)
def Dsk.size (s:Dsk) (no:Nat):Nat:=(s.data.getD no []).length
def Dsk.used (s:Dsk):Nat:=(s.now.map fun p=>s.size p.2).sum
def Dsk.begin (s:Dsk) (names:List ByteArray):Dsk × Int :=
 if s.down then (s,93)
 else ({ s with n:=s.n+1 },if decide (s.n+1∈s.fails) then 94 else if names.all good then 0 else 95)
def Dsk.alter (s:Dsk) (c:Chg):Dsk:={ s with now:=c.app s.now,pend:=s.pend++[c] }
def Dsk.create (s:Dsk) (nm:ByteArray):Dsk × Int :=
 match s.begin [nm] with
 | (s1,e)=>if e≠0 then (s1,e) else if (find s1.now nm).isSome then (s1,91)
  else (({ s1 with data:=s1.data++[[]],firm:=s1.firm++[0] }:Dsk).alter (.put nm s1.data.length),0)
def Dsk.on (s:Dsk) (nm:ByteArray) (more:List ByteArray) (f:Dsk→Nat→Dsk × Int):Dsk × Int :=
 match s.begin (more++[nm]) with
 | (s1,e)=>if e≠0 then (s1,e) else match find s1.now nm with
  | none=>(s1,90)
  | some no=>f s1 no
def Dsk.append (s:Dsk) (nm:ByteArray) (d:List UInt8):Dsk × Int :=
 s.on nm [] fun s no=>if 0 < d.length∧s.room < (s.used:Int)+d.length then (s,92) else ({ s with data:=s.data.set no (s.data.getD no []++d) },0)
def Dsk.sync (s:Dsk) (nm:ByteArray):Dsk × Int:=s.on nm [] fun s no=>({ s with firm:=s.firm.set no (s.size no) },0)
def Dsk.syncNames (s:Dsk):Dsk × Int :=
 match s.begin [] with
 | (s1,e)=>if e≠0 then (s1,e) else ({ s1 with safe:=s1.now,pend:=[] },0)
def Dsk.rename (s:Dsk) (a b:ByteArray):Dsk × Int:=s.on a [b] fun s no=>if a=b then (s,0) else (s.alter (.ren a b no),0)
def Dsk.remove (s:Dsk) (nm:ByteArray):Dsk × Int:=s.on nm [] fun s _=>(s.alter (.del nm),0)
def Dsk.read (s:Dsk) (nm:ByteArray):List UInt8 × Int :=
 if s.down then ([],93) else if good nm=false then ([],95) else match find s.now nm with
 | none=>([],90)
 | some no=>(s.data.getD no [],0)
def Dsk.list (s:Dsk):List ByteArray:=if s.down then [] else s.now.map (·.1)
def Dsk.keepN (s:Dsk) (keep:List Int) (no:Nat):Nat:=s.firm.getD no 0+(if no < keep.length then max 0 (min (keep.getD no 0) ((s.size no:Int) - s.firm.getD no 0)) else 0).toNat
def Dsk.namesLeft (s:Dsk) (k:Int):NM:=(s.pend.take k.toNat).foldl Chg.app s.safe
def Dsk.left (s:Dsk) (k:Int) (keep:List Int):List (ByteArray × List UInt8):=(s.namesLeft k).map fun p=>(p.1,(s.data.getD p.2 []).take (s.keepN keep p.2))
def Up (l:NM):Prop:=l.Pairwise fun p q=>ltB p.1 q.1=true
structure Dsk.Ok (s:Dsk):Prop where
 lens:s.firm.length=s.data.length
 upN:Up s.now
 upS:Up s.safe
 inN:∀ p∈s.now,p.2 < s.data.length
 inS:∀ p∈s.safe,p.2 < s.data.length
 inP:∀ c∈s.pend,c.within s.data.length
 fold:s.now=s.pend.foldl Chg.app s.safe
 firms:∀ no,no < s.data.length→s.firm.getD no 0≤s.size no
theorem lt_irrefl (a:ByteArray):ltB a a=false:=by
 unfold ltB
 exact decide_eq_false (List.lt_irrefl _)
theorem lt_trans {a b c:ByteArray} (h1:ltB a b=true) (h2:ltB b c=true):ltB a c=true:=by
 unfold ltB at *
 exact decide_eq_true (List.lt_trans (of_decide_eq_true h1) (of_decide_eq_true h2))
theorem L_inj {a b:ByteArray} (h:L a=L b):a=b:=by
 obtain⟨a⟩:=a
 obtain⟨b⟩:=b
 have:a=b:=Array.toList_inj.1 h
 rw[this]
theorem lt_or {a b:ByteArray} (h:a≠b):ltB a b=true∨ltB b a=true:=by
 unfold ltB
 by_cases h1:L a < L b
 ·exact .inl (decide_eq_true h1)
 ·by_cases h2:L b < L a
  ·exact .inr (decide_eq_true h2)
  ·have:=List.le_antisymm (show L a≤L b from h2) (show L b≤L a from h1)
   exact absurd (L_inj this) h
theorem mem_del {l:NM} {nm:ByteArray} {p:ByteArray × Nat}:p∈del l nm↔p∈l∧p.1≠nm:=by
 unfold del
 rw[List.mem_filter]
 simp
theorem up_del {l:NM} (h:Up l) (nm:ByteArray):Up (del l nm):=List.Pairwise.sublist List.filter_sublist h
theorem mem_ins:∀ {l:NM} {nm:ByteArray} {no:Nat} {p:ByteArray × Nat},p∈ins l nm no↔p=(nm,no)∨p∈l
 | [],nm,no,p=>by simp [ins]
 | q::r,nm,no,p=>by
  unfold ins
  split
  ·simp
  ·rw[List.mem_cons,List.mem_cons,mem_ins (l:=r)]
   constructor
   ·rintro (h | h | h)
    ·exact .inr (.inl h)
    ·exact .inl h
    ·exact .inr (.inr h)
   ·rintro (h | h | h)
    ·exact .inr (.inl h)
    ·exact .inl h
    ·exact .inr (.inr h)
theorem up_ins:∀ {l:NM} {nm:ByteArray} {no:Nat},Up l→(∀ p∈l,p.1≠nm)→Up (ins l nm no)
 | [],nm,no,_,_=>by unfold ins Up;exact List.pairwise_singleton _ _
 | q::r,nm,no,h,hn=>by
  have hq:=List.pairwise_cons.1 h
  unfold ins
  split
  ·rename_i hlt
   refine List.pairwise_cons.2 ⟨fun p hp=>?_,h⟩
   rcases List.mem_cons.1 hp with rfl | hp
   ·exact hlt
   ·exact lt_trans hlt (hq.1 p hp)
  ·rename_i hlt
   refine List.pairwise_cons.2 ⟨fun p hp=>?_,up_ins hq.2 (fun p hp=>hn p (List.mem_cons_of_mem _ hp))⟩
   rcases mem_ins.1 hp with rfl | hp
   ·rcases lt_or (hn q (by simp)) with h1 | h1
    ·exact h1
    ·exact absurd h1 hlt
   ·exact hq.1 p hp
theorem up_put {l:NM} (h:Up l) (nm:ByteArray) (no:Nat):Up (put l nm no):=up_ins (up_del h nm) (fun _ hp=>(mem_del.1 hp).2)
theorem mem_put {l:NM} {nm:ByteArray} {no:Nat} {p:ByteArray × Nat}:p∈put l nm no↔p=(nm,no)∨(p∈l∧p.1≠nm):=by
 unfold put
 rw[mem_ins,mem_del]
theorem find_mem {l:NM} {nm:ByteArray} {no:Nat} (h:find l nm=some no):(nm,no)∈l:=by
 unfold find at h
 rw[Option.map_eq_some_iff]at h
 obtain⟨p,hp,rfl⟩:=h
 have h1:=List.mem_of_find?_eq_some hp
 have h2:p.1=nm:=by simpa using List.find?_some hp
 rw[← h2]
 exact h1
theorem find_none {l:NM} {nm:ByteArray} (h:find l nm=none):∀ p∈l,p.1≠nm:=by
 unfold find at h
 rw[Option.map_eq_none_iff,List.find?_eq_none]at h
 intro p hp
 simpa using h p hp
theorem up_app {l:NM} (h:Up l) (c:Chg):Up (c.app l):=by
 cases c with
 | put nm no=>exact up_put h nm no
 | del nm=>exact up_del h nm
 | ren a b no=>exact up_put (up_del h a) b no
def Dsk.look (s:Dsk) (nm:ByteArray) (more:List ByteArray):Dsk × Int × Option Nat :=
 match s.begin (more++[nm]) with
 | (s1,e)=>if e≠0 then (s1,e,none) else match find s1.now nm with
  | none=>(s1,90,none)
  | some no=>(s1,0,some no)
theorem Dsk.on_look (s:Dsk) (nm:ByteArray) (more:List ByteArray) (f:Dsk→Nat→Dsk × Int) :
  s.on nm more f=match s.look nm more with | (s1,_,some no)=>f s1 no | (s1,e,none)=>(s1,e):=by
 unfold Dsk.on Dsk.look
 cases s.begin (more++[nm]) with
 | mk s1 e =>
  dsimp only
  split
  ·rfl
  ·cases find s1.now nm<;>rfl
structure Dsk.Sml (s:Dsk):Prop where
 n0:0≤s.n
 n:s.n≤1099511627776
 fails:s.fails.length≤1099511627776
 now:s.now.length≤1099511627776
 pend:s.pend.length≤1099511627776
 data:s.data.length≤1099511627776
 size:∀ no,s.size no≤1099511627776
theorem Dsk.begin_or (s:Dsk) (ns:List ByteArray):(s.begin ns).1=s∨(s.begin ns).1={ s with n:=s.n+1 }:=by
 unfold Dsk.begin
 split
 ·exact .inl rfl
 ·exact .inr rfl
theorem Dsk.begin_as (s:Dsk) (ns:List ByteArray):∃ n,(s.begin ns).1={ s with n:=n }:=by
 rcases s.begin_or ns with h | h
 ·exact⟨s.n,h⟩
 ·exact⟨_,h⟩
theorem Dsk.look_or (s:Dsk) (nm:ByteArray) (more:List ByteArray):(∃ n e,s.look nm more=({ s with n:=n },e,none)∧e≠0)∨∃ n no,s.look nm more=({ s with n:=n },0,some no)∧find s.now nm=some no:=by
 obtain⟨n,hn⟩:=s.begin_as (more++[nm])
 unfold Dsk.look
 cases hb:s.begin (more++[nm]) with
 | mk s1 e =>
  rw[hb]at hn
  dsimp only at hn ⊢
  subst hn
  by_cases he:e=0
  ·rw[if_neg (by simpa using he)]
   dsimp only
   cases hf:find s.now nm with
   | none=>exact .inl ⟨n,90,rfl,by decide⟩
   | some no=>exact .inr ⟨n,no,rfl,rfl⟩
  ·rw[if_pos he]
   exact .inl ⟨n,e,rfl,he⟩
end D
open Go.RowKit
namespace P
theorem upto_le (p:UInt8→Bool) (l:List UInt8):(upto p l).length≤l.length:=by have:=upto_len p l;omega
theorem methodOf_le (l:List UInt8):(methodOf l).length≤l.length:=upto_le _ _
theorem behind_le (l:List UInt8):(behind l).length≤l.length:=by
 unfold behind
 rw[List.length_drop]
 have:=upto_len sp l
 omega
theorem hLine_le (b:List UInt8) (s:Nat):(hLine b s).length≤b.length:=by
 unfold hLine hText
 rw[List.length_take,List.length_take,List.length_drop]
 omega
end P
def RetReq (w:World) (r:P.RQ) (e:Ending) (w':World):Prop :=
 ∃ A c,e=.returned (.tuple #[.agg #[.string r.m,.string r.t,.int .i64 r.v,.slice A r.fs.length c],.int .i64 r.n,.int .i64 r.e])∧Row w' w.heap.size 60 2 A r.fs.length c (fcells r.fs)∧Below w.heap.size w w'
theorem RetReq.bad {w w':World} {r:P.RQ} {code:Int} (hb:Below w.heap.size w w') (h:r=.bad code):RetReq w r (.returned (.tuple #[.agg #[.string ⟨#[]⟩,.string ⟨#[]⟩,.int .i64 0,.slice none 0 0],.int .i64 0,.int .i64 code])) w':=by
 subst h
 exact⟨none,0,rfl,Row.empty _ _ _ _ _,hb⟩
theorem toks_sum:∀ fs:List FD,∀ name:ByteArray,(F.tokens fs name).length≤F.bulk fs:=by
 intro fs name
 induction fs with
 | nil=>simp [F.tokens,F.values,F.bulk]
 | cons f l ih =>
  have hl:=list_len f.2
  unfold F.tokens F.values at ih ⊢
  rw[List.filter_cons]
  simp only[F.bulk]
  split
  ·rw[List.map_cons,List.flatMap_cons,List.length_append,List.length_map];omega
  ·omega
theorem mem_toks {fs:List FD} {name x:ByteArray} (hx:x∈F.tokens fs name):x.size≤F.bulk fs:=by
 unfold F.tokens at hx
 obtain⟨v,hv,hx⟩:=List.mem_flatMap.1 hx
 obtain⟨el,hel,rfl⟩:=List.mem_map.1 hx
 have h1:=mem_list hel
 unfold F.values at hv
 obtain⟨f,hf,rfl⟩:=List.mem_map.1 hv
 have h2:=F.mem_bulk (List.mem_filter.1 hf).1
 rw[B_size]
 unfold T.fold
 rw[List.length_map,← L_size]
 omega
def NSmall (ns:List ByteArray):Prop:=∀ s∈ns,s.size≤1099511627776
def among (ns:List ByteArray) (f:FD):Bool:=ns.any fun n=>F.is f n
structure Names (w0:World) (X:Option Addr) (m d:Nat) (ns:List ByteArray) (g:Nat):Prop where
 hm:m≤1099511627776
 hl:ns.length=m
 hn:NSmall ns
 hx:Rd w0 X m 1 (scells ns)
 c0:w0.cell? ⟨g,0,none⟩=some (.slice X m d)
def kept (p:FD→Bool) (fs:List FD):List FD:=fs.filter fun f=>!p f
theorem kept_snoc (p:FD→Bool) (fs:List FD) (k:Nat) (h:k < fs.length):kept p (fs.take (k+1))=kept p (fs.take k)++(if p fs[k] then [] else [fs[k]]):=by
 unfold kept
 rw[F.filter_snoc _ _ _ h]
 congr 1
 by_cases hp:p fs[k]=true<;>simp [hp]
def Moved (p:FD→Bool) (fs xs:List FD) (i j:Nat):Prop:=xs.length=fs.length∧i < j∧j≤fs.length∧xs.take i=kept p (fs.take j)∧xs.drop j=fs.drop j
theorem Moved.at_ {p:FD→Bool} {fs xs:List FD} {i j:Nat} (h:Moved p fs xs i j) (hj:j < fs.length):∃ hx:j < xs.length,xs[j]=fs[j]:=by
 have hx:j < xs.length:=by rw[h.1];exact hj
 refine⟨hx,?_⟩
 have:=h.2.2.2.2
 rw[List.drop_eq_getElem_cons hx,List.drop_eq_getElem_cons hj]at this
 injection this
theorem Moved.skip {p:FD→Bool} {fs xs:List FD} {i j:Nat} (h:Moved p fs xs i j) (hj:j < fs.length) (hp:p fs[j]=true):Moved p fs xs i (j+1):=by
 obtain⟨h1,h2,h3,h4,h5⟩:=h
 refine⟨h1,by omega,by omega,?_,?_⟩
 ·rw[kept_snoc p fs j hj,if_pos hp,List.append_nil];exact h4
 ·rw[← List.drop_drop,← List.drop_drop,h5]
theorem Moved.move {p:FD→Bool} {fs xs:List FD} {i j:Nat} (h:Moved p fs xs i j) (hj:j < fs.length) (hp:p fs[j]=false):Moved p fs (xs.set i fs[j]) (i+1) (j+1):=by
 obtain⟨h1,h2,h3,h4,h5⟩:=h
 have hi:i < xs.length:=by omega
 refine⟨by simpa using h1,by omega,by omega,?_,?_⟩
 ·rw[kept_snoc p fs j hj,if_neg (by simp [hp]),← h4,List.take_succ_eq_append_getElem (by simpa using hi)]
  simp [List.take_set_of_le]
 ·rw[List.drop_set_of_lt (by omega),← List.drop_drop,← List.drop_drop,h5]
theorem Row.nil {w:World} {base:Nat} {e:TypeId} {size:Nat} {A:Option Addr} {n c:Nat} {xs:List Value} (h:Row w base e size A n c xs) (hA:A=none):n=0∧c=0:=by
 subst hA
 rcases h with ⟨_,h | ⟨g,cap,cur,hv,_⟩⟩ | ⟨h1,h2,_⟩
 ·obtain⟨hv,h0⟩:=h
  cases hv
  exact⟨rfl,rfl⟩
 ·cases hv
 ·exact⟨h1,h2⟩
theorem small_of_bulk {fs:List FD} (h:F.bulk fs≤1073741824):FSmall fs:=fun f hf=>by
 have:=F.mem_bulk hf
 omega
def RetBE (w:World) (bs:List UInt8) (code:Int) (e:Ending) (w':World):Prop :=
 ∃ A c,e=.returned (.tuple #[.slice A bs.length c,.int .i64 code])∧CRow w' w.heap.size A bs.length c bs∧Below w.heap.size w w'
theorem RetBE.none_ {w w':World} {code:Int} {bs:List UInt8} {c:Int} (hb:Below w.heap.size w w') (h1:bs=[]) (h2:c=code):RetBE w bs c (.returned (.tuple #[.slice none 0 0,.int .i64 code])) w':=by
 subst h1
 subst h2
 exact⟨none,0,rfl,CRow.none_ _ _,hb⟩
theorem buffer_below {B b:Nat} {bs:List Value} {w w':World} (h:Lib.IsBuffer 254 5 B b bs w) (hb:Below w.heap.size w w'):Lib.IsBuffer 254 5 B b bs w':=by
 have hlt:=h.lt
 obtain⟨hB,v,lr,hk,ho,hne⟩:=h
 refine⟨hB,v,lr,(hb.block b hlt).trans hk,ho.kept (row:=none) ⟨hb.os,hb.tape,hb.output,hb.size,fun k hk _=>hb.block k hk⟩ ?_,hne⟩
 cases v.ownBlock<;>simp
theorem row_of_own {w:World} {B n:Nat} {v:Value} {bs:List Value} (h:w.ownsRow B 5 1 v n bs):∃ A c,v=.slice A n c∧Row w B 5 1 A n c bs:=by
 obtain⟨h1,h2⟩:=h
 rcases h2 with ⟨hv,h0⟩ | ⟨g,cap,cur,hv,r⟩
 ·subst h0
  exact⟨none,0,hv,.inl ⟨h1,.inl ⟨hv ▸ hv,rfl⟩⟩⟩
 ·subst hv
  exact⟨_,_,rfl,.inl ⟨h1,.inr ⟨g,cap,cur,rfl,r⟩⟩⟩
def Well (fs:List FD) (k:Nat):Prop:=(fs.take k).all F.okF=true
theorem Well.step {fs:List FD} {k:Nat} (h:Well fs k) (hk:k < fs.length) (h1:T.token (L (fs[k]).1)=true) (h2:F.good (fs[k]).2=true):Well fs (k+1):=by
 unfold Well at *
 rw[F.all_take_succ _ _ _ hk,h]
 unfold F.okF
 rw[h1,h2]
 rfl
theorem ok_no1 {fs:List FD} {k:Nat} (hk:k < fs.length) (h1:T.token (L (fs[k]).1)=false):fs.all F.okF=false:=F.all_false_at _ _ k hk (by unfold F.okF;rw[h1];rfl)
theorem ok_no2 {fs:List FD} {k:Nat} (hk:k < fs.length) (h1:F.good (fs[k]).2=false):fs.all F.okF=false:=F.all_false_at _ _ k hk (by unfold F.okF;rw[h1,Bool.and_false])
theorem bad_print {fs:List FD} (h:fs.all F.okF=false):F.printB fs=[]∧F.printE fs=40:=⟨F.printB_bad (by rw[F.printE_bad h];decide),F.printE_bad h⟩
theorem many_print {fs:List FD} (h:fs.all F.okF=true) (h2:100 < fs.length):F.printB fs=[]∧F.printE fs=42:=⟨F.printB_bad (by rw[F.printE_many h h2];decide),F.printE_many h h2⟩
theorem good_print {fs:List FD} (h:fs.all F.okF=true) (h2:¬ 100 < fs.length):F.printB fs=F.lines fs∧F.printE fs=0:=⟨F.printB_ok (F.printE_ok h h2),F.printE_ok h h2⟩
theorem line_eq (f:FD):L (f.1++⟨#[58,32]⟩++f.2++⟨#[13,10]⟩)=F.line f:=by
 simp only[L_append]
 rfl
theorem line_size (f:FD):(f.1++⟨#[58,32]⟩++f.2++⟨#[13,10]⟩).size=f.1.size+f.2.size+4:=by
 rw[L_size,line_eq,F.line_len]
theorem print_any (A:Option Addr) (c:Nat) (fs:List FD) (w:World) (hf:F.bulk fs≤1073741824) (hx:Rd w A fs.length 2 (fcells fs)) :
  Calls Tryz.prog 183 #[.slice A fs.length c] w (RetBE w (F.printB fs) (F.printE fs)):=by
 have hn:fs.length≤1073741824:=by have:=F.len_le_bulk fs;omega
 have HSM:=Lib.hid (small_of_bulk hf)
 have hln:=F.lines_len fs
 have hlt2:(F.lines fs).length≤4294967296:=by omega
 clear hln
 generalize hB:F.printB fs=PB at *
 generalize hE:F.printE fs=PE at *
 have HBAD:=Lib.hid (fun (h:fs.all F.okF=false)=>bad_print h)
 have HMANY:=Lib.hid (fun (h:fs.all F.okF=true) (h2:100 < fs.length)=>many_print h h2)
 have HGOOD:=Lib.hid (fun (h:fs.all F.okF=true) (h2:¬ 100 < fs.length)=>good_print h h2)
 rw[hB,hE]at HBAD HMANY HGOOD
 clear hB hE
 have HMB:=Lib.hid (fun f (h:f∈fs)=>F.mem_bulk h)
 go_enter Tryz.func183,Tryz.ntmps183
 go_wp2
 have HBUF0:=Lib.hid (Lib.fresh_isBuffer 254 5 w)
 have HB0:=Lib.hid ((Below.refl w.heap.size w).alloc (Nat.le_refl _) (.cells #[.slice none 0 0,.int .i64 0,.int .i8 0] 254))
 generalize w.alloc (.cells #[.slice none 0 0,.int .i64 0,.int .i8 0] 254)=w0 at *
 go_loopw [9] (fun i wr=>∃ k:Nat,k≤fs.length∧i=.int .i64 k∧Well fs k∧Lib.IsBuffer 254 5 w.heap.size w.heap.size (Lib.byteCells (F.lines (fs.take k))) wr∧Below w.heap.size w wr) (fun i _=>fs.length - (intOf i).toNat)
 case atStart=>exact⟨0,Nat.zero_le _,rfl,rfl,HBUF0.out,HB0.out⟩
 case round =>
  clear HBUF0 HB0
  obtain⟨k,hk,rfl,hw,hbuf,hbel⟩:=hrel
  have HW:=Lib.hid hw
  have HBUF:=Lib.hid hbuf
  have HBEL:=Lib.hid hbel
  clear hw hbuf hbel
  by_cases hlt:k < fs.length
  ·obtain⟨b,o,rfl,hb,d1,d2⟩:=(hx.below HBEL.out).field hlt rfl
   have hsn:=F.lines_snoc fs k hlt
   have hst:=fun h1 h2=>HW.out.step hlt h1 h2
   have hn1:=fun h=>ok_no1 hlt h
   have hn2:=fun h=>ok_no2 hlt h
   have hfm:=HMB.out _ (List.getElem_mem hlt)
   have hfs:=HSM.out _ (List.getElem_mem hlt)
   have htk:=F.lines_take fs k
   generalize hfk:fs[k]=f at *
   have HSN:=Lib.hid hsn
   have HST:=Lib.hid hst
   have HN1:=Lib.hid hn1
   have HN2:=Lib.hid hn2
   have ha1:=hfs.1
   have ha2:=hfs.2
   have HTOK:=Lib.hid (fun u=>token_any f.1 u ha1)
   have HGD:=Lib.hid (fun u=>good_any f.2 u ha2)
   have hz:=HBEL.out.size
   have hls:(F.lines (fs.take k)).length≤4294967296:=by omega
   have hls2:f.1.size+f.2.size+1≤1073741824:=by omega
   clear hsn hst hn1 hn2 hfs hfk hfm htk
   rcases tf (T.token (L f.1)) with h1 | h1
   ·rw[h1]at HTOK
    rcases tf (F.good f.2) with h2 | h2
    ·rw[h2]at HGD
     have HST2:=Lib.hid (HST.out h1 h2)
     clear h1 h2 HST HN1 HN2
     go_wp2_with fail
     refine (HTOK.out _).mono ?_
     rintro e w' ⟨rfl,rfl⟩
     go_wp2_with fail
     refine (HGD.out _).mono ?_
     rintro e w2 ⟨rfl,hb2⟩
     have hk2:=(Blk.new wr #[.string f.1,.string f.2] 60).below hb2
     obtain⟨x0,x1⟩:=hk2.cells2
     have HBUF2:=Lib.hid (buffer_below (buffer_below HBUF.out ((Below.refl _ _).alloc (Nat.le_refl _) (.cells #[.string f.1,.string f.2] 60))) hb2)
     have HBEL2:=Lib.hid (below_new HBEL.out hz hb2)
     have hz2:=HBEL2.out.size
     clear hk2 hb2 HBUF HBEL HTOK HGD d1 d2
     have hs1:f.1.size+2≤9223372036854775807:=by omega
     have hs2:f.1.size+2+f.2.size≤9223372036854775807:=by omega
     have hs3:f.1.size+2+f.2.size+2≤9223372036854775807:=by omega
     go_wp2_with fail
     refine (Tryz.Buffer_WriteString_k w.heap.size w.heap.size _ _ w2 HBUF2.out hz2 (Lib.byteCells_one _) (by rw[Lib.byteCells_length,line_size];omega)).mono ?_
     rintro e w3 ⟨rfl,hbuf3,hb3,_⟩
     have HBUF3:Hid (Lib.IsBuffer 254 5 w.heap.size w.heap.size (Lib.byteCells (F.lines (fs.take (k+1)))) w3):=by
      have:=hbuf3
      rw[show (f.1++⟨#[58,32]⟩++f.2++⟨#[13,10]⟩:ByteArray).data.toList=F.line f from line_eq f,← Lib.byteCells_append,← HSN.out]at this
      exact Lib.hid this
     have HBEL3:=Lib.hid (HBEL2.out.trans hb3)
     clear hbuf3 hb3 HBUF2 HBEL2 x0 x1
     go_wp2
     go_roundw
     case rel=>exact⟨k+1,by omega,by go_num,HST2.out,HBUF3.out,HBEL3.out⟩
     case measure=>simp [intOf];omega
    ·rw[h2]at HGD
     have HBD:=Lib.hid (HBAD.out (HN2.out h2))
     clear h1 h2 HST HN1 HN2
     go_wp2_with fail
     refine (HTOK.out _).mono ?_
     rintro e w' ⟨rfl,rfl⟩
     go_wp2_with fail
     refine (HGD.out _).mono ?_
     rintro e w2 ⟨rfl,hb2⟩
     have HBEL2:=Lib.hid (below_new HBEL.out hz hb2)
     clear hb2 HBUF HBEL HTOK HGD d1 d2
     go_wp2
     refine bodyPost_ret (v:=.tuple #[.slice none 0 0,.int .i64 40]) (by simp [results,Tryz.results183,go_sem]) rfl ?_
     exact RetBE.none_ HBEL2.out HBD.out.1 HBD.out.2
   ·rw[h1]at HTOK
    have HBD:=Lib.hid (HBAD.out (HN1.out h1))
    have HBEL2:=Lib.hid (HBEL.out.alloc hz (.cells #[.string f.1,.string f.2] 60))
    clear h1 HST HN1 HN2
    go_wp2_with fail
    refine (HTOK.out _).mono ?_
    rintro e w' ⟨rfl,rfl⟩
    clear HBUF HBEL HTOK HGD d1 d2
    go_wp2
    refine bodyPost_ret (v:=.tuple #[.slice none 0 0,.int .i64 40]) (by simp [results,Tryz.results183,go_sem]) rfl ?_
    exact RetBE.none_ HBEL2.out HBD.out.1 HBD.out.2
  ·have hkn:k=fs.length:=by omega
   subst hkn
   have hall:fs.all F.okF=true:=by have:=HW.out;unfold Well at this;rwa [List.take_length]at this
   have hbuf:=HBUF.out
   rw[List.take_length]at hbuf
   have HBF:=Lib.hid hbuf
   clear hbuf HBUF HW hlt hk
   by_cases hm:100 < fs.length
   ·have HBD:=Lib.hid (HMANY.out hall hm)
    clear hall
    go_wp2
    refine bodyPost_ret (v:=.tuple #[.slice none 0 0,.int .i64 42]) (by simp [results,Tryz.results183,go_sem]) rfl ?_
    exact RetBE.none_ HBEL.out HBD.out.1 HBD.out.2
   ·have HBD:=Lib.hid (HGOOD.out hall hm)
    clear hall
    go_wp2_with fail
    refine (Tryz.Buffer_Bytes w.heap.size w.heap.size _ wr HBF.out).mono ?_
    rintro e w3 ⟨v,rfl,hown,q,rfl⟩
    obtain⟨R,d,rfl,hrow⟩:=row_of_own hown
    have HR:=Lib.hid hrow
    clear hown hrow
    go_wp2
    refine bodyPost_ret (v:=.tuple #[.slice R (Lib.byteCells (F.lines fs)).length d,.int .i64 0]) (by simp [results,Tryz.results183,go_sem]) rfl ?_
    rw[HBD.out.1,HBD.out.2]
    have hl:(Lib.byteCells (F.lines fs)).length=(F.lines fs).length:=Lib.byteCells_length _
    have hr:=HR.out
    rw[hl]at hr ⊢
    exact⟨R,d,rfl,Row.crow hr,below_drewN HBEL.out q⟩
end Go.Proofs.YthjeglnkgdpijaaGreatDoor
