/- The walk of the decoder's readTail. The walks of the decoder's step and of chunk.Decode. The one body that the laws of chunk decode first; what a body's reading answers is within bounds. How a message's body ends, as plain functions on its fields. The walks of frame.length, frame.rule, frame.OfRequest, and of the document's number, rule and OfRequest. An argument that is a list of fields, a string or a struct of these, opened to what a walk reads; its bulk; and read again behind the call. A parameter that is a response, opened. A parameter that is a request, a target, a list of bytes, opened. A parameter that is an entry, opened. The walks of head.whole, head.PrintRequest and of the document's. Conditions: as each theorem states them. -/
import Derived.Test.YthjeglnkgdpijaaGreatDoorZ03
import Derived.Lib.SmallJoins
set_option maxHeartbeats 1000000
set_option maxRecDepth 100000
namespace Go.Proofs.YthjeglnkgdpijaaGreatDoor
open Go.RowKit
def aQT (w u:World) (fs:List FD) (tv:Value):Prop:=∃ TA tc,tv=.slice TA fs.length tc∧Row u (w.heap.size+1) 60 2 TA fs.length tc (aI fs)
theorem aQT.nil (w u:World):aQT w u [] (.slice none 0 0):=⟨none,0,rfl,Row.none_ _ _ _ _⟩
namespace C
def fin (data:List UInt8) (a:Nat) (l:List UInt8):CD:=if tailE l≠0∨aFH l=0 then .bad (tailE l) else ⟨data,aFI l,a+aFH l,0⟩
def dat (data:List UInt8) (z a:Nat) (l:List UInt8):CD:=if l.length < z+2 then .bad 0 else if P.aE1.isPrefixOf (l.drop z)=false then .bad 70 else dec (data++l.take z) (a+z+2) (l.drop (z+2))
end C
def aQ0 (w:World) (r:C.CD) (e:Ending) (w':World):Prop :=
 ∃ A c TA tc,e=.returned (.tuple #[.slice A r.d.length c,.slice TA r.f.length tc,.int .i64 r.n,.int .i64 r.e])∧Row w' w.heap.size 5 1 A r.d.length c (aB r.d)∧Row w' w.heap.size 60 2 TA r.f.length tc (aI r.f)∧Below w.heap.size w w'
theorem aQ0.bad {w w':World} {r:C.CD} {code:Int} (hb:Below w.heap.size w w') (h:r=.bad code):aQ0 w r (.returned (.tuple #[.slice none 0 0,.slice none 0 0,.int .i64 0,.int .i64 code])) w':=by
 subst h
 exact⟨none,0,none,0,rfl,Row.none_ _ _ _ _,Row.none_ _ _ _ _,hb⟩
end Go.Proofs.YthjeglnkgdpijaaGreatDoor
namespace Go.Proofs.YthjeglnkgdpijaaGreatDoor
namespace F
def teN:ByteArray:=⟨#[84,114,97,110,115,102,101,114,45,69,110,99,111,100,105,110,103]⟩
def clN:ByteArray:=⟨#[67,111,110,116,101,110,116,45,76,101,110,103,116,104]⟩
def chW:ByteArray:=⟨#[99,104,117,110,107,101,100]⟩
def num (s:ByteArray):Int:=if s.size≤18 then (match Lib.decNat (L s) with | some v=>(v:Int) | none=>-1) else -1
theorem dig_val (c:UInt8):P.dig c=true↔∃ d,Lib.digitVal c=some d:=by
 unfold P.dig Lib.digitVal
 rw[Bool.and_eq_true,decide_eq_true_eq,decide_eq_true_eq]
 constructor
 ·intro h;exact⟨_,if_pos h⟩
 ·rintro⟨d,h⟩
  split at h
  ·rename_i h1;exact h1
  ·cases h
def els (vs:List ByteArray):List ByteArray:=vs.flatMap list
def lensB (l:List ByteArray):Bool:=l.any fun y=>decide (num y < 0∨num y≠num (l.headD ⟨#[]⟩))
def lens (l:List ByteArray):Int × Int:=if l=[]∨lensB l=true then (0,60) else if 65536 < num (l.headD ⟨#[]⟩) then (0,71) else (num (l.headD ⟨#[]⟩),0)
def Seen (D:List ByteArray) (z:Int):Prop:=(D=[]∧z=-1)∨(D≠[]∧0≤z∧∀ x∈D,num x=z)
theorem Seen.head {D r:List ByteArray} {z:Int} (h:Seen D z) (h0:0≤z):num ((D++r).headD ⟨#[]⟩)=z:=by
 rcases h with ⟨rfl,h⟩ | ⟨h1,_,h2⟩
 ·omega
 ·cases D with
  | nil=>exact absurd rfl h1
  | cons x t=>exact h2 x (by simp)
theorem Seen.next {D:List ByteArray} {x:ByteArray} {z:Int} (hs:Seen D z) (h:0≤num x) (he:0≤z→z=num x):Seen (D++[x]) (num x):=by
 refine .inr ⟨by simp,h,fun y hy=>?_⟩
 rcases List.mem_append.1 hy with hy | hy
 ·rcases hs with ⟨rfl,_⟩ | ⟨_,h0,h2⟩
  ·cases hy
  ·rw[h2 y hy,he h0]
 ·simp only[List.mem_cons,List.mem_nil_iff,or_false]at hy
  rw[hy]
theorem Seen.le {D:List ByteArray} {z:Int} (h:Seen D z):-1≤z:=by
 rcases h with ⟨_,h⟩ | ⟨_,h,_⟩<;>omega
structure FR where
 k:Int
 n:Int
 e:Int
def frame (m:Int) (fs:List FD) (other:Int):FR :=
 if values fs teN≠[]∧values fs clN≠[] then ⟨0,0,61⟩
 else if values fs teN≠[] then (if m=0∨tokens fs teN≠[chW] then ⟨0,0,62⟩ else ⟨2,0,0⟩)
 else if values fs clN=[] then ⟨other,0,0⟩
 else if (lens (els (values fs clN))).2≠0 then ⟨0,0,(lens (els (values fs clN))).2⟩
 else ⟨1,(lens (els (values fs clN))).1,0⟩
end F
open Go.ChangeShapes Go.WideShapes Go.ChangeAt Go.RowKit Go.Deep
theorem aLU:laidOutB Tryz.prog=true:=by kernel_rfl
theorem fsz:(Tryz.prog.fieldsOf 60).size=2:=by kernel_rfl
theorem fs0:((Tryz.prog.fieldsOf 60)[0]?).map (fun f=>(f.type,f.offset))=some (9,0):=by kernel_rfl
theorem fs1:((Tryz.prog.fieldsOf 60)[1]?).map (fun f=>(f.type,f.offset))=some (9,1):=by kernel_rfl
theorem aNG:Tryz.prog.cellsOf 60=2:=by kernel_rfl
theorem cellsS:Tryz.prog.cellsOf 9=1:=by kernel_rfl
theorem aJZ {α:Type} {a:Array α} (h:a.size=2):∃ x y,a=#[x,y]:=by
 obtain⟨l⟩:=a
 match l,h with
 | [x,y],_=>exact⟨x,y,rfl⟩
theorem aJD:∃ f0 f1:Field,Tryz.prog.underlying 60=some (.struct #[f0,f1])∧f0.type=9∧f0.offset=0∧f1.type=9∧f1.offset=1:=by
 obtain⟨f0,f1,h⟩:=aJZ fsz
 have h0:=fs0
 have h1:=fs1
 rw[h]at h0 h1
 simp at h0 h1
 exact⟨f0,f1,by rw[← h];exact aBO,h0.1,h0.2,h1.1,h1.2⟩
section
variable {H:Type} {enc:TypeId × Value→H} {W:World} {base:Nat} {spare:Nat→Bool} {held:Bool}
theorem aFZ {fuel:Nat} {cs:List Value} {x:DataW H × List MemPlace} (h:DataW.trod enc Tryz.prog W base spare held fuel 60 cs=some x) :
  ∃ f:FD,cs=[.string f.1,.string f.2]∧x.1=.agg [.lit (.string f.1.data.toList),.lit (.string f.2.data.toList)]:=by
 obtain⟨f0,f1,hs,t0,o0,t1,o1⟩:=aJD
 obtain⟨y0,y1,n,rfl,hl,h0,h1⟩:=trod_struct2 hs h
 rw[t0,o0,cellsS]at h0
 rw[t1,o1,cellsS]at h1
 rw[aNG]at hl
 obtain⟨s0,e0,rfl,_⟩:=DataW.trod_string Tryz.underlying9 h0
 obtain⟨s1,e1,rfl,_⟩:=DataW.trod_string Tryz.underlying9 h1
 refine⟨(s0,s1),?_,rfl⟩
 match cs,hl with
 | [a,b],_ =>
  simp at e0 e1
  rw[e0,e1]
theorem aG1 (f:FD):f.1.size+f.2.size+1≤Rows.uptoBulk (DataW.agg (H:=H) [.lit (.string f.1.data.toList),.lit (.string f.2.data.toList)]):=by
 simp only[Rows.uptoBulk,Rows.uptoBulkAll,Array.length_toList]
 have:f.1.size=f.1.data.size:=rfl
 have:f.2.size=f.2.data.size:=rfl
 omega
theorem aB2 {D:Nat→DataW H} {g:Nat→FD}:∀ l:List Nat,(∀ i∈l,(g i).1.size+(g i).2.size+1≤Rows.uptoBulk (D i))→F.bulk (l.map g)≤Rows.uptoBulkAll (l.map D)
 | [],_=>by simp [F.bulk]
 | i::l,h=>by
  have h1:=h i (by simp)
  have h2:=aB2 l (fun j hj=>h j (by simp [hj]))
  simp only[List.map_cons,F.bulk,Rows.uptoBulkAll]
  omega
theorem Rd.of_at {A:Addr} {n:Nat} {fs:List FD} (hl:fs.length=n) (h:∀ i (hi:i < fs.length),W.cell? (A.add (i * 2))=some (.string (fs[i]).1)∧W.cell? (A.add (i * 2+1))=some (.string (fs[i]).2)):Rd W (some A) n 2 (aI fs):=by
 refine⟨by rw[jE,hl],fun hn=>?_⟩
 have h0:=(h 0 (by omega)).1
 have hspot:(A.add (0 * 2)).spot=none:=World.cell?_spot h0
 obtain⟨b,o,sp⟩:=A
 have:sp=none:=by cases sp<;>simp_all [Addr.add]
 subst this
 refine⟨b,o,rfl,World.block_lt_of_cell? W _ h0,fun j u hu=>?_⟩
 have hj:j < fs.length * 2:=by rw[← jE];exact (List.getElem?_eq_some_iff.1 hu).1
 have ea:∀ k,(⟨b,o,none⟩:Addr).add k=⟨b,o+k,none⟩:=fun k=>by unfold Addr.add;split<;>simp_all
 obtain⟨i,hi⟩:∃ i,j=i * 2∨j=i * 2+1:=⟨j / 2,by omega⟩
 rcases hi with rfl | rfl
 ·have hil:i < fs.length:=by omega
  have:=(h i hil).1
  rw[ea]at this
  rw[this]
  exact (mQ fs i hil).1.symm.trans hu
 ·have hil:i < fs.length:=by omega
  have:=(h i hil).2
  rw[ea]at this
  rw[this]
  exact (mQ fs i hil).2.symm.trans hu
theorem pI {A:Option Addr} {n c:Nat} {fuel:Nat} {x:DataW H × List MemPlace} (h:DataW.trod enc Tryz.prog W base (fun _=>true) held fuel 27 [.slice A n c]=some x) :
  ∃ fs:List FD,fs.length=n∧Rd W A n 2 (aI fs)∧F.bulk fs≤Rows.uptoBulk x.1∧(A=none→n=0∧c=0):=by
 rcases open_slice Tryz.underlying27 h with ⟨h0,rfl⟩ | ⟨a,len,cap,m,k,D,Pl,hcs,_,hl,hm,hmm,rfl,hi⟩
 ·simp only[List.cons.injEq,Value.slice.injEq,and_true]at h0
  obtain⟨rfl,rfl,rfl⟩:=h0
  exact⟨[],rfl,Rd.nil _ _ _,by simp [F.bulk],fun _=>⟨rfl,rfl⟩⟩
 ·simp only[List.cons.injEq,Value.slice.injEq,and_true]at hcs
  obtain⟨rfl,rfl,rfl⟩:=hcs
  simp only[if_true]at hmm
  subst hmm
  have each:∀ i,∃ f:FD,i < n→W.cell? (a.add (i * 2))=some (.string f.1)∧W.cell? (a.add (i * 2+1))=some (.string f.2)∧D i=.agg [.lit (.string f.1.data.toList),.lit (.string f.2.data.toList)]:=by
   intro i
   by_cases hin:i < n
   ·obtain⟨cs',hc,ht⟩:=hi i (by omega)
    rw[aNG]at hc
    obtain⟨f,rfl,hx⟩:=aFZ ht
    obtain⟨_,_,hat⟩:=World.cells?_some hc
    have h0:=hat 0 (by omega)
    have h1:=hat 1 (by omega)
    rw[Go.Deep.add_add]at h0 h1
    exact⟨f,fun _=>⟨h0,h1,hx⟩⟩
   ·exact⟨(⟨#[]⟩,⟨#[]⟩),fun h=>absurd h hin⟩
  obtain⟨g,hg⟩:∃ g:Nat→FD,∀ i,i < n→W.cell? (a.add (i * 2))=some (.string (g i).1)∧W.cell? (a.add (i * 2+1))=some (.string (g i).2)∧D i=.agg [.lit (.string (g i).1.data.toList),.lit (.string (g i).2.data.toList)] :=
   ⟨fun i=>(each i).choose,fun i=>(each i).choose_spec⟩
  refine⟨(List.range n).map g,by simp,Rd.of_at (by simp) (fun i hi=>?_),?_,fun h=>by cases h⟩
  ·rw[List.length_map,List.length_range]at hi
   have:=hg i hi
   simp only[List.getElem_map,List.getElem_range]
   exact⟨this.1,this.2.1⟩
  ·have:=aB2 (D:=D) (g:=g) (List.range n) (fun i hi=>by
    have:=hg i (List.mem_range.1 hi)
    rw[this.2.2]
    exact aG1 _)
   simp only[Rows.uptoBulk]
   omega
end
theorem again {H:Type} {enc:TypeId × Value→H} {t:TypeId} (hr:Tryz.prog.readableRec t=true) (hrow:t < Tryz.prog.types.size) {W W':World} {v:Value} {d:DataW H} {ps:List MemPlace}
  (h:DataW.Trod enc Tryz.prog W 0 (fun _=>true) true t v d ps) (hb:Below W.heap.size W W') (hlt:∀ x∈ps,x.block < W.heap.size) (sp:Nat→Bool) (hsp:∀ x∈ps,sp x.block=true) :
  DataW.Trod enc Tryz.prog W' 0 sp true t v d ps :=
 WideElems.Trod_stays aLU hr hrow h (fun x hx=>hb.same (hlt x hx)) hsp
theorem aN8:(Tryz.prog.fieldsOf 38).size=4:=by kernel_rfl
theorem aN9:Tryz.prog.underlying 38=some (.struct (Tryz.prog.fieldsOf 38)):=by kernel_rfl
theorem aFQ:Tryz.prog.cellsOf 38=4:=by kernel_rfl
section
variable {H:Type} {enc:TypeId × Value→H} {W:World} {base:Nat} {held:Bool}
theorem rQ {fuel:Nat} {v:Value} {x:DataW H × List MemPlace} (h:DataW.trod enc Tryz.prog W base (fun _=>true) held fuel 27 [v]=some x):∃ A n c,v=.slice A n c:=by
 rcases open_slice Tryz.underlying27 h with ⟨h0,_⟩ | ⟨a,len,cap,m,k,D,Pl,hcs,_⟩
 ·exact⟨_,_,_,by simpa using h0⟩
 ·exact⟨_,_,_,by simpa using hcs⟩
end
theorem cellsB:Tryz.prog.cellsOf 5=1:=by kernel_rfl
section
variable {H:Type} {enc:TypeId × Value→H} {W:World} {base:Nat} {held:Bool}
theorem Rd.of_bytes {A:Addr} {n:Nat} {bs:List UInt8} (hl:bs.length=n) (h:∀ i (hi:i < bs.length),W.cell? (A.add i)=some (.int .u8 (bs[i]).toNat)):Rd W (some A) n 1 (aB bs):=by
 refine⟨by simp [aB,hl],fun hn=>?_⟩
 have h0:=h 0 (by omega)
 have hspot:(A.add 0).spot=none:=World.cell?_spot h0
 obtain⟨b,o,sp⟩:=A
 have:sp=none:=by cases sp<;>simp_all [Addr.add]
 subst this
 refine⟨b,o,rfl,World.block_lt_of_cell? W _ h0,fun j u hu=>?_⟩
 have hj:j < bs.length:=by
  have:=(List.getElem?_eq_some_iff.1 hu).1
  simpa [aB] using this
 have ea:∀ k,(⟨b,o,none⟩:Addr).add k=⟨b,o+k,none⟩:=fun k=>by unfold Addr.add;split<;>simp_all
 have:=h j hj
 rw[ea]at this
 rw[this]
 simp [aB,hj]at hu
 rw[hu]
theorem aNX {x:Int} (h:(Lit.int .u8 x).wf=true):((UInt8.ofNat x.toNat).toNat:Int)=x:=by
 have h1:IntKind.u8.min=0:=rfl
 have h2:IntKind.u8.max=255:=rfl
 simp only[Lit.wf,Bool.and_eq_true,decide_eq_true_eq]at h
 simp only[UInt8.toNat_ofNat']
 omega
theorem aB1 (k:IntKind):∀ zs:List Int,Rows.uptoBulkAll (lits (H:=H) k zs)=zs.length
 | []=>rfl
 | z::zs=>by
  have:=aB1 k zs
  unfold lits at this ⊢
  simp only[List.map_cons,Rows.uptoBulkAll,Rows.uptoBulk,List.length_cons]
  omega
theorem aDO {A:Option Addr} {n c:Nat} {fuel:Nat} {x:DataW H × List MemPlace} (h:DataW.trod enc Tryz.prog W base (fun _=>true) held fuel 39 [.slice A n c]=some x) :
  ∃ bs:List UInt8,bs.length=n∧Rd W A n 1 (aB bs)∧n≤c∧bs.length≤Rows.uptoBulk x.1∧(A=none→n=0∧c=0)∧(∀ a,A=some a→a.spot=none∨c=0):=by
 rcases open_ints Tryz.underlying39 Tryz.underlying5 cellsB h with ⟨h0,rfl⟩ | ⟨a,len,cap,zs,hcs,_,hl,hm,hz,rfl,hcell,hwf⟩
 ·simp only[List.cons.injEq,Value.slice.injEq,and_true]at h0
  obtain⟨rfl,rfl,rfl⟩:=h0
  exact⟨[],rfl,Rd.nil _ _ _,zA _,by simp,fun _=>⟨rfl,rfl⟩,fun a h=>by cases h⟩
 ·simp only[List.cons.injEq,Value.slice.injEq,and_true]at hcs
  obtain⟨rfl,rfl,rfl⟩:=hcs
  simp only[if_true]at hz
  refine⟨(zs.take n).map fun z=>UInt8.ofNat z.toNat,by simp;omega,Rd.of_bytes (by simp;omega) (fun i hi=>?_),hl,?_,(fun h=>by cases h),fun a' h=>?_⟩
  ·have hi':i < n:=by simp at hi;omega
   rw[hcell i (by omega)]
   have e:zs.getD i 0=zs[i]'(by omega):=by simp [List.getD,List.getElem?_eq_getElem (show i < zs.length by omega)]
   rw[e]
   simp only[List.getElem_map,List.getElem_take]
   rw[aNX (hwf _ (List.getElem_mem _))]
  ·simp only[Rows.uptoBulk,aB1,List.length_map]
   omega
  ·cases h
   rcases Nat.eq_zero_or_pos c with h0 | h0
   ·exact .inr h0
   ·have h1:=World.cell?_spot (hcell 0 (by omega))
    obtain⟨b,o,sp⟩:=a
    left
    cases sp<;>simp_all [Addr.add]
end
theorem aL7:Tryz.prog.underlying 41=some (.struct (Tryz.prog.fieldsOf 41)):=by kernel_rfl
theorem tZ:Tryz.prog.cellsOf 41=9:=by kernel_rfl
theorem jF:(Tryz.prog.fieldsOf 41).map (fun f=>(f.type,f.offset))=#[(9,0),(9,1),(38,2),(39,6),(3,7),(3,8)]:=by kernel_rfl
theorem qM:(Tryz.prog.fieldsOf 38).map (fun f=>(f.type,f.offset))=#[(3,0),(9,1),(3,2),(27,3)]:=by kernel_rfl
theorem cells_one:Tryz.prog.cellsOf 9=1∧Tryz.prog.cellsOf 3=1∧Tryz.prog.cellsOf 39=1∧Tryz.prog.cellsOf 27=1:=⟨by kernel_rfl,by kernel_rfl,by kernel_rfl,by kernel_rfl⟩
theorem dF {fs:Array Field} {ts:Array (TypeId × Nat)} (h:fs.map (fun f=>(f.type,f.offset))=ts) (i:Nat) (t:TypeId) (o:Nat) (hi:ts[i]?=some (t,o)):∃ f,fs[i]?=some f∧f.type=t∧f.offset=o:=by
 rw[← h,Array.getElem?_map]at hi
 obtain⟨f,hf,he⟩:=Option.map_eq_some_iff.1 hi
 cases he
 exact⟨f,hf,rfl,rfl⟩
section
variable {H:Type} {enc:TypeId × Value→H} {W:World} {base:Nat} {held:Bool}
theorem aAO {fuel:Nat} {v:Value} {x:DataW H × List MemPlace} (h:DataW.trod enc Tryz.prog W base (fun _=>true) held fuel 39 [v]=some x):∃ A n c,v=.slice A n c:=by
 rcases open_ints Tryz.underlying39 Tryz.underlying5 cellsB h with ⟨h0,_⟩ | ⟨a,len,cap,zs,hcs,_⟩
 ·exact⟨_,_,_,by simpa using h0⟩
 ·exact⟨_,_,_,by simpa using hcs⟩
end
end Go.Proofs.YthjeglnkgdpijaaGreatDoor
namespace Go.Proofs.YthjeglnkgdpijaaGreatDoor
open Go.RowKit
theorem aHH {l:List UInt8} {fs:List FD} {c:Int} (h:F.dD fs=c) (hc:c≠0):F.iC l fs=[]∧F.dK l fs=c:=by
 have h1:F.dK l fs=c:=by unfold F.dK;rw[if_neg (by rw[h];exact hc),h]
 exact⟨if_neg (by rw[h1];exact hc),h1⟩
theorem aHG {l:List UInt8} {fs:List FD} (h:F.dD fs=0) (hc:8192 < l.length+(F.lines fs).length+4):F.iC l fs=[]∧F.dK l fs=51:=by
 have h1:F.dK l fs=51:=by unfold F.dK;rw[if_pos h,if_pos hc]
 exact⟨if_neg (by rw[h1];decide),h1⟩
theorem whole_ok {l:List UInt8} {fs:List FD} (h:F.dD fs=0) (hc:¬ 8192 < l.length+(F.lines fs).length+4):F.iC l fs=l++[13,10]++F.lines fs++[13,10]∧F.dK l fs=0:=by
 have h1:F.dK l fs=0:=by unfold F.dK;rw[if_pos h,if_neg hc]
 exact⟨if_pos h1,h1⟩
theorem aHI (l:ByteArray) (A:Option Addr) (c:Nat) (fs:List FD) (w:World) (hl:l.size≤8589934592) (hf:F.bulk fs≤1073741824) (hx:Rd w A fs.length 2 (aI fs)) :
  Calls Tryz.prog 155 #[.string l,.slice A fs.length c] w (fA w (F.iC (L l) fs) (F.dK (L l) fs)):=by
 have HP:=aH (print_any A c fs w hf hx)
 have hll:=F.tJ fs
 have hn1:(F.lines fs).length≤4294967296:=by omega
 have hlz:=aQ l
 rcases F.aA1 fs with hp | hp | hp
 ·have HBIG:=aH (fun h=>aHG (l:=L l) hp h)
  have HOK:=aH (fun h=>whole_ok (l:=L l) hp h)
  rw[F.aA2 hp,hp]at HP
  have HLZ:=aH hlz
  generalize F.iC (L l) fs=WB at *
  generalize F.dK (L l) fs=WE at *
  obtain⟨T,hT⟩:∃ T,T=B (F.lines fs):=⟨_,rfl⟩
  have hTl:F.lines fs=L T:=by rw[hT];rfl
  obtain⟨N,hN⟩:∃ N,N=T.size:=⟨_,rfl⟩
  have hNl:(L T).length=N:=by rw[hN,aQ]
  rw[hTl]at HBIG HOK HP hn1
  rw[hNl]at HBIG HOK hn1
  have HNL:=aH hNl
  have HN:=aH hN
  clear hp hx hll hlz hT hTl hN hNl
  by_cases hbig:8192 < l.size+N+4
  ·have HB:=aH (HBIG.out (by have:=HLZ.out;omega))
   go_enter Tryz.func155,Tryz.ntmps155
   go_wp2_with fail
   refine HP.out.mono ?_
   rintro e w1 ⟨R,d,rfl,hr,hb1⟩
   rw[HNL.out]
   have HB1:=aH hb1
   clear HP hr hb1
   go_wp2
   refine bK (v:=.tuple #[.slice none 0 0,.int .i64 51]) (by simp [results,Tryz.results155,go_sem]) rfl ?_
   exact fA.none_ HB1.out HB.out.1 HB.out.2
  ·have HB:=aH (HOK.out (by have:=HLZ.out;omega))
   go_enter Tryz.func155,Tryz.ntmps155
   go_wp2_with fail
   refine HP.out.mono ?_
   rintro e w1 ⟨R,d,rfl,hr,hb1⟩
   rw[HNL.out]at hr ⊢
   have hcv1:=oI hr.rd d
   rw[B_L]at hcv1
   have hs1:l.size+2≤9223372036854775807:=by omega
   have hs2:l.size+2+T.size≤9223372036854775807:=by have:=HN.out;omega
   have hs3:l.size+2+T.size+2≤9223372036854775807:=by have:=HN.out;omega
   obtain⟨cc,W,hcv2,hcr,hcb⟩:=zO w1 (l++⟨#[13,10]⟩++T++⟨#[13,10]⟩)
   have HCR:=aH hcr
   have HB1:=aH (oN hb1 hcb)
   have hz1:=hb1.size
   clear HP hr hb1 hcr hcb
   go_wp2
   refine bK (v:=.tuple #[.slice (some ⟨w1.heap.size,0,none⟩) (l++⟨#[13,10]⟩++T++⟨#[13,10]⟩).size cc,.int .i64 0]) (by simp [results,Tryz.results155,go_sem]) rfl ?_
   have hL:L (l++⟨#[13,10]⟩++T++⟨#[13,10]⟩)=WB:=by
    rw[HB.out.1]
    simp only[eP]
    rfl
   have hS:(l++⟨#[13,10]⟩++T++⟨#[13,10]⟩:ByteArray).size=WB.length:=by rw[aQ,hL]
   have hr:=HCR.out
   rw[hL,hS]at hr
   rw[HB.out.2,hS]
   exact⟨_,cc,rfl,hr.mono hz1,HB1.out⟩
 all_goals
  have HB:=aH (aHH (l:=L l) hp (by decide))
  rw[F.nP (by rw[hp];decide),hp]at HP
  generalize F.iC (L l) fs=WB at *
  generalize F.dK (L l) fs=WE at *
  clear hp hx hll hlz hn1
  go_enter Tryz.func155,Tryz.ntmps155
  go_wp2_with fail
  refine HP.out.mono ?_
  rintro e w1 ⟨R,d,rfl,hr,hb1⟩
  have HB1:=aH hb1
  clear HP hr hb1
  go_wp2
  first
  | (refine bK (v:=.tuple #[.slice none 0 0,.int .i64 40]) (by simp [results,Tryz.results155,go_sem]) rfl ?_
     exact fA.none_ HB1.out HB.out.1 HB.out.2)
  | (refine bK (v:=.tuple #[.slice none 0 0,.int .i64 42]) (by simp [results,Tryz.results155,go_sem]) rfl ?_
     exact fA.none_ HB1.out HB.out.1 HB.out.2)
end Go.Proofs.YthjeglnkgdpijaaGreatDoor
