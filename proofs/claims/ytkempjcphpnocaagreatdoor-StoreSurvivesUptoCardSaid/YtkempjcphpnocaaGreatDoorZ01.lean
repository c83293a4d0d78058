/- The walks of the document's body and Request (printed by gen/msgr.py). Conditions: a row of at most 2^28 bytes. The walk of the document's Request of whole messages (printed by gen/msgs.py). Conditions: a row of at most 2^28 bytes. The walk of SameMessage, of two messages that read alike (printed by gen/msgt.py). Conditions: lists of at most 2^40 elements. An argument that is a list of fields, a string or a struct of these, opened to what a walk reads; its bulk; and read again behind the call. No condition: plain lemmas. A parameter that is a response, opened. No condition: plain lemmas. A parameter that is a request, a target, a list of bytes, opened. No condition: plain lemmas. A parameter that is an entry, opened. No condition: plain lemmas. Arguments opened: a list of lists of bytes, a list of numbers. No condition: plain lemmas. The walk of the document's Encode (layer 12). Conditions: texts of at most 2^30 bytes, a list of fields of bulk at most 2^30. The walks of CopyResponse and hop.Response. Conditions: a list of bulk at most 2^30, texts of at most 2^30 bytes, a number of 64 bits, the library's table of powers of ten. The walks of hop.Ask and of the document's. Conditions: a list of bulk at most 2^20, texts and bodies of at most 2^20 bytes, a number of 64 bits, the library's table of powers of ten. The walk of the document's Ask. Conditions: a list of bulk at most 2^20, texts and bodies of at most 2^20 bytes, a number of 64 bits, the library's table of powers of ten. The walk of the law HopAsks. Conditions: a list of bulk at most 2^20, texts and bodies of at most 2^20 bytes, a number of 64 bits, the library's table of powers of ten. What a response's reading tells of sizes, and its three ways. No program here. -/
import Derived.IntWalk
import Derived.Deep.Slices
import Derived.Deep.Fields
import Derived.ChangeSame
import Derived.DataReads
import Derived.WideKeyArgs
import Derived.Lib.SmallJoins
import Derived.ChangeSlices
import Derived.ChangeArms
import Derived.Test.YtkempjcphpnocaaGreatDoorObjEnc
import Derived.Lib.ItoaLen
import Derived.Outline
namespace Go.Proofs.YtkempjcphpnocaaGreatDoor
open Go.RowKit
def RetBody (w:World) (r:M.BD) (e:Ending) (w':World):Prop :=
 ∃ D d T j,e=.returned (.tuple #[.slice D r.d.length d,.slice T r.f.length j,.int .i64 r.n,.int .i64 r.e])∧CRow w' w.heap.size D r.d.length d r.d∧Row w' w.heap.size 167 2 T r.f.length j (fcells r.f)∧Below w.heap.size w w'
theorem RetBody.bad {w w':World} {r:M.BD} {code:Int} (hb:Below w.heap.size w w') (h:r=.bad code):RetBody w r (.returned (.tuple #[.slice none 0 0,.slice none 0 0,.int .i64 0,.int .i64 code])) w':=by
 subst h
 exact⟨none,0,none,0,rfl,CRow.none_ _ _,Row.none_ _ _ _ _,hb⟩
end Go.Proofs.YtkempjcphpnocaaGreatDoor
namespace Go.Proofs.YtkempjcphpnocaaGreatDoor
open Go.ChangeShapes Go.WideShapes Go.ChangeAt Go.RowKit Go.Deep
theorem laidOut_:laidOutB Tryz.prog=true:=by kernel_rfl
theorem fsz:(Tryz.prog.fieldsOf 167).size=2:=by kernel_rfl
theorem fs0:((Tryz.prog.fieldsOf 167)[0]?).map (fun f=>(f.type,f.offset))=some (9,0):=by kernel_rfl
theorem fs1:((Tryz.prog.fieldsOf 167)[1]?).map (fun f=>(f.type,f.offset))=some (9,1):=by kernel_rfl
theorem cellsF:Tryz.prog.cellsOf 167=2:=by kernel_rfl
theorem cellsS:Tryz.prog.cellsOf 9=1:=by kernel_rfl
theorem array_two {α:Type} {a:Array α} (h:a.size=2):∃ x y,a=#[x,y]:=by
 obtain⟨l⟩:=a
 match l,h with
 | [x,y],_=>exact⟨x,y,rfl⟩
theorem field_two:∃ f0 f1:Field,Tryz.prog.underlying 167=some (.struct #[f0,f1])∧f0.type=9∧f0.offset=0∧f1.type=9∧f1.offset=1:=by
 obtain⟨f0,f1,h⟩:=array_two fsz
 have h0:=fs0
 have h1:=fs1
 rw[h]at h0 h1
 simp at h0 h1
 exact⟨f0,f1,by rw[← h];exact fieldT_st,h0.1,h0.2,h1.1,h1.2⟩
section
variable {H:Type} {enc:TypeId × Value→H} {W:World} {base:Nat} {spare:Nat→Bool} {held:Bool}
theorem open_field {fuel:Nat} {cs:List Value} {x:DataW H × List MemPlace} (h:DataW.trod enc Tryz.prog W base spare held fuel 167 cs=some x) :
  ∃ f:FD,cs=[.string f.1,.string f.2]∧x.1=.agg [.lit (.string f.1.data.toList),.lit (.string f.2.data.toList)]:=by
 obtain⟨f0,f1,hs,t0,o0,t1,o1⟩:=field_two
 obtain⟨y0,y1,n,rfl,hl,h0,h1⟩:=trod_struct2 hs h
 rw[t0,o0,cellsS]at h0
 rw[t1,o1,cellsS]at h1
 rw[cellsF]at hl
 obtain⟨s0,e0,rfl,_⟩:=DataW.trod_string Tryz.underlying9 h0
 obtain⟨s1,e1,rfl,_⟩:=DataW.trod_string Tryz.underlying9 h1
 refine⟨(s0,s1),?_,rfl⟩
 match cs,hl with
 | [a,b],_ =>
  simp at e0 e1
  rw[e0,e1]
theorem bulk_field (f:FD):f.1.size+f.2.size+1≤Rows.uptoBulk (DataW.agg (H:=H) [.lit (.string f.1.data.toList),.lit (.string f.2.data.toList)]):=by
 simp only[Rows.uptoBulk,Rows.uptoBulkAll,Array.length_toList]
 have:f.1.size=f.1.data.size:=rfl
 have:f.2.size=f.2.data.size:=rfl
 omega
theorem bulk_list {D:Nat→DataW H} {g:Nat→FD}:∀ l:List Nat,(∀ i∈l,(g i).1.size+(g i).2.size+1≤Rows.uptoBulk (D i))→F.bulk (l.map g)≤Rows.uptoBulkAll (l.map D)
 | [],_=>by simp [F.bulk]
 | i::l,h=>by
  have h1:=h i (by simp)
  have h2:=bulk_list l (fun j hj=>h j (by simp [hj]))
  simp only[List.map_cons,F.bulk,Rows.uptoBulkAll]
  omega
theorem Rd.of_at {A:Addr} {n:Nat} {fs:List FD} (hl:fs.length=n) (h:∀ i (hi:i < fs.length),W.cell? (A.add (i * 2))=some (.string (fs[i]).1)∧W.cell? (A.add (i * 2+1))=some (.string (fs[i]).2)):Rd W (some A) n 2 (fcells fs):=by
 refine⟨by rw[fcells_length,hl],fun hn=>?_⟩
 have h0:=(h 0 (by omega)).1
 have hspot:(A.add (0 * 2)).spot=none:=World.cell?_spot h0
 obtain⟨b,o,sp⟩:=A
 have:sp=none:=by cases sp<;>simp_all [Addr.add]
 subst this
 refine⟨b,o,rfl,World.block_lt_of_cell? W _ h0,fun j u hu=>?_⟩
 have hj:j < fs.length * 2:=by rw[← fcells_length];exact (List.getElem?_eq_some_iff.1 hu).1
 have ea:∀ k,(⟨b,o,none⟩:Addr).add k=⟨b,o+k,none⟩:=fun k=>by unfold Addr.add;split<;>simp_all
 obtain⟨i,hi⟩:∃ i,j=i * 2∨j=i * 2+1:=⟨j / 2,by omega⟩
 rcases hi with rfl | rfl
 ·have hil:i < fs.length:=by omega
  have:=(h i hil).1
  rw[ea]at this
  rw[this]
  exact (fcells_at fs i hil).1.symm.trans hu
 ·have hil:i < fs.length:=by omega
  have:=(h i hil).2
  rw[ea]at this
  rw[this]
  exact (fcells_at fs i hil).2.symm.trans hu
theorem cells_fields {A:Option Addr} {n c:Nat} {fuel:Nat} {x:DataW H × List MemPlace} (h:DataW.trod enc Tryz.prog W base (fun _=>true) held fuel 23 [.slice A n c]=some x) :
  ∃ fs:List FD,fs.length=n∧Rd W A n 2 (fcells fs)∧F.bulk fs≤Rows.uptoBulk x.1∧(A=none→n=0∧c=0):=by
 rcases open_slice Tryz.underlying23 h with ⟨h0,rfl⟩ | ⟨a,len,cap,m,k,D,Pl,hcs,_,hl,hm,hmm,rfl,hi⟩
 ·simp only[List.cons.injEq,Value.slice.injEq,and_true]at h0
  obtain⟨rfl,rfl,rfl⟩:=h0
  exact⟨[],rfl,Rd.nil _ _ _,by simp [F.bulk],fun _=>⟨rfl,rfl⟩⟩
 ·simp only[List.cons.injEq,Value.slice.injEq,and_true]at hcs
  obtain⟨rfl,rfl,rfl⟩:=hcs
  simp only[if_true]at hmm
  subst hmm
  have each:∀ i,∃ f:FD,i < n→W.cell? (a.add (i * 2))=some (.string f.1)∧W.cell? (a.add (i * 2+1))=some (.string f.2)∧D i=.agg [.lit (.string f.1.data.toList),.lit (.string f.2.data.toList)]:=by
   intro i
   by_cases hin:i < n
   ·obtain⟨cs',hc,ht⟩:=hi i (by omega)
    rw[cellsF]at hc
    obtain⟨f,rfl,hx⟩:=open_field ht
    obtain⟨_,_,hat⟩:=World.cells?_some hc
    have h0:=hat 0 (by omega)
    have h1:=hat 1 (by omega)
    rw[Go.Deep.add_add]at h0 h1
    exact⟨f,fun _=>⟨h0,h1,hx⟩⟩
   ·exact⟨(⟨#[]⟩,⟨#[]⟩),fun h=>absurd h hin⟩
  obtain⟨g,hg⟩:∃ g:Nat→FD,∀ i,i < n→W.cell? (a.add (i * 2))=some (.string (g i).1)∧W.cell? (a.add (i * 2+1))=some (.string (g i).2)∧D i=.agg [.lit (.string (g i).1.data.toList),.lit (.string (g i).2.data.toList)] :=
   ⟨fun i=>(each i).choose,fun i=>(each i).choose_spec⟩
  refine⟨(List.range n).map g,by simp,Rd.of_at (by simp) (fun i hi=>?_),?_,fun h=>by cases h⟩
  ·rw[List.length_map,List.length_range]at hi
   have:=hg i hi
   simp only[List.getElem_map,List.getElem_range]
   exact⟨this.1,this.2.1⟩
  ·have:=bulk_list (D:=D) (g:=g) (List.range n) (fun i hi=>by
    have:=hg i (List.mem_range.1 hi)
    rw[this.2.2]
    exact bulk_field _)
   simp only[Rows.uptoBulk]
   omega
end
theorem again {H:Type} {enc:TypeId × Value→H} {t:TypeId} (hr:Tryz.prog.readableRec t=true) (hrow:t < Tryz.prog.types.size) {W W':World} {v:Value} {d:DataW H} {ps:List MemPlace}
  (h:DataW.Trod enc Tryz.prog W 0 (fun _=>true) true t v d ps) (hb:Below W.heap.size W W') (hlt:∀ x∈ps,x.block < W.heap.size) (sp:Nat→Bool) (hsp:∀ x∈ps,sp x.block=true) :
  DataW.Trod enc Tryz.prog W' 0 sp true t v d ps :=
 WideElems.Trod_stays laidOut_ hr hrow h (fun x hx=>hb.same (hlt x hx)) hsp
end Go.Proofs.YtkempjcphpnocaaGreatDoor
namespace Go.Proofs.YtkempjcphpnocaaGreatDoor
open Go.ChangeShapes Go.WideShapes Go.ChangeAt Go.RowKit Go.Deep
theorem resp_sz:(Tryz.prog.fieldsOf 25).size=4:=by kernel_rfl
theorem resp_st:Tryz.prog.underlying 25=some (.struct (Tryz.prog.fieldsOf 25)):=by kernel_rfl
theorem resp_cells:Tryz.prog.cellsOf 25=4:=by kernel_rfl
section
variable {H:Type} {enc:TypeId × Value→H} {W:World} {base:Nat} {held:Bool}
theorem slice_shape {fuel:Nat} {v:Value} {x:DataW H × List MemPlace} (h:DataW.trod enc Tryz.prog W base (fun _=>true) held fuel 23 [v]=some x):∃ A n c,v=.slice A n c:=by
 rcases open_slice Tryz.underlying23 h with ⟨h0,_⟩ | ⟨a,len,cap,m,k,D,Pl,hcs,_⟩
 ·exact⟨_,_,_,by simpa using h0⟩
 ·exact⟨_,_,_,by simpa using hcs⟩
end
end Go.Proofs.YtkempjcphpnocaaGreatDoor
namespace Go.Proofs.YtkempjcphpnocaaGreatDoor
open Go.ChangeShapes Go.WideShapes Go.ChangeAt Go.RowKit Go.Deep
theorem cellsB:Tryz.prog.cellsOf 5=1:=by kernel_rfl
section
variable {H:Type} {enc:TypeId × Value→H} {W:World} {base:Nat} {held:Bool}
theorem Rd.of_bytes {A:Addr} {n:Nat} {bs:List UInt8} (hl:bs.length=n) (h:∀ i (hi:i < bs.length),W.cell? (A.add i)=some (.int .u8 (bs[i]).toNat)):Rd W (some A) n 1 (bcells bs):=by
 refine⟨by simp [bcells,hl],fun hn=>?_⟩
 have h0:=h 0 (by omega)
 have hspot:(A.add 0).spot=none:=World.cell?_spot h0
 obtain⟨b,o,sp⟩:=A
 have:sp=none:=by cases sp<;>simp_all [Addr.add]
 subst this
 refine⟨b,o,rfl,World.block_lt_of_cell? W _ h0,fun j u hu=>?_⟩
 have hj:j < bs.length:=by
  have:=(List.getElem?_eq_some_iff.1 hu).1
  simpa [bcells] using this
 have ea:∀ k,(⟨b,o,none⟩:Addr).add k=⟨b,o+k,none⟩:=fun k=>by unfold Addr.add;split<;>simp_all
 have:=h j hj
 rw[ea]at this
 rw[this]
 simp [bcells,hj]at hu
 rw[hu]
theorem u8_back {x:Int} (h:(Lit.int .u8 x).wf=true):((UInt8.ofNat x.toNat).toNat:Int)=x:=by
 have h1:IntKind.u8.min=0:=rfl
 have h2:IntKind.u8.max=255:=rfl
 simp only[Lit.wf,Bool.and_eq_true,decide_eq_true_eq]at h
 simp only[UInt8.toNat_ofNat']
 omega
set_option maxRecDepth 100000 in
theorem bulk_lits (k:IntKind):∀ zs:List Int,Rows.uptoBulkAll (lits (H:=H) k zs)=zs.length
 | []=>rfl
 | z::zs=>by
  have:=bulk_lits k zs
  unfold lits at this ⊢
  simp only[List.map_cons,Rows.uptoBulkAll,Rows.uptoBulk,List.length_cons]
  omega
set_option maxRecDepth 100000 in
theorem cells_bytes {A:Option Addr} {n c:Nat} {fuel:Nat} {x:DataW H × List MemPlace} (h:DataW.trod enc Tryz.prog W base (fun _=>true) held fuel 26 [.slice A n c]=some x) :
  ∃ bs:List UInt8,bs.length=n∧Rd W A n 1 (bcells bs)∧n≤c∧bs.length≤Rows.uptoBulk x.1∧(A=none→n=0∧c=0)∧(∀ a,A=some a→a.spot=none∨c=0):=by
 rcases open_ints Tryz.underlying26 Tryz.underlying5 cellsB h with ⟨h0,rfl⟩ | ⟨a,len,cap,zs,hcs,_,hl,hm,hz,rfl,hcell,hwf⟩
 ·simp only[List.cons.injEq,Value.slice.injEq,and_true]at h0
  obtain⟨rfl,rfl,rfl⟩:=h0
  exact⟨[],rfl,Rd.nil _ _ _,Nat.le_refl _,by simp,fun _=>⟨rfl,rfl⟩,fun a h=>by cases h⟩
 ·simp only[List.cons.injEq,Value.slice.injEq,and_true]at hcs
  obtain⟨rfl,rfl,rfl⟩:=hcs
  simp only[if_true]at hz
  refine⟨(zs.take n).map fun z=>UInt8.ofNat z.toNat,by simp;omega,Rd.of_bytes (by simp;omega) (fun i hi=>?_),hl,?_,(fun h=>by cases h),fun a' h=>?_⟩
  ·have hi':i < n:=by simp at hi;omega
   rw[hcell i (by omega)]
   have e:zs.getD i 0=zs[i]'(by omega):=by simp [List.getD,List.getElem?_eq_getElem (show i < zs.length by omega)]
   rw[e]
   simp only[List.getElem_map,List.getElem_take]
   rw[u8_back (hwf _ (List.getElem_mem _))]
  ·simp only[Rows.uptoBulk,bulk_lits,List.length_map]
   omega
  ·cases h
   rcases Nat.eq_zero_or_pos c with h0 | h0
   ·exact .inr h0
   ·have h1:=World.cell?_spot (hcell 0 (by omega))
    obtain⟨b,o,sp⟩:=a
    left
    cases sp<;>simp_all [Addr.add]
end
end Go.Proofs.YtkempjcphpnocaaGreatDoor
namespace Go.Proofs.YtkempjcphpnocaaGreatDoor
open Go.ChangeShapes Go.WideShapes Go.ChangeAt Go.RowKit Go.Deep
theorem entry_st:Tryz.prog.underlying 28=some (.struct (Tryz.prog.fieldsOf 28)):=by kernel_rfl
theorem entry_cells:Tryz.prog.cellsOf 28=9:=by kernel_rfl
theorem entry_ty:(Tryz.prog.fieldsOf 28).map (fun f=>(f.type,f.offset))=#[(9,0),(9,1),(25,2),(26,6),(3,7),(3,8)]:=by kernel_rfl
theorem resp_ty2:(Tryz.prog.fieldsOf 25).map (fun f=>(f.type,f.offset))=#[(3,0),(9,1),(3,2),(23,3)]:=by kernel_rfl
theorem cells_one:Tryz.prog.cellsOf 9=1∧Tryz.prog.cellsOf 3=1∧Tryz.prog.cellsOf 26=1∧Tryz.prog.cellsOf 23=1:=⟨by kernel_rfl,by kernel_rfl,by kernel_rfl,by kernel_rfl⟩
theorem field_at {fs:Array Field} {ts:Array (TypeId × Nat)} (h:fs.map (fun f=>(f.type,f.offset))=ts) (i:Nat) (t:TypeId) (o:Nat) (hi:ts[i]?=some (t,o)):∃ f,fs[i]?=some f∧f.type=t∧f.offset=o:=by
 rw[← h,Array.getElem?_map]at hi
 obtain⟨f,hf,he⟩:=Option.map_eq_some_iff.1 hi
 cases he
 exact⟨f,hf,rfl,rfl⟩
section
variable {H:Type} {enc:TypeId × Value→H} {W:World} {base:Nat} {held:Bool}
theorem slice_shapeB {fuel:Nat} {v:Value} {x:DataW H × List MemPlace} (h:DataW.trod enc Tryz.prog W base (fun _=>true) held fuel 26 [v]=some x):∃ A n c,v=.slice A n c:=by
 rcases open_ints Tryz.underlying26 Tryz.underlying5 cellsB h with ⟨h0,_⟩ | ⟨a,len,cap,zs,hcs,_⟩
 ·exact⟨_,_,_,by simpa using h0⟩
 ·exact⟨_,_,_,by simpa using hcs⟩
end
end Go.Proofs.YtkempjcphpnocaaGreatDoor
namespace Go.Proofs.YtkempjcphpnocaaGreatDoor
open Go.ChangeShapes Go.WideShapes Go.ChangeAt Go.RowKit Go.Deep
section
variable {H:Type} {enc:TypeId × Value→H} {W:World} {base:Nat} {held:Bool}
theorem cellsI:Tryz.prog.cellsOf 3=1:=by kernel_rfl
end
end Go.Proofs.YtkempjcphpnocaaGreatDoor
namespace Go.Proofs.YtkempjcphpnocaaGreatDoor
open Go.RowKit
theorem Sep.apart {g c:Nat} {E:Option Addr} {m:Nat} (h:0 < m→∀ e,E=some e→e.block≠g):Sep (some ⟨g,0,none⟩) c E m:=fun hm kk e hk1 he=>by
 have:=h hm e he
 unfold ownB at hk1
 split at hk1
 ·cases hk1
 ·simp at hk1
  omega
end Go.Proofs.YtkempjcphpnocaaGreatDoor
namespace Go.Proofs.YtkempjcphpnocaaGreatDoor
open Go.RowKit
def onNormal (Q:Act→World→Prop):Exit→Act→World→Prop
 | .normal,a,w=>Q a w
 | _,_,_=>False
theorem onNormal.imp {Q:Act→World→Prop} {Q':Exit→Act→World→Prop} (h:∀ a w,Q a w→Q' .normal a w):∀ (e:Exit) (a:Act) (w:World),onNormal Q e a w→Q' e a w:=fun e a w hq=>by
 cases e<;>first | exact h a w hq | exact (hq:False).elim
def RetR (w:World) (s:Int) (r:ByteArray) (m:Int) (xs:List FD) (e:Ending) (w':World):Prop :=
 ∃ A c,e=.returned (.agg #[.int .i64 s,.string r,.int .i64 m,.slice A xs.length c])∧Row w' w.heap.size 167 2 A xs.length c (fcells xs)∧Below w.heap.size w w'
theorem Row.far {w:World} {base:Nat} {e:TypeId} {size:Nat} {A:Option Addr} {n c:Nat} {xs:List Value} (h:Row w base e size A n c xs) {b i:Nat} (hb:b < base) (v:Value):Row (w.setCell ⟨b,i,none⟩ v) base e size A n c xs:=by
 rcases h with ⟨h1,h2⟩ | h
 ·refine .inl ⟨h1,?_⟩
  rcases h2 with h2 | ⟨g,cap,cur,hv,hg,hh,r⟩
  ·exact .inl h2
  ·refine .inr ⟨g,cap,cur,hv,hg,?_,r⟩
   rw[← hh]
   unfold World.setCell
   simp only[Array.getElem?_modify]
   rw[if_neg (by omega)]
 ·exact .inr h
theorem Four.far {u:World} {b b':Nat} (h:Four u b') (hne:b'≠b) (i:Nat) (x:Value):Four (u.setCell ⟨b,i,none⟩ x) b':=by
 obtain⟨⟨a0,f0⟩,⟨a1,f1⟩,⟨a2,f2⟩,⟨a3,f3⟩⟩:=h
 have o:∀ j,(u.setCell ⟨b,i,none⟩ x).cell? ⟨b',j,none⟩=u.cell? ⟨b',j,none⟩:=fun j=>World.cell?_setCell_far _ _ _ _ (fun e=>hne e.symm)
 have f:∀ j,(u.setCell ⟨b,i,none⟩ x).frozen? ⟨b',j,none⟩=u.frozen? ⟨b',j,none⟩:=fun j=>World.frozen?_setCell _ _ _ _
 exact⟨⟨at_of ((o 0).trans a0),(f 0).trans f0⟩,⟨at_of ((o 1).trans a1),(f 1).trans f1⟩,⟨at_of ((o 2).trans a2),(f 2).trans f2⟩,⟨at_of ((o 3).trans a3),(f 3).trans f3⟩⟩
theorem Row.set4 {w:World} {base:Nat} {e:TypeId} {size:Nat} {A:Option Addr} {n c:Nat} {xs:List Value} (h:Row w base e size A n c xs) {b:Nat} (hb:b < base) (y0 y1 y2 y3:Value):Row ((((w.setCell ⟨b,0,none⟩ y0).setCell ⟨b,1,none⟩ y1).setCell ⟨b,2,none⟩ y2).setCell ⟨b,3,none⟩ y3) base e size A n c xs :=
 (((h.far hb _).far hb _).far hb _).far hb _
theorem below_set4 {B:Nat} {w u:World} (h:Below B w u) {b:Nat} (hb:B≤b) (y0 y1 y2 y3:Value):Below B w ((((u.setCell ⟨b,0,none⟩ y0).setCell ⟨b,1,none⟩ y1).setCell ⟨b,2,none⟩ y2).setCell ⟨b,3,none⟩ y3) :=
 (((h.setCell (p:=⟨b,0,none⟩) hb _).setCell (p:=⟨b,1,none⟩) hb _).setCell (p:=⟨b,2,none⟩) hb _).setCell (p:=⟨b,3,none⟩) hb _
set_option maxHeartbeats 400000 in
theorem copyResponse_any (s m:Int) (r:ByteArray) (A:Option Addr) (n c:Nat) (fs:List FD) (w:World) (hl:fs.length=n) (hn:n≤1099511627776) (hx:Rd w A n 2 (fcells fs)) :
  Calls Tryz.prog 44 #[.agg #[.int .i64 s,.string r,.int .i64 m,.slice A n c]] w (RetR w s r m fs):=by
 have HC:=Lib.hid (fun (w1:World) (hb:Below w.heap.size w w1)=>copyFields_any A n c fs w1 hn (hx.below hb))
 subst hl
 clear hx hn
 go_enter Tryz.func44,Tryz.ntmps44
 go_wp2_with fail
 refine (HC.out _ (((Below.refl _ _).alloc (Nat.le_refl _) _).alloc (by rw[World.size_alloc];omega) _)).mono ?_
 rintro e w1 ⟨A1,c1,rfl,hr1,hb1⟩
 obtain⟨x0,x1,x2,x3⟩:=((newFour (w:=w) (.int .i64 s) (.string r) (.int .i64 m) (.slice A fs.length c) 25).below ((Below.refl _ _).alloc (Nat.le_refl _) _)).below hb1
 have y4:=(newFour (w:=w.alloc (.cells #[.int .i64 s,.string r,.int .i64 m,.slice A fs.length c] 25)) (.int .i64 0) (.string ⟨#[]⟩) (.int .i64 0) (.slice none 0 0) 25).below hb1
 have g4:∀ i,w1.frozen? ⟨w.heap.size+1,i,none⟩=false:=fun i=>by
  have:=newFree hb1 i
  rwa [World.size_alloc]at this
 have k4:w1.frozen? ⟨w.heap.size,3,none⟩=false:=by
  rw[hb1.frozen (p:=⟨w.heap.size,3,none⟩) (by simp only[World.size_alloc];omega)]
  rw[frozen?_alloc_cells]
  exact newFour_free _ _ _
 rw[World.size_alloc]at y4
 obtain⟨y0,y1,y2,y3⟩:=y4
 have g0:=g4 0
 have g1:=g4 1
 have g2:=g4 2
 have g3:=g4 3
 have HG4:=Lib.hid g4
 have HY4:=Lib.hid (show Four w1 (w.heap.size+1) from⟨⟨at_of y0,g0⟩,⟨at_of y1,g1⟩,⟨at_of y2,g2⟩,⟨at_of y3,g3⟩⟩)
 have hB:=below_then (b:=(w.alloc (.cells #[.int .i64 s,.string r,.int .i64 m,.slice A fs.length c] 25)).alloc (.cells #[.int .i64 0,.string ⟨#[]⟩,.int .i64 0,.slice none 0 0] 25)) (by simp only[World.size_alloc];omega) (((Below.refl _ _).alloc (Nat.le_refl _) _).alloc (by rw[World.size_alloc];omega) _) hb1
 have HB:=Lib.hid hB
 have HR:=Lib.hid hr1
 clear hB hb1 hr1 g4 HC
 go_wp2
 have hfour:=(HY4.out.far (b:=w.heap.size) (by omega) 3 (.slice A1 fs.length c1)).set4 (.int .i64 s) (.string r) (.int .i64 m) (.slice A1 fs.length c1)
 have hrow:=(HR.out.far (b:=w.heap.size) (i:=3) (by simp only[World.size_alloc];omega) (.slice A1 fs.length c1)).set4 (b:=w.heap.size+1) (by simp only[World.size_alloc];omega) (.int .i64 s) (.string r) (.int .i64 m) (.slice A1 fs.length c1)
 have hbel:=below_set4 (HB.out.setCell (p:=⟨w.heap.size,3,none⟩) (Nat.le_refl _) (.slice A1 fs.length c1)) (b:=w.heap.size+1) (by omega) (.int .i64 s) (.string r) (.int .i64 m) (.slice A1 fs.length c1)
 clear x0 x1 x2 x3 y0 y1 y2 y3 g0 g1 g2 g3 k4 HY4 HR HB
 generalize (((((w1.setCell ⟨w.heap.size,3,none⟩ (.slice A1 fs.length c1)).setCell ⟨w.heap.size+1,0,none⟩ (.int .i64 s)).setCell ⟨w.heap.size+1,1,none⟩ (.string r)).setCell ⟨w.heap.size+1,2,none⟩ (.int .i64 m)).setCell ⟨w.heap.size+1,3,none⟩ (.slice A1 fs.length c1))=U at *
 obtain⟨d0,d1,d2,d3⟩:=hfour
 refine bodyPost_ret (v:=.agg #[.int .i64 s,.string r,.int .i64 m,.slice A1 fs.length c1]) (by simp [results,Tryz.results44,go_sem,d0,d1,d2,d3]) rfl ?_
 exact⟨A1,c1,rfl,hrow.mono (by simp only[World.size_alloc];omega),hbel⟩
def HoldR (w:World) (b:Nat) (x0 x1 x2 x3:Value) (u:World):Prop:=Four4 u b x0 x1 x2 x3∧Four u b∧Four u (b+1)∧Below w.heap.size w u
theorem HoldR.below {w:World} {b:Nat} {x0 x1 x2 x3:Value} {u v:World} (h:HoldR w b x0 x1 x2 x3 u) (hb:Below u.heap.size u v):HoldR w b x0 x1 x2 x3 v :=
 ⟨h.1.below hb,h.2.1.below hb,h.2.2.1.below hb,below_then h.2.2.2.size h.2.2.2 hb⟩
end Go.Proofs.YtkempjcphpnocaaGreatDoor
namespace Go.Proofs.YtkempjcphpnocaaGreatDoor
open Go.RowKit
namespace F
def plain (s:ByteArray):Bool:=decide (L s=[71,69,84])||decide (L s=[72,69,65,68])||decide (L s=[79,80,84,73,79,78,83])||decide (L s=[84,82,65,67,69])
end F
end Go.Proofs.YtkempjcphpnocaaGreatDoor
namespace Go.Proofs.YtkempjcphpnocaaGreatDoor
namespace P
open T (Bs)
theorem block_lenR (bs:Bs) (s:Nat):(hBlock bs s).length≤bs.length:=by
 unfold hBlock hText
 rw[List.length_drop,List.length_take,List.length_drop]
 omega
theorem response_bulk (bs:Bs):F.bulk (response bs).fs≤bs.length∧(response bs).r.size≤bs.length:=by
 have hp:=(parse_facts _ [] (hBlock bs 0) (Nat.le_refl _) (Nat.zero_le _)).1
 have hb:=block_lenR bs 0
 have hl:=hLine_le bs 0
 have h0:F.bulk []=0:=rfl
 have hz:∀ e:Int,F.bulk (RS.bad e).fs≤bs.length∧(RS.bad e).r.size≤bs.length:=fun e=>⟨Nat.zero_le _,Nat.zero_le _⟩
 unfold response
 split
 ·exact hz _
 ·unfold respOf
  split
  ·exact hz _
  ·split
   ·exact hz _
   ·split
    ·exact hz _
    ·split
     ·exact hz _
     ·refine⟨?_,?_⟩
      ·show F.bulk (parse [] (hBlock bs 0)).1≤_
       omega
      ·show (B (behind (behind (hLine bs 0)))).size≤_
       rw[B_size']
       have h1:=behind_le (behind (hLine bs 0))
       have h2:=behind_le (hLine bs 0)
       omega
end P
end Go.Proofs.YtkempjcphpnocaaGreatDoor
