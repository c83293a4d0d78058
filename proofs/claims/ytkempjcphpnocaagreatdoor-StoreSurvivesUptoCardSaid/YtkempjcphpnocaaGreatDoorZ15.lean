/- Rows of entries, and lists of a script's steps, in memory. No condition: plain lemmas. Arguments opened: a script of the Store laws. No condition: plain lemmas. The walks of the Store laws' cut and of SameTexts at two lists that are alike. Condition: at most 2^40 steps or texts. A store over a new disk where nothing fails. No program here. The disk that a new log leaves, and its store. No program here. -/
import Derived.Test.YtkempjcphpnocaaGreatDoorZ27
namespace Go.Proofs.YtkempjcphpnocaaGreatDoor
open Go Go.RowKit Go.Maps
structure EP where
 E:O.Ent
 A:Option Addr
 c:Nat
 X:Option Addr
 d:Nat
def EP.v (p:EP):Value:=entV p.E p.A p.c p.X p.d
def ecells:List EP→List Value
 | []=>[]
 | p::t=>.string p.E.k::.string p.E.v::.int .i64 p.E.s::.string p.E.r::.int .i64 p.E.m::.slice p.A p.E.fs.length p.c::.slice p.X p.E.body.length p.d::.int .i64 p.E.asked::.int .i64 p.E.got::ecells t
def EAt (w:World) (b o:Nat) (p:EP):Prop:=w.cell? ⟨b,o,none⟩=some (.string p.E.k)∧w.cell? ⟨b,o+1,none⟩=some (.string p.E.v)∧w.cell? ⟨b,o+2,none⟩=some (.int .i64 p.E.s)∧w.cell? ⟨b,o+3,none⟩=some (.string p.E.r)∧w.cell? ⟨b,o+4,none⟩=some (.int .i64 p.E.m)∧w.cell? ⟨b,o+5,none⟩=some (.slice p.A p.E.fs.length p.c)∧w.cell? ⟨b,o+6,none⟩=some (.slice p.X p.E.body.length p.d)∧w.cell? ⟨b,o+7,none⟩=some (.int .i64 p.E.asked)∧w.cell? ⟨b,o+8,none⟩=some (.int .i64 p.E.got)
def ERd (w:World) (p:EP):Prop:=Rd w p.A p.E.fs.length 2 (fcells p.E.fs)∧Rd w p.X p.E.body.length 1 (bcells p.E.body)
def EOwn (w:World) (base:Nat) (p:EP):Prop:=Row w base 167 2 p.A p.E.fs.length p.c (fcells p.E.fs)∧Row w base 5 1 p.X p.E.body.length p.d (bcells p.E.body)
section
variable {w w':World} {base:Nat} {p:EP} {F F':Nat→Prop}
theorem ERd.below (h:ERd w p) (hb:Below w.heap.size w w'):ERd w' p:=⟨h.1.below hb,h.2.below hb⟩
theorem EOwn.rd (h:EOwn w base p):ERd w p:=⟨h.1.rd,h.2.rd⟩
theorem EOwn.below (h:EOwn w base p) (hb:Below w.heap.size w w'):EOwn w' base p:=⟨h.1.below hb,h.2.below hb⟩
theorem EOwn.mono (h:EOwn w base p) {b:Nat} (hb:b≤base):EOwn w b p:=⟨h.1.mono hb,h.2.mono hb⟩
theorem EOwn.went (h:EOwn w base p) (hw:Went F w F' w') (hF:∀ k,F k→k < base):EOwn w' base p :=
 ⟨hw.row h.1 (fun k hk hf=>by have:=(h.1.lt k hk).1;have:=hF k hf;omega),hw.row h.2 (fun k hk hf=>by have:=(h.2.lt k hk).1;have:=hF k hf;omega)⟩
end
structure ERow (w:World) (base:Nat) (A:Option Addr) (c:Nat) (l:List EP):Prop where
 row:Row w base 28 9 A l.length c (ecells l)
 all:∀ p∈l,EOwn w base p
section
variable {w w' w1 w2:World} {base:Nat} {A:Option Addr} {c:Nat} {l:List EP} {F F':Nat→Prop}
theorem ERow.nil (w:World) (base:Nat) (A:Option Addr):ERow w base A 0 []:=⟨Row.empty _ _ _ _ _,by simp⟩
theorem ERow.below (h:ERow w base A c l) (hb:Below w.heap.size w w'):ERow w' base A c l:=⟨h.row.below hb,fun p hp=>(h.all p hp).below hb⟩
theorem ERow.went (h:ERow w base A c l) (hw:Went F w F' w') (hF:∀ k,F k→k < base):ERow w' base A c l :=
 ⟨hw.row h.row (fun k hk hf=>by have:=(h.row.lt k hk).1;have:=hF k hf;omega),fun p hp=>(h.all p hp).went hw hF⟩
theorem ERow.snoc {A':Option Addr} {c':Nat} {p:EP} (h:ERow w1 base A c l) (hx:EOwn w1 base p) (hr:Row w2 base 28 9 A' (l.length+1) c' (ecells (l++[p]))) (ha:App w1 w2 A c A' c'):ERow w2 base A' c' (l++[p]):=by
 refine⟨by rw[List.length_append];exact hr,fun q hq=>?_⟩
 have hq1:EOwn w1 base q:=by
  rcases List.mem_append.1 hq with hm | hm
  ·exact h.all q hm
  ·rw[List.mem_singleton.1 hm];exact hx
 exact⟨hq1.1.keptG ha.grown (fun k hk e=>(hq1.1.tag hk).ne (h.row.tag e) (by decide) rfl),hq1.2.keptG ha.grown (fun k hk e=>(hq1.2.tag hk).ne (h.row.tag e) (by decide) rfl)⟩
end
def stcells:List (EP × ByteArray)→List Value
 | []=>[]
 | p::t=>.string p.1.E.k::.string p.1.E.v::.int .i64 p.1.E.s::.string p.1.E.r::.int .i64 p.1.E.m::.slice p.1.A p.1.E.fs.length p.1.c::.slice p.1.X p.1.E.body.length p.1.d::.int .i64 p.1.E.asked::.int .i64 p.1.E.got::.string p.2::stcells t
theorem stcells_length:∀ l,(stcells l).length=l.length * 10
 | []=>rfl
 | p::t=>by simp [stcells,stcells_length t];omega
theorem stcells_at:∀ (l:List (EP × ByteArray)) (k:Nat) (h:k < l.length),(stcells l)[k * 10]?=some (.string l[k].1.E.k)∧(stcells l)[k * 10+1]?=some (.string l[k].1.E.v)∧(stcells l)[k * 10+2]?=some (.int .i64 l[k].1.E.s)∧(stcells l)[k * 10+3]?=some (.string l[k].1.E.r)∧(stcells l)[k * 10+4]?=some (.int .i64 l[k].1.E.m)∧(stcells l)[k * 10+5]?=some (.slice l[k].1.A l[k].1.E.fs.length l[k].1.c)∧(stcells l)[k * 10+6]?=some (.slice l[k].1.X l[k].1.E.body.length l[k].1.d)∧(stcells l)[k * 10+7]?=some (.int .i64 l[k].1.E.asked)∧(stcells l)[k * 10+8]?=some (.int .i64 l[k].1.E.got)∧(stcells l)[k * 10+9]?=some (.string l[k].2)
 | p::t,0,_=>by simp [stcells]
 | p::t,k+1,h=>by
  have:=stcells_at t k (by simpa using h)
  have e:(k+1) * 10=k * 10+10:=by omega
  simp only[stcells,e,List.getElem_cons_succ]
  exact this
theorem rd_step {w:World} {A:Option Addr} {n k:Nat} {l:List (EP × ByteArray)} (h:Rd w A n 10 (stcells l)) (hk:k < n) (hl:l.length=n):∃ b o,A=some ⟨b,o,none⟩∧b < w.heap.size∧EAt w b (o+k * 10) (l[k]'(by omega)).1∧w.cell? ⟨b,o+k * 10+9,none⟩=some (.string (l[k]'(by omega)).2):=by
 obtain⟨b,o,rfl,hb,hc⟩:=h.2 (by omega)
 obtain⟨h0,h1,h2,h3,h4,h5,h6,h7,h8,h9⟩:=stcells_at l k (by omega)
 refine⟨b,o,rfl,hb,⟨hc _ _ h0,?_,?_,?_,?_,?_,?_,?_,?_⟩,?_⟩
 all_goals rw[Nat.add_assoc]
 ·exact hc _ _ h1
 ·exact hc _ _ h2
 ·exact hc _ _ h3
 ·exact hc _ _ h4
 ·exact hc _ _ h5
 ·exact hc _ _ h6
 ·exact hc _ _ h7
 ·exact hc _ _ h8
 ·exact hc _ _ h9
theorem rd_cut {w:World} {A:Option Addr} {n k:Nat} {l:List (EP × ByteArray)} (h:Rd w A n 10 (stcells l)) (hl:l.length=n) (hk:k≤n):Rd w A k 10 (stcells (l.take k)):=by
 refine⟨by rw[stcells_length,List.length_take];omega,fun hk0=>?_⟩
 obtain⟨b,o,rfl,hb,hc⟩:=h.2 (by omega)
 refine⟨b,o,rfl,hb,fun j u hu=>hc j u ?_⟩
 have hsplit:stcells l=stcells (l.take k)++stcells (l.drop k):=by
  have:∀ a b:List (EP × ByteArray),stcells (a++b)=stcells a++stcells b:=by
   intro a b
   induction a with
   | nil=>rfl
   | cons x t ih=>simp [stcells,ih]
  rw[← this,List.take_append_drop]
 rw[hsplit,List.getElem?_append_left (List.getElem?_eq_some_iff.1 hu).1]
 exact hu
end Go.Proofs.YtkempjcphpnocaaGreatDoor
namespace Go.Proofs.YtkempjcphpnocaaGreatDoor
open Go.ChangeShapes Go.WideShapes Go.ChangeAt Go.RowKit Go.Deep
theorem step_st:Tryz.prog.underlying 41=some (.struct (Tryz.prog.fieldsOf 41)):=by kernel_rfl
theorem step_cells:Tryz.prog.cellsOf 41=10:=by kernel_rfl
theorem step_ty:(Tryz.prog.fieldsOf 41).map (fun f=>(f.type,f.offset))=#[(28,0),(9,9)]:=by kernel_rfl
section
variable {H:Type} {enc:TypeId × Value→H} {W:World} {base:Nat} {held:Bool}
def ec (p:EP):List Value:=[.string p.E.k,.string p.E.v,.int .i64 p.E.s,.string p.E.r,.int .i64 p.E.m,.slice p.A p.E.fs.length p.c,.slice p.X p.E.body.length p.d,.int .i64 p.E.asked,.int .i64 p.E.got]
def EP.bulk (p:EP):Nat:=F.bulk p.E.fs+p.E.k.size+p.E.v.size+p.E.r.size+p.E.body.length
set_option maxRecDepth 100000 in
theorem cells_entry {fuel:Nat} {cs:List Value} {x:DataW H × List MemPlace} (h:DataW.trod enc Tryz.prog W base (fun _=>true) held fuel 28 cs=some x):∃ p:EP,cs=ec p∧ERd W p∧p.bulk≤Rows.uptoBulk x.1:=by
 obtain⟨xs,n,rfl,hx,hlc,hxl,hall⟩:=DataW.trod_struct entry_st h
 rw[entry_cells]at hlc
 obtain⟨a0,a1,a2,a3,a4,a5,a6,a7,a8,rfl⟩:∃ a0 a1 a2 a3 a4 a5 a6 a7 a8,cs=[a0,a1,a2,a3,a4,a5,a6,a7,a8]:=by
  match cs,hlc with
  | [a0,a1,a2,a3,a4,a5,a6,a7,a8],_=>exact⟨a0,a1,a2,a3,a4,a5,a6,a7,a8,rfl⟩
 obtain⟨c1,c2,c3,c4⟩:=cells_one
 obtain⟨g0,e0,t0,o0⟩:=field_at entry_ty 0 _ _ rfl
 obtain⟨g1,e1,t1,o1⟩:=field_at entry_ty 1 _ _ rfl
 obtain⟨g2,e2,t2,o2⟩:=field_at entry_ty 2 _ _ rfl
 obtain⟨g3,e3,t3,o3⟩:=field_at entry_ty 3 _ _ rfl
 obtain⟨g4,e4,t4,o4⟩:=field_at entry_ty 4 _ _ rfl
 obtain⟨g5,e5,t5,o5⟩:=field_at entry_ty 5 _ _ rfl
 have h0:=hall 0 g0 e0
 have h1:=hall 1 g1 e1
 have h2:=hall 2 g2 e2
 have h3:=hall 3 g3 e3
 have h4:=hall 4 g4 e4
 have h5:=hall 5 g5 e5
 rw[t0,o0,c1]at h0
 rw[t1,o1,c1]at h1
 rw[t2,o2,resp_cells]at h2
 rw[t3,o3,c3]at h3
 rw[t4,o4,c2]at h4
 rw[t5,o5,c2]at h5
 have hz:(Tryz.prog.fieldsOf 28).size=6:=by have:=congrArg Array.size entry_ty;simpa using this
 rw[hz]at hxl
 obtain⟨y0,y1,y2,y3,y4,y5,rfl⟩:∃ y0 y1 y2 y3 y4 y5,xs=[y0,y1,y2,y3,y4,y5]:=by
  match xs,hxl with
  | [y0,y1,y2,y3,y4,y5],_=>exact⟨y0,y1,y2,y3,y4,y5,rfl⟩
 change DataW.trod _ _ _ _ _ _ _ _ [a0]=some y0 at h0
 change DataW.trod _ _ _ _ _ _ _ _ [a1]=some y1 at h1
 change DataW.trod _ _ _ _ _ _ _ _ [a2,a3,a4,a5]=some y2 at h2
 change DataW.trod _ _ _ _ _ _ _ _ [a6]=some y3 at h3
 change DataW.trod _ _ _ _ _ _ _ _ [a7]=some y4 at h4
 change DataW.trod _ _ _ _ _ _ _ _ [a8]=some y5 at h5
 obtain⟨zs,n2,rfl,hzx,_,hzl,hall2⟩:=DataW.trod_struct resp_st h2
 have hz2:(Tryz.prog.fieldsOf 25).size=4:=resp_sz
 rw[hz2]at hzl
 obtain⟨z0,z1,z2,z3,rfl⟩:∃ z0 z1 z2 z3,zs=[z0,z1,z2,z3]:=by
  match zs,hzl with
  | [z0,z1,z2,z3],_=>exact⟨z0,z1,z2,z3,rfl⟩
 obtain⟨q0,f0,u0,p0⟩:=field_at resp_ty2 0 _ _ rfl
 obtain⟨q1,f1,u1,p1⟩:=field_at resp_ty2 1 _ _ rfl
 obtain⟨q2,f2,u2,p2⟩:=field_at resp_ty2 2 _ _ rfl
 obtain⟨q3,f3,u3,p3⟩:=field_at resp_ty2 3 _ _ rfl
 have k0:=hall2 0 q0 f0
 have k1:=hall2 1 q1 f1
 have k2:=hall2 2 q2 f2
 have k3:=hall2 3 q3 f3
 rw[u0,p0,c2]at k0
 rw[u1,p1,c1]at k1
 rw[u2,p2,c2]at k2
 rw[u3,p3,c4]at k3
 change DataW.trod _ _ _ _ _ _ _ _ [a2]=some z0 at k0
 change DataW.trod _ _ _ _ _ _ _ _ [a3]=some z1 at k1
 change DataW.trod _ _ _ _ _ _ _ _ [a4]=some z2 at k2
 change DataW.trod _ _ _ _ _ _ _ _ [a5]=some z3 at k3
 obtain⟨k,r0,rfl,_⟩:=DataW.trod_string Tryz.underlying9 h0
 obtain⟨u,r1,rfl,_⟩:=DataW.trod_string Tryz.underlying9 h1
 obtain⟨s,r2,rfl,_⟩:=DataW.trod_int Tryz.underlying3 k0
 obtain⟨r,r3,rfl,_⟩:=DataW.trod_string Tryz.underlying9 k1
 obtain⟨m,r4,rfl,_⟩:=DataW.trod_int Tryz.underlying3 k2
 obtain⟨asked,r5,rfl,_⟩:=DataW.trod_int Tryz.underlying3 h4
 obtain⟨got,r6,rfl,_⟩:=DataW.trod_int Tryz.underlying3 h5
 obtain⟨A,na,ca,rfl⟩:=slice_shape k3
 obtain⟨fs,l1,l2,l3,_⟩:=cells_fields k3
 simp only[List.cons.injEq,and_true]at r0 r1 r2 r3 r4 r5 r6
 subst r0 r1 r2 r3 r4 r5 r6
 obtain⟨X,nb,cb,rfl⟩:=slice_shapeB h3
 obtain⟨body,m1,m2,_,m4,_⟩:=cells_bytes h3
 have hd:x.1=.agg _:=congrArg Prod.fst hx
 have hy:y2.1=.agg _:=congrArg Prod.fst hzx
 subst l1 m1
 refine⟨⟨⟨k,u,s,r,m,fs,body,asked,got⟩,A,ca,X,cb⟩,rfl,⟨l2,m2⟩,?_⟩
 rw[hd]
 unfold EP.bulk
 simp only[List.map_cons,List.map_nil,hy,Rows.uptoBulk,Rows.uptoBulkAll,Array.length_toList]
 have:k.size=k.data.size:=rfl
 have:u.size=u.data.size:=rfl
 have:r.size=r.data.size:=rfl
 omega
set_option maxRecDepth 100000 in
theorem cells_step {fuel:Nat} {cs:List Value} {x:DataW H × List MemPlace} (h:DataW.trod enc Tryz.prog W base (fun _=>true) held fuel 41 cs=some x):∃ q:EP × ByteArray,cs=ec q.1++[.string q.2]∧ERd W q.1∧q.1.bulk+q.2.size+1≤Rows.uptoBulk x.1:=by
 obtain⟨xs,n,rfl,hx,hlc,hxl,hall⟩:=DataW.trod_struct step_st h
 rw[step_cells]at hlc
 obtain⟨a0,a1,a2,a3,a4,a5,a6,a7,a8,a9,rfl⟩:∃ a0 a1 a2 a3 a4 a5 a6 a7 a8 a9,cs=[a0,a1,a2,a3,a4,a5,a6,a7,a8,a9]:=by
  match cs,hlc with
  | [a0,a1,a2,a3,a4,a5,a6,a7,a8,a9],_=>exact⟨a0,a1,a2,a3,a4,a5,a6,a7,a8,a9,rfl⟩
 obtain⟨g0,e0,t0,o0⟩:=field_at step_ty 0 _ _ rfl
 obtain⟨g1,e1,t1,o1⟩:=field_at step_ty 1 _ _ rfl
 have h0:=hall 0 g0 e0
 have h1:=hall 1 g1 e1
 rw[t0,o0,entry_cells]at h0
 rw[t1,o1,cells_one.1]at h1
 have hz:(Tryz.prog.fieldsOf 41).size=2:=by have:=congrArg Array.size step_ty;simpa using this
 rw[hz]at hxl
 obtain⟨y0,y1,rfl⟩:∃ y0 y1,xs=[y0,y1]:=by
  match xs,hxl with
  | [y0,y1],_=>exact⟨y0,y1,rfl⟩
 change DataW.trod _ _ _ _ _ _ _ _ [a0,a1,a2,a3,a4,a5,a6,a7,a8]=some y0 at h0
 change DataW.trod _ _ _ _ _ _ _ _ [a9]=some y1 at h1
 obtain⟨p,hp,hr,hb⟩:=cells_entry h0
 obtain⟨k,r0,rfl,_⟩:=DataW.trod_string Tryz.underlying9 h1
 simp only[List.cons.injEq,and_true]at r0
 subst r0
 have hd:x.1=.agg _:=congrArg Prod.fst hx
 refine⟨(p,k),?_,hr,?_⟩
 ·rw[← hp];rfl
 ·rw[hd]
  simp only[List.map_cons,List.map_nil,Rows.uptoBulk,Rows.uptoBulkAll,Array.length_toList]
  have:k.size=k.data.size:=rfl
  omega
theorem stcells_get:∀ (l:List (EP × ByteArray)) (i j:Nat) (h:i < l.length),j < 10→(stcells l)[i * 10+j]?=(ec l[i].1++[.string l[i].2])[j]?
 | q::t,0,j,_,hj=>by
  have e:stcells (q::t)=(ec q.1++[.string q.2])++stcells t:=rfl
  rw[e,List.getElem?_append_left (by simp only[ec,List.length_append,List.length_cons,List.length_nil];omega)]
  simp
 | q::t,i+1,j,h,hj=>by
  have e:stcells (q::t)=(ec q.1++[.string q.2])++stcells t:=rfl
  have hl:(ec q.1++[Value.string q.2]).length=10:=rfl
  rw[e,List.getElem?_append_right (by rw[hl];omega),hl,show (i+1) * 10+j - 10=i * 10+j by omega,stcells_get t i j (by simpa using h) hj]
  simp
theorem rd_of_steps {A:Addr} {n:Nat} {l:List (EP × ByteArray)} (hl:l.length=n) (h:∀ i (hi:i < l.length),∀ j,j < 10→W.cell? ((A.add (i * 10)).add j)=(ec (l[i]'hi).1++[.string (l[i]'hi).2])[j]?):Rd W (some A) n 10 (stcells l):=by
 refine⟨by rw[stcells_length,hl],fun hn=>?_⟩
 have h0:=h 0 (by omega) 0 (by omega)
 have h00:W.cell? ((A.add (0 * 10)).add 0)=some (.string (l[0]'(by omega)).1.E.k):=h0
 have hspot:((A.add (0 * 10)).add 0).spot=none:=World.cell?_spot h00
 obtain⟨b,o,sp⟩:=A
 have:sp=none:=by cases sp<;>simp_all [Addr.add]
 subst this
 have ea:∀ k,(⟨b,o,none⟩:Addr).add k=⟨b,o+k,none⟩:=fun k=>by unfold Addr.add;split<;>simp_all
 have eb:∀ o k,(⟨b,o,none⟩:Addr).add k=⟨b,o+k,none⟩:=fun o k=>by unfold Addr.add;split<;>simp_all
 refine⟨b,o,rfl,?_,fun j u hu=>?_⟩
 ·have:=World.block_lt_of_cell? W _ h00
  rw[ea,eb]at this
  exact this
 have hj:j < l.length * 10:=by rw[← stcells_length];exact (List.getElem?_eq_some_iff.1 hu).1
 have hjj:j / 10 * 10+j % 10=j:=by omega
 have h1:=h (j / 10) (by omega) (j % 10) (by omega)
 rw[ea,eb,Nat.add_assoc,hjj]at h1
 rw[h1,← stcells_get l (j / 10) (j % 10) (by omega) (by omega),hjj]
 exact hu
theorem bulk_steps {D:Nat→DataW H} {g:Nat→EP × ByteArray}:∀ l:List Nat,(∀ i∈l,(g i).1.bulk+(g i).2.size+1≤Rows.uptoBulk (D i))→l.length≤Rows.uptoBulkAll (l.map D)∧∀ i∈l,(g i).1.bulk+(g i).2.size≤Rows.uptoBulkAll (l.map D)
 | [],_=>⟨by simp,by simp⟩
 | i::l,h=>by
  have h1:=h i (by simp)
  obtain⟨h2,h3⟩:=bulk_steps l (fun j hj=>h j (by simp [hj]))
  simp only[List.map_cons,List.length_cons,Rows.uptoBulkAll]
  refine⟨by omega,fun j hj=>?_⟩
  rcases List.mem_cons.1 hj with rfl | hj
  ·omega
  ·have:=h3 j hj
   omega
theorem steps_ul:Tryz.prog.underlying 22=some (.slice 41):=by kernel_rfl
theorem cells_steps {A:Option Addr} {n c:Nat} {fuel:Nat} {x:DataW H × List MemPlace} (h:DataW.trod enc Tryz.prog W base (fun _=>true) held fuel 22 [.slice A n c]=some x) :
  ∃ l:List (EP × ByteArray),l.length=n∧Rd W A n 10 (stcells l)∧n≤c∧(A=none→n=0)∧(∀ q∈l,ERd W q.1)∧(∀ q∈l,q.1.bulk+q.2.size≤Rows.uptoBulk x.1)∧l.length≤Rows.uptoBulk x.1:=by
 rcases open_slice steps_ul h with ⟨h0,rfl⟩ | ⟨a,len,cap,m,k,D,Pl,hcs,_,hl,hm,hmm,rfl,hi⟩
 ·simp only[List.cons.injEq,Value.slice.injEq,and_true]at h0
  obtain⟨rfl,rfl,rfl⟩:=h0
  exact⟨[],rfl,Rd.nil _ _ _,Nat.le_refl _,fun _=>rfl,(fun _ h=>by cases h),(fun _ h=>by cases h),Nat.zero_le _⟩
 ·simp only[List.cons.injEq,Value.slice.injEq,and_true]at hcs
  obtain⟨rfl,rfl,rfl⟩:=hcs
  simp only[if_true]at hmm
  subst hmm
  have each:∀ i,∃ q:EP × ByteArray,i < n→(∀ j,j < 10→W.cell? ((a.add (i * 10)).add j)=(ec q.1++[.string q.2])[j]?)∧ERd W q.1∧q.1.bulk+q.2.size+1≤Rows.uptoBulk (D i):=by
   intro i
   by_cases hin:i < n
   ·obtain⟨cs',hc,ht⟩:=hi i (by omega)
    rw[step_cells]at hc
    obtain⟨q,rfl,hr,hb⟩:=cells_step ht
    obtain⟨_,_,hat⟩:=World.cells?_some hc
    refine⟨q,fun _=>⟨fun j hj=>?_,hr,hb⟩⟩
    have hjl:j < (ec q.1++[Value.string q.2]).length:=hj
    have:=hat j hjl
    rw[this,List.getElem?_eq_getElem hjl]
   ·exact⟨(⟨⟨⟨#[]⟩,⟨#[]⟩,0,⟨#[]⟩,0,[],[],0,0⟩,none,0,none,0⟩,⟨#[]⟩),fun h=>absurd h hin⟩
  obtain⟨g,hg⟩:∃ g:Nat→EP × ByteArray,∀ i,i < n→(∀ j,j < 10→W.cell? ((a.add (i * 10)).add j)=(ec (g i).1++[.string (g i).2])[j]?)∧ERd W (g i).1∧(g i).1.bulk+(g i).2.size+1≤Rows.uptoBulk (D i) :=
   ⟨fun i=>(each i).choose,fun i=>(each i).choose_spec⟩
  obtain⟨b1,b2⟩:=bulk_steps (D:=D) (g:=g) (List.range n) (fun i hi=>(hg i (List.mem_range.1 hi)).2.2)
  refine⟨(List.range n).map g,by simp,rd_of_steps (by simp) (fun i hi j hj=>?_),hl,(fun h=>by cases h),fun q hq=>?_,fun q hq=>?_,?_⟩
  ·rw[List.length_map,List.length_range]at hi
   simp only[List.getElem_map,List.getElem_range]
   exact (hg i hi).1 j hj
  ·obtain⟨i,hi,rfl⟩:=List.mem_map.1 hq
   exact (hg i (List.mem_range.1 hi)).2.1
  ·obtain⟨i,hi,rfl⟩:=List.mem_map.1 hq
   have:=b2 i hi
   simp only[Rows.uptoBulk]
   omega
  ·simp only[Rows.uptoBulk,List.length_map]
   omega
set_option maxRecDepth 100000 in
theorem open_steps {r:Reach} {b0:Nat} {v:Value} {d:DataW H} {p:List MemPlace} (hv:Value.okWide Tryz.prog W r b0 22 v) (h:DataW.Trod enc Tryz.prog W base (fun _=>true) held 22 v d p) :
  ∃ A n c l,v=.slice A n c∧l.length=n∧Rd W A n 10 (stcells l)∧n≤c∧(A=none→n=0)∧(∀ q∈l,ERd W q.1)∧(∀ q∈l,q.1.bulk+q.2.size≤Rows.uptoBulk d)∧l.length≤Rows.uptoBulk d:=by
 obtain⟨A,n,c,rfl⟩:=okWide_slice steps_ul hv
 obtain⟨fuel,hf⟩:=h
 obtain⟨l,h⟩:=cells_steps (A:=A) (n:=n) (c:=c) hf
 exact⟨A,n,c,l,rfl,h⟩
end
end Go.Proofs.YtkempjcphpnocaaGreatDoor
namespace Go.Proofs.YtkempjcphpnocaaGreatDoor
open Go Go.RowKit Go.Maps
def RetScript (w:World) (A:Option Addr) (l:List (EP × ByteArray)) (e:Ending) (w':World):Prop:=∃ c,e=.returned (.slice A (l.take 60).length c)∧w'=w
set_option maxHeartbeats 1000000 in
theorem lcut_any (A:Option Addr) (n c:Nat) (l:List (EP × ByteArray)) (w:World) (hl:l.length=n) (hnc:n≤c) (hn:n≤1099511627776) (hA:A=none→n=0):Calls Tryz.prog 9 #[.slice A n c] w (RetScript w A l):=by
 subst hl
 by_cases h:60 < l.length
 ·have h1:(l.length:Int) > 60:=by omega
  have h60:(l.take 60).length=60:=by rw[List.length_take];omega
  obtain⟨⟨b,o,f⟩,rfl⟩:∃ a,A=some a:=by
   cases A with
   | none=>exact absurd (hA rfl) (by omega)
   | some a=>exact⟨a,rfl⟩
  go_enter Tryz.func9,Tryz.ntmps9
  go_wp2
  go_ret
  exact⟨_,by rw[h60]<;>rfl,rfl⟩
 ·have h1:¬ (l.length:Int) > 60:=by omega
  have h60:(l.take 60).length=l.length:=by rw[List.length_take];omega
  go_enter Tryz.func9,Tryz.ntmps9
  go_wp2
  go_ret
  exact⟨c,by rw[h60]<;>rfl,rfl⟩
end Go.Proofs.YtkempjcphpnocaaGreatDoor
namespace Go.Proofs.YtkempjcphpnocaaGreatDoor
namespace S
open D (cont Clm)
def fresh (room:Int):D.Dsk:=⟨[],[],[],[],[],room,[],-1,0⟩
theorem fresh_calm {room:Int} (h:0≤room):Clm (fresh room) :=
 ⟨rfl,rfl,⟨rfl,List.Pairwise.nil,List.Pairwise.nil,(fun _ h=>by cases h),(fun _ h=>by cases h),(fun _ h=>by cases h),rfl,fun _ h=>absurd h (Nat.not_lt_zero _)⟩,(fun _ h=>by cases h),h⟩
theorem fresh_fit {room:Int} (h:0≤room∧room≤1073741824):D.Fit 0 (fresh room) :=
 ⟨⟨(fun _ h=>by cases h),(fun _ h=>by cases h),(fun _ h=>by cases h)⟩,(fresh_calm h.1).ok,Int.le_refl _,Int.le_refl _,Nat.le_refl _,Nat.le_refl _,Nat.le_refl _,Nat.zero_le _,h,fun no=>by unfold D.Dsk.size fresh;simp⟩
theorem marks_len (n:Nat) (t:D.NM):(marks n t).length=n:=by unfold marks;simp
end S
end Go.Proofs.YtkempjcphpnocaaGreatDoor
namespace Go.Proofs.YtkempjcphpnocaaGreatDoor
namespace S
open D (cont Clm)
def born (room:Int):D.Dsk:=(((fresh room).create logN).1.sync logN).1.syncNames.1
theorem born_facts {room:Int} (h0:0≤room):steps (fresh room) firsts=(born room,3,0)∧has (fresh room).list newN=false∧(fresh room).read logN=([],90)∧(∀ nm∈(born room).list,isO nm=false∧nm.size≤4096)∧∀ n:Nat,n≤4096→Inv ⟨born room,0,[],marks n []⟩:=by
 have h:=fresh_calm h0
 have hc:∀ x,cont (fresh room) x=none:=fun _=>rfl
 obtain⟨e1,c1,k1⟩:=h.create log_good (hc _)
 obtain⟨e2,c2,k2⟩:=c1.sync log_good (c:=[]) (by rw[k1,if_pos rfl])
 obtain⟨e3,c3,k3⟩:=c2.syncNames
 have k:∀ x,cont (born room) x=if x=logN then some [] else none:=fun x=>by unfold born;rw[k3,k2,k1,hc]
 refine⟨by simp [steps,firsts,e1,e2,e3,born],rfl,by rw[h.read log_good,hc],fun nm hm=>?_,fun n hn=>⟨c3,⟨[],by show cont (born room) _=_;rw[k,if_pos rfl]⟩,by show cont (born room) _=_;rw[k,if_neg new_log],List.Pairwise.nil,by show (marks n []).length≤_;rw[marks_len];omega,(fun _ h=>by cases h),(fun _ h=>by cases h),fun no hn hi=>?_⟩⟩
 ·have:=c3.mem (x:=nm)
  have hm2:=this.1 hm
  have h3:(cont (born room) nm).isSome=true:=hm2
  rw[k]at h3
  by_cases e:nm=logN
  ·rw[e];exact⟨by decide,by decide⟩
  ·rw[if_neg e]at h3;cases h3
 ·change (cont (born room) _).isSome=true at hi
  rw[k,if_neg (path_log hn)]at hi
  cases hi
theorem born_fit {room:Int} (h:0≤room∧room≤1073741824):D.Fit 3 (born room):=by
 have:=steps_fit firsts firsts_fit (fresh_fit h)
 rw[(born_facts h.1).1]at this
 exact this
theorem marks_rep (n:Nat):marks n []=List.replicate n false:=by
 unfold marks
 have:=List.map_const' (l:=List.range n) (b:=false)
 rw[List.length_range]at this
 exact this
end S
end Go.Proofs.YtkempjcphpnocaaGreatDoor
