/- Arguments opened: a script of the Store laws. No condition: plain lemmas. Rows of tries in memory, and the walks of must and could (printed by gen/try.py). Condition: at most 2^40 tries. -/
import Derived.Test.YtkempjcphpnocaaGreatDoorZ01
import Derived.Test.YtkempjcphpnocaaGreatDoorZ15
namespace Go.Proofs.YtkempjcphpnocaaGreatDoor
open Go.ChangeShapes Go.WideShapes Go.ChangeAt Go.RowKit Go.Deep
theorem step_st:Tryz.prog.underlying 41 = some (.struct (Tryz.prog.fieldsOf 41)):=by kernel_rfl
theorem step_cells:Tryz.prog.cellsOf 41 = 10:=by kernel_rfl
theorem step_ty:(Tryz.prog.fieldsOf 41).map (fun f=>(f.type,f.offset)) = #[(28,0),(9,9)]:=by kernel_rfl
section
variable {H:Type} {enc:TypeId × Value → H} {W:World} {base:Nat} {held:Bool}
def ec (p:EP):List Value:=[.string p.E.k,.string p.E.v,.int .i64 p.E.s,.string p.E.r,.int .i64 p.E.m,.slice p.A p.E.fs.length p.c,.slice p.X p.E.body.length p.d,.int .i64 p.E.asked,.int .i64 p.E.got]
def EP.bulk (p:EP):Nat:=F.bulk p.E.fs + p.E.k.size + p.E.v.size + p.E.r.size + p.E.body.length
set_option maxRecDepth 100000 in
theorem cells_entry {fuel:Nat} {cs:List Value} {x:DataW H × List MemPlace} (h:DataW.trod enc Tryz.prog W base (fun _=>true) held fuel 28 cs = some x):∃ p:EP,cs = ec p ∧ ERd W p ∧ p.bulk ≤ Rows.uptoBulk x.1:=by
  obtain ⟨xs,n,rfl,hx,hlc,hxl,hall⟩:=DataW.trod_struct entry_st h
  rw [entry_cells] at hlc
  obtain ⟨a0,a1,a2,a3,a4,a5,a6,a7,a8,rfl⟩:∃ a0 a1 a2 a3 a4 a5 a6 a7 a8,cs = [a0,a1,a2,a3,a4,a5,a6,a7,a8]:=by
    match cs,hlc with
    | [a0,a1,a2,a3,a4,a5,a6,a7,a8],_=>exact ⟨a0,a1,a2,a3,a4,a5,a6,a7,a8,rfl⟩
  obtain ⟨c1,c2,c3,c4⟩:=cells_one
  obtain ⟨g0,e0,t0,o0⟩:=field_at entry_ty 0 _ _ rfl
  obtain ⟨g1,e1,t1,o1⟩:=field_at entry_ty 1 _ _ rfl
  obtain ⟨g2,e2,t2,o2⟩:=field_at entry_ty 2 _ _ rfl
  obtain ⟨g3,e3,t3,o3⟩:=field_at entry_ty 3 _ _ rfl
  obtain ⟨g4,e4,t4,o4⟩:=field_at entry_ty 4 _ _ rfl
  obtain ⟨g5,e5,t5,o5⟩:=field_at entry_ty 5 _ _ rfl
  have h0:=hall 0 g0 e0
  have h1:=hall 1 g1 e1
  have h2:=hall 2 g2 e2
  have h3:=hall 3 g3 e3
  have h4:=hall 4 g4 e4
  have h5:=hall 5 g5 e5
  rw [t0,o0,c1] at h0
  rw [t1,o1,c1] at h1
  rw [t2,o2,resp_cells] at h2
  rw [t3,o3,c3] at h3
  rw [t4,o4,c2] at h4
  rw [t5,o5,c2] at h5
  have hz:(Tryz.prog.fieldsOf 28).size = 6:=by have:=congrArg Array.size entry_ty; simpa using this
  rw [hz] at hxl
  obtain ⟨y0,y1,y2,y3,y4,y5,rfl⟩:∃ y0 y1 y2 y3 y4 y5,xs = [y0,y1,y2,y3,y4,y5]:=by
    match xs,hxl with
    | [y0,y1,y2,y3,y4,y5],_=>exact ⟨y0,y1,y2,y3,y4,y5,rfl⟩
  change DataW.trod _ _ _ _ _ _ _ _ [a0] = some y0 at h0
  change DataW.trod _ _ _ _ _ _ _ _ [a1] = some y1 at h1
  change DataW.trod _ _ _ _ _ _ _ _ [a2,a3,a4,a5] = some y2 at h2
  change DataW.trod _ _ _ _ _ _ _ _ [a6] = some y3 at h3
  change DataW.trod _ _ _ _ _ _ _ _ [a7] = some y4 at h4
  change DataW.trod _ _ _ _ _ _ _ _ [a8] = some y5 at h5
  obtain ⟨zs,n2,rfl,hzx,_,hzl,hall2⟩:=DataW.trod_struct resp_st h2
  have hz2:(Tryz.prog.fieldsOf 25).size = 4:=resp_sz
  rw [hz2] at hzl
  obtain ⟨z0,z1,z2,z3,rfl⟩:∃ z0 z1 z2 z3,zs = [z0,z1,z2,z3]:=by
    match zs,hzl with
    | [z0,z1,z2,z3],_=>exact ⟨z0,z1,z2,z3,rfl⟩
  obtain ⟨q0,f0,u0,p0⟩:=field_at resp_ty2 0 _ _ rfl
  obtain ⟨q1,f1,u1,p1⟩:=field_at resp_ty2 1 _ _ rfl
  obtain ⟨q2,f2,u2,p2⟩:=field_at resp_ty2 2 _ _ rfl
  obtain ⟨q3,f3,u3,p3⟩:=field_at resp_ty2 3 _ _ rfl
  have k0:=hall2 0 q0 f0
  have k1:=hall2 1 q1 f1
  have k2:=hall2 2 q2 f2
  have k3:=hall2 3 q3 f3
  rw [u0,p0,c2] at k0
  rw [u1,p1,c1] at k1
  rw [u2,p2,c2] at k2
  rw [u3,p3,c4] at k3
  change DataW.trod _ _ _ _ _ _ _ _ [a2] = some z0 at k0
  change DataW.trod _ _ _ _ _ _ _ _ [a3] = some z1 at k1
  change DataW.trod _ _ _ _ _ _ _ _ [a4] = some z2 at k2
  change DataW.trod _ _ _ _ _ _ _ _ [a5] = some z3 at k3
  obtain ⟨k,r0,rfl,_⟩:=DataW.trod_string Tryz.underlying9 h0
  obtain ⟨u,r1,rfl,_⟩:=DataW.trod_string Tryz.underlying9 h1
  obtain ⟨s,r2,rfl,_⟩:=DataW.trod_int Tryz.underlying3 k0
  obtain ⟨r,r3,rfl,_⟩:=DataW.trod_string Tryz.underlying9 k1
  obtain ⟨m,r4,rfl,_⟩:=DataW.trod_int Tryz.underlying3 k2
  obtain ⟨asked,r5,rfl,_⟩:=DataW.trod_int Tryz.underlying3 h4
  obtain ⟨got,r6,rfl,_⟩:=DataW.trod_int Tryz.underlying3 h5
  obtain ⟨A,na,ca,rfl⟩:=slice_shape k3
  obtain ⟨fs,l1,l2,l3,_⟩:=cells_fields k3
  simp only [List.cons.injEq,and_true] at r0 r1 r2 r3 r4 r5 r6
  subst r0 r1 r2 r3 r4 r5 r6
  obtain ⟨X,nb,cb,rfl⟩:=slice_shapeB h3
  obtain ⟨body,m1,m2,_,m4,_⟩:=cells_bytes h3
  have hd:x.1 = .agg _:=congrArg Prod.fst hx
  have hy:y2.1 = .agg _:=congrArg Prod.fst hzx
  subst l1 m1
  refine ⟨⟨⟨k,u,s,r,m,fs,body,asked,got⟩,A,ca,X,cb⟩,rfl,⟨l2,m2⟩,?_⟩
  rw [hd]
  unfold EP.bulk
  simp only [List.map_cons,List.map_nil,hy,Rows.uptoBulk,Rows.uptoBulkAll,Array.length_toList]
  have:k.size = k.data.size:=rfl
  have:u.size = u.data.size:=rfl
  have:r.size = r.data.size:=rfl
  omega
set_option maxRecDepth 100000 in
theorem cells_step {fuel:Nat} {cs:List Value} {x:DataW H × List MemPlace} (h:DataW.trod enc Tryz.prog W base (fun _=>true) held fuel 41 cs = some x):∃ q:EP × ByteArray,cs = ec q.1 ++ [.string q.2] ∧ ERd W q.1 ∧ q.1.bulk + q.2.size + 1 ≤ Rows.uptoBulk x.1:=by
  obtain ⟨xs,n,rfl,hx,hlc,hxl,hall⟩:=DataW.trod_struct step_st h
  rw [step_cells] at hlc
  obtain ⟨a0,a1,a2,a3,a4,a5,a6,a7,a8,a9,rfl⟩:∃ a0 a1 a2 a3 a4 a5 a6 a7 a8 a9,cs = [a0,a1,a2,a3,a4,a5,a6,a7,a8,a9]:=by
    match cs,hlc with
    | [a0,a1,a2,a3,a4,a5,a6,a7,a8,a9],_=>exact ⟨a0,a1,a2,a3,a4,a5,a6,a7,a8,a9,rfl⟩
  obtain ⟨g0,e0,t0,o0⟩:=field_at step_ty 0 _ _ rfl
  obtain ⟨g1,e1,t1,o1⟩:=field_at step_ty 1 _ _ rfl
  have h0:=hall 0 g0 e0
  have h1:=hall 1 g1 e1
  rw [t0,o0,entry_cells] at h0
  rw [t1,o1,cells_one.1] at h1
  have hz:(Tryz.prog.fieldsOf 41).size = 2:=by have:=congrArg Array.size step_ty; simpa using this
  rw [hz] at hxl
  obtain ⟨y0,y1,rfl⟩:∃ y0 y1,xs = [y0,y1]:=by
    match xs,hxl with
    | [y0,y1],_=>exact ⟨y0,y1,rfl⟩
  change DataW.trod _ _ _ _ _ _ _ _ [a0,a1,a2,a3,a4,a5,a6,a7,a8] = some y0 at h0
  change DataW.trod _ _ _ _ _ _ _ _ [a9] = some y1 at h1
  obtain ⟨p,hp,hr,hb⟩:=cells_entry h0
  obtain ⟨k,r0,rfl,_⟩:=DataW.trod_string Tryz.underlying9 h1
  simp only [List.cons.injEq,and_true] at r0
  subst r0
  have hd:x.1 = .agg _:=congrArg Prod.fst hx
  refine ⟨(p,k),?_,hr,?_⟩
  · rw [← hp]; rfl
  · rw [hd]
    simp only [List.map_cons,List.map_nil,Rows.uptoBulk,Rows.uptoBulkAll,Array.length_toList]
    have:k.size = k.data.size:=rfl
    omega
theorem stcells_get:∀ (l:List (EP × ByteArray)) (i j:Nat) (h:i < l.length),j < 10 → (stcells l)[i * 10 + j]? = (ec l[i].1 ++ [.string l[i].2])[j]?
  | q :: t,0,j,_,hj=>by
    have e:stcells (q :: t) = (ec q.1 ++ [.string q.2]) ++ stcells t:=rfl
    rw [e,List.getElem?_append_left (by simp only [ec,List.length_append,List.length_cons,List.length_nil]; omega)]
    simp
  | q :: t,i + 1,j,h,hj=>by
    have e:stcells (q :: t) = (ec q.1 ++ [.string q.2]) ++ stcells t:=rfl
    have hl:(ec q.1 ++ [Value.string q.2]).length = 10:=rfl
    rw [e,List.getElem?_append_right (by rw [hl]; omega),hl,show (i + 1) * 10 + j - 10 = i * 10 + j by omega,stcells_get t i j (by simpa using h) hj]
    simp
theorem rd_of_steps {A:Addr} {n:Nat} {l:List (EP × ByteArray)} (hl:l.length = n) (h:∀ i (hi:i < l.length),∀ j,j < 10 → W.cell? ((A.add (i * 10)).add j) = (ec (l[i]'hi).1 ++ [.string (l[i]'hi).2])[j]?):Rd W (some A) n 10 (stcells l):=by
  refine ⟨by rw [stcells_length,hl],fun hn=>?_⟩
  have h0:=h 0 (by omega) 0 (by omega)
  have h00:W.cell? ((A.add (0 * 10)).add 0) = some (.string (l[0]'(by omega)).1.E.k):=h0
  have hspot:((A.add (0 * 10)).add 0).spot = none:=World.cell?_spot h00
  obtain ⟨b,o,sp⟩:=A
  have:sp = none:=by cases sp <;> simp_all [Addr.add]
  subst this
  have ea:∀ k,(⟨b,o,none⟩:Addr).add k = ⟨b,o + k,none⟩:=fun k=>by unfold Addr.add; split <;> simp_all
  have eb:∀ o k,(⟨b,o,none⟩:Addr).add k = ⟨b,o + k,none⟩:=fun o k=>by unfold Addr.add; split <;> simp_all
  refine ⟨b,o,rfl,?_,fun j u hu=>?_⟩
  · have:=World.block_lt_of_cell? W _ h00
    rw [ea,eb] at this
    exact this
  have hj:j < l.length * 10:=by rw [← stcells_length]; exact (List.getElem?_eq_some_iff.1 hu).1
  have hjj:j / 10 * 10 + j % 10 = j:=by omega
  have h1:=h (j / 10) (by omega) (j % 10) (by omega)
  rw [ea,eb,Nat.add_assoc,hjj] at h1
  rw [h1,← stcells_get l (j / 10) (j % 10) (by omega) (by omega),hjj]
  exact hu
theorem bulk_steps {D:Nat → DataW H} {g:Nat → EP × ByteArray}:∀ l:List Nat,(∀ i ∈ l,(g i).1.bulk + (g i).2.size + 1 ≤ Rows.uptoBulk (D i)) → l.length ≤ Rows.uptoBulkAll (l.map D) ∧ ∀ i ∈ l,(g i).1.bulk + (g i).2.size ≤ Rows.uptoBulkAll (l.map D)
  | [],_=>⟨by simp,by simp⟩
  | i :: l,h=>by
    have h1:=h i (by simp)
    obtain ⟨h2,h3⟩:=bulk_steps l (fun j hj=>h j (by simp [hj]))
    simp only [List.map_cons,List.length_cons,Rows.uptoBulkAll]
    refine ⟨by omega,fun j hj=>?_⟩
    rcases List.mem_cons.1 hj with rfl | hj
    · omega
    · have:=h3 j hj
      omega
theorem steps_ul:Tryz.prog.underlying 22 = some (.slice 41):=by kernel_rfl
theorem cells_steps {A:Option Addr} {n c:Nat} {fuel:Nat} {x:DataW H × List MemPlace} (h:DataW.trod enc Tryz.prog W base (fun _=>true) held fuel 22 [.slice A n c] = some x) :
    ∃ l:List (EP × ByteArray),l.length = n ∧ Rd W A n 10 (stcells l) ∧ n ≤ c ∧ (A = none → n = 0) ∧ (∀ q ∈ l,ERd W q.1) ∧ (∀ q ∈ l,q.1.bulk + q.2.size ≤ Rows.uptoBulk x.1) ∧ l.length ≤ Rows.uptoBulk x.1:=by
  rcases open_slice steps_ul h with ⟨h0,rfl⟩ | ⟨a,len,cap,m,k,D,Pl,hcs,_,hl,hm,hmm,rfl,hi⟩
  · simp only [List.cons.injEq,Value.slice.injEq,and_true] at h0
    obtain ⟨rfl,rfl,rfl⟩:=h0
    exact ⟨[],rfl,Rd.nil _ _ _,Nat.le_refl _,fun _=>rfl,(fun _ h=>by cases h),(fun _ h=>by cases h),Nat.zero_le _⟩
  · simp only [List.cons.injEq,Value.slice.injEq,and_true] at hcs
    obtain ⟨rfl,rfl,rfl⟩:=hcs
    simp only [if_true] at hmm
    subst hmm
    have each:∀ i,∃ q:EP × ByteArray,i < n → (∀ j,j < 10 → W.cell? ((a.add (i * 10)).add j) = (ec q.1 ++ [.string q.2])[j]?) ∧ ERd W q.1 ∧ q.1.bulk + q.2.size + 1 ≤ Rows.uptoBulk (D i):=by
      intro i
      by_cases hin:i < n
      · obtain ⟨cs',hc,ht⟩:=hi i (by omega)
        rw [step_cells] at hc
        obtain ⟨q,rfl,hr,hb⟩:=cells_step ht
        obtain ⟨_,_,hat⟩:=World.cells?_some hc
        refine ⟨q,fun _=>⟨fun j hj=>?_,hr,hb⟩⟩
        have hjl:j < (ec q.1 ++ [Value.string q.2]).length:=hj
        have:=hat j hjl
        rw [this,List.getElem?_eq_getElem hjl]
      · exact ⟨(⟨⟨⟨#[]⟩,⟨#[]⟩,0,⟨#[]⟩,0,[],[],0,0⟩,none,0,none,0⟩,⟨#[]⟩),fun h=>absurd h hin⟩
    obtain ⟨g,hg⟩:∃ g:Nat → EP × ByteArray,∀ i,i < n → (∀ j,j < 10 → W.cell? ((a.add (i * 10)).add j) = (ec (g i).1 ++ [.string (g i).2])[j]?) ∧ ERd W (g i).1 ∧ (g i).1.bulk + (g i).2.size + 1 ≤ Rows.uptoBulk (D i) :=
      ⟨fun i=>(each i).choose,fun i=>(each i).choose_spec⟩
    obtain ⟨b1,b2⟩:=bulk_steps (D:=D) (g:=g) (List.range n) (fun i hi=>(hg i (List.mem_range.1 hi)).2.2)
    refine ⟨(List.range n).map g,by simp,rd_of_steps (by simp) (fun i hi j hj=>?_),hl,(fun h=>by cases h),fun q hq=>?_,fun q hq=>?_,?_⟩
    · rw [List.length_map,List.length_range] at hi
      simp only [List.getElem_map,List.getElem_range]
      exact (hg i hi).1 j hj
    · obtain ⟨i,hi,rfl⟩:=List.mem_map.1 hq
      exact (hg i (List.mem_range.1 hi)).2.1
    · obtain ⟨i,hi,rfl⟩:=List.mem_map.1 hq
      have:=b2 i hi
      simp only [Rows.uptoBulk]
      omega
    · simp only [Rows.uptoBulk,List.length_map]
      omega
set_option maxRecDepth 100000 in
theorem open_steps {r:Reach} {b0:Nat} {v:Value} {d:DataW H} {p:List MemPlace} (hv:Value.okWide Tryz.prog W r b0 22 v) (h:DataW.Trod enc Tryz.prog W base (fun _=>true) held 22 v d p) :
    ∃ A n c l,v = .slice A n c ∧ l.length = n ∧ Rd W A n 10 (stcells l) ∧ n ≤ c ∧ (A = none → n = 0) ∧ (∀ q ∈ l,ERd W q.1) ∧ (∀ q ∈ l,q.1.bulk + q.2.size ≤ Rows.uptoBulk d) ∧ l.length ≤ Rows.uptoBulk d:=by
  obtain ⟨A,n,c,rfl⟩:=okWide_slice steps_ul hv
  obtain ⟨fuel,hf⟩:=h
  obtain ⟨l,h⟩:=cells_steps (A:=A) (n:=n) (c:=c) hf
  exact ⟨A,n,c,l,rfl,h⟩
end
end Go.Proofs.YtkempjcphpnocaaGreatDoor
namespace Go.Proofs.YtkempjcphpnocaaGreatDoor
open Go Go.RowKit Go.Maps
structure TP where
  id:ByteArray
  p:EP
  drop:Bool
  done:Bool
def tpcells:List TP → List Value
  | []=>[]
  | t :: r=>.string t.id :: .string t.p.E.k :: .string t.p.E.v :: .int .i64 t.p.E.s :: .string t.p.E.r :: .int .i64 t.p.E.m :: .slice t.p.A t.p.E.fs.length t.p.c :: .slice t.p.X t.p.E.body.length t.p.d :: .int .i64 t.p.E.asked :: .int .i64 t.p.E.got :: .bool t.drop :: .bool t.done :: tpcells r
theorem tpcells_append:∀ l m:List TP,tpcells (l ++ m) = tpcells l ++ tpcells m
  | [],m=>rfl
  | t :: r,m=>by simp [tpcells,tpcells_append r m]
theorem tpcells_one:∀ l:List TP,∀ u ∈ tpcells l,u.oneCell' = true
  | [],u,h=>by cases h
  | t :: r,u,h=>by
    simp only [tpcells,List.mem_cons] at h
    rcases h with rfl | rfl | rfl | rfl | rfl | rfl | rfl | rfl | rfl | rfl | rfl | rfl | h
    iterate 12 rfl
    exact tpcells_one r u h
theorem tpcells_at:∀ (l:List TP) (k:Nat) (h:k < l.length),(tpcells l)[k * 12]? = some (.string l[k].id) ∧ (tpcells l)[k * 12 + 1]? = some (.string l[k].p.E.k) ∧ (tpcells l)[k * 12 + 2]? = some (.string l[k].p.E.v) ∧ (tpcells l)[k * 12 + 3]? = some (.int .i64 l[k].p.E.s) ∧ (tpcells l)[k * 12 + 4]? = some (.string l[k].p.E.r) ∧ (tpcells l)[k * 12 + 5]? = some (.int .i64 l[k].p.E.m) ∧ (tpcells l)[k * 12 + 6]? = some (.slice l[k].p.A l[k].p.E.fs.length l[k].p.c) ∧ (tpcells l)[k * 12 + 7]? = some (.slice l[k].p.X l[k].p.E.body.length l[k].p.d) ∧ (tpcells l)[k * 12 + 8]? = some (.int .i64 l[k].p.E.asked) ∧ (tpcells l)[k * 12 + 9]? = some (.int .i64 l[k].p.E.got) ∧ (tpcells l)[k * 12 + 10]? = some (.bool l[k].drop) ∧ (tpcells l)[k * 12 + 11]? = some (.bool l[k].done)
  | t :: r,0,_=>by simp [tpcells]
  | t :: r,k + 1,h=>by
    have:=tpcells_at r k (by simpa using h)
    have e:(k + 1) * 12 = k * 12 + 12:=by omega
    simp only [tpcells,e,List.getElem_cons_succ]
    exact this
def TAt (w:World) (b o:Nat) (t:TP):Prop:=w.cell? ⟨b,o,none⟩ = some (.string t.id) ∧ w.cell? ⟨b,o + 1,none⟩ = some (.string t.p.E.k) ∧ w.cell? ⟨b,o + 2,none⟩ = some (.string t.p.E.v) ∧ w.cell? ⟨b,o + 3,none⟩ = some (.int .i64 t.p.E.s) ∧ w.cell? ⟨b,o + 4,none⟩ = some (.string t.p.E.r) ∧ w.cell? ⟨b,o + 5,none⟩ = some (.int .i64 t.p.E.m) ∧ w.cell? ⟨b,o + 6,none⟩ = some (.slice t.p.A t.p.E.fs.length t.p.c) ∧ w.cell? ⟨b,o + 7,none⟩ = some (.slice t.p.X t.p.E.body.length t.p.d) ∧ w.cell? ⟨b,o + 8,none⟩ = some (.int .i64 t.p.E.asked) ∧ w.cell? ⟨b,o + 9,none⟩ = some (.int .i64 t.p.E.got) ∧ w.cell? ⟨b,o + 10,none⟩ = some (.bool t.drop) ∧ w.cell? ⟨b,o + 11,none⟩ = some (.bool t.done)
theorem rd_try {w:World} {A:Option Addr} {n k:Nat} {l:List TP} (h:Rd w A n 12 (tpcells l)) (hk:k < n) (hl:l.length = n):∃ b o,A = some ⟨b,o,none⟩ ∧ b < w.heap.size ∧ TAt w b (o + k * 12) (l[k]'(by omega)):=by
  obtain ⟨b,o,rfl,hb,hc⟩:=h.2 (by omega)
  obtain ⟨h0,h1,h2,h3,h4,h5,h6,h7,h8,h9,h10,h11⟩:=tpcells_at l k (by omega)
  refine ⟨b,o,rfl,hb,hc _ _ h0,?_,?_,?_,?_,?_,?_,?_,?_,?_,?_,?_⟩
  all_goals rw [Nat.add_assoc]
  · exact hc _ _ h1
  · exact hc _ _ h2
  · exact hc _ _ h3
  · exact hc _ _ h4
  · exact hc _ _ h5
  · exact hc _ _ h6
  · exact hc _ _ h7
  · exact hc _ _ h8
  · exact hc _ _ h9
  · exact hc _ _ h10
  · exact hc _ _ h11
theorem Tryz.infoTry:(Tryz.prog.info? 57).map (fun i=>(i.zero,i.size,i.bytes)) = some (some (.agg #[.string ⟨#[]⟩,.string ⟨#[]⟩,.string ⟨#[]⟩,.int .i64 0,.string ⟨#[]⟩,.int .i64 0,.slice none 0 0,.slice none 0 0,.int .i64 0,.int .i64 0,.bool false,.bool false]),12,152):=by kernel_rfl
section
variable (w:World) {ops:Array Oper} {rest:List Oper} {o:Oper} {a:Act} {K:Act → World → Prop} {Q:Exit → Act → World → Prop}
theorem appTry (hgd:o.guard = none) (s x:Operand) (ho:o.op = .call { callee:=.builtin .append,args:=#[s,x],argTypes:=#[54,54] })
    (base:Nat) (A:Option Addr) (n c:Nat) (xs:List TP) (hs:a.eval s = .slice A n c) (hown:Row w base 57 12 A n c (tpcells xs))
    (S:Option Addr) (m d:Nat) (news:List TP) (hx:a.eval x = .slice S m d) (hr:Rd w S m 12 (tpcells news)) (h63:n + m ≤ 549755813888) (hbase:base ≤ w.heap.size)
    (h:∀ A' c' w',Row w' base 57 12 A' (n + m) c' (tpcells (xs ++ news)) → App w w' A c A' c' → wpList Tryz.prog ops Q rest (a.put o.dst (.slice A' (n + m) c')) w'):wpList Tryz.prog ops Q (o :: rest) a w:=by
  refine wpList_plain hgd fun _ hK=>?_
  obtain ⟨i0,hi0,hz0,hz1,hz2⟩:=info_parts Tryz.infoTry
  exact wp_app w s x _ ho _ i0 _ 12 152 Tryz.underlying54 hi0 hz0 hz1 hz2 rfl (by omega) base A n c _ hs hown S m d _ hx hr (tpcells_one news) (by simp only [maxLen]; omega) (by omega) hbase (fun A' c' w' h2 h3=>hK _ _ (h A' c' w' (by rw [tpcells_append]; exact h2) h3))
end
namespace T
def mustR (id:ByteArray):List TP → Bool
  | []=>false
  | t :: r=>if t.id = id then t.done && !t.drop else mustR id r
def must (l:List TP) (id:ByteArray):Bool:=mustR id l.reverse
def laidR (id:ByteArray) (E:O.Ent):List TP → Prop
  | []=>False
  | t :: r=>if t.id = id then t.drop = false ∧ t.p.E = E else laidR id E r
def laid (l:List TP) (id:ByteArray) (E:O.Ent):Prop:=laidR id E l.reverse
theorem take_rev {l:List TP} {j:Nat} (h:j < l.length):(l.take (j + 1)).reverse = l[j] :: (l.take j).reverse:=by
  rw [List.take_succ_eq_append_getElem h,List.reverse_append]
  rfl
end T
set_option maxRecDepth 100000 in
set_option maxHeartbeats 2000000 in
theorem must_any (A:Option Addr) (n c:Nat) (l:List TP) (id:ByteArray) (w:World) (hl:l.length = n) (hn:n ≤ 1099511627776) (hx:Rd w A n 12 (tpcells l)):Calls Tryz.prog 23 #[.slice A n c,.string id] w (RetB w (T.must l id)):=by
  subst hl
  have HX:=Lib.hid hx
  obtain ⟨G,hG⟩:∃ G,T.must l id = G:=⟨_,rfl⟩
  have HG:Hid (T.mustR id l.reverse = G):=Lib.hid hG
  rw [hG]
  clear hx hG
  go_enter Tryz.func23,Tryz.ntmps23
  go_wp2
  go_loopw [5] (fun i wr=>∃ k:Nat,k ≤ l.length ∧ i = .int .i64 ((k:Int) - 1) ∧ T.mustR id (l.take k).reverse = G ∧ Below w.heap.size w wr) (fun i _=>(intOf i + 1).toNat)
  case atStart=>exact ⟨l.length,Nat.le_refl _,by go_num,by rw [List.take_length]; exact HG.out,Below.refl _ _⟩
  case round =>
    obtain ⟨k,hk,rfl,hm,hb⟩:=hrel
    have HB:=Lib.hid hb
    have HM:=Lib.hid hm
    obtain ⟨wo,rfl⟩:∃ wo:World,wo = wr:=⟨_,rfl⟩
    cases k with
    | zero =>
      clear hb hm
      go_wp2
      go_ret
      exact ⟨ret_bool HM.out,HB.out⟩
    | succ j =>
      have hj:j < l.length:=by omega
      obtain ⟨b,o,rfl,hb1,x0,x1,x2,x3,x4,x5,x6,x7,x8,x9,x10,x11⟩:=rd_try (HX.out.below hb) hj rfl
      rw [T.take_rev hj] at hm
      generalize l[j]'hj = t at *
      have e1:(((j + 1:Nat):Int) - 1) = j:=by omega
      rw [e1]
      have hj0:(j:Int) ≥ 0:=by omega
      have HM2:=Lib.hid hm
      clear hb hm HM
      by_cases hid:t.id = id
      · have hib:(t.id.toList == id.toList) = true:=by rw [beq_bytes]; exact decide_eq_true hid
        have HF:Hid ((t.done && !t.drop) = G):=Lib.hid ((if_pos hid).symm.trans HM2.out)
        generalize t.done = dn at *
        generalize t.drop = dr at *
        cases dn <;> cases dr
        all_goals
          go_wp2
          go_ret
          exact ⟨ret_bool HF.out,HB.out⟩
      · have hib:(t.id.toList == id.toList) = false:=by rw [beq_bytes]; exact decide_eq_false hid
        have HF:Hid (T.mustR id (l.take j).reverse = G):=Lib.hid ((if_neg hid).symm.trans HM2.out)
        go_wp2
        go_roundw
        case rel=>exact ⟨j,by omega,by go_num,HF.out,HB.out⟩
        case measure=>simp [intOf]
set_option maxRecDepth 100000 in
set_option maxHeartbeats 4000000 in
theorem could_any (A:Option Addr) (n c:Nat) (l:List TP) (id:ByteArray) (q:EP) (w:World) (hl:l.length = n) (hn:n ≤ 1099511627776) (hfn:q.E.fs.length ≤ 1099511627776) (hbn:q.E.body.length ≤ 1099511627776) (hx:Rd w A n 12 (tpcells l)) (hq:ERd w q) (hr:∀ t ∈ l,ERd w t.p) (hla:T.laid l id q.E) :
    Calls Tryz.prog 22 #[.slice A n c,.string id,q.v] w (RetB w true):=by
  subst hl
  have HX:=Lib.hid hx
  have HQ:=Lib.hid hq
  have HR:=Lib.hid hr
  have HG:Hid (T.laidR id q.E l.reverse):=Lib.hid hla
  have HB0:=Lib.hid ((Below.refl w.heap.size w).alloc (Nat.le_refl _) (.cells #[.string q.E.k,.string q.E.v,.int .i64 q.E.s,.string q.E.r,.int .i64 q.E.m,.slice q.A q.E.fs.length q.c,.slice q.X q.E.body.length q.d,.int .i64 q.E.asked,.int .i64 q.E.got] 28))
  have HK0:=Lib.hid (Blk.new w #[.string q.E.k,.string q.E.v,.int .i64 q.E.s,.string q.E.r,.int .i64 q.E.m,.slice q.A q.E.fs.length q.c,.slice q.X q.E.body.length q.d,.int .i64 q.E.asked,.int .i64 q.E.got] 28)
  obtain ⟨W0,hW0⟩:∃ W0,w.alloc (.cells #[.string q.E.k,.string q.E.v,.int .i64 q.E.s,.string q.E.r,.int .i64 q.E.m,.slice q.A q.E.fs.length q.c,.slice q.X q.E.body.length q.d,.int .i64 q.E.asked,.int .i64 q.E.got] 28) = W0:=⟨_,rfl⟩
  rw [hW0] at HB0 HK0
  clear hx hq hr hla
  unfold EP.v entV
  go_enter Tryz.func22,Tryz.ntmps22
  go_upto_region 2 with fail
  clear hW0
  go_loopw [7] (fun i wr=>∃ k:Nat,k ≤ l.length ∧ i = .int .i64 ((k:Int) - 1) ∧ T.laidR id q.E (l.take k).reverse ∧ Below W0.heap.size W0 wr) (fun i _=>(intOf i + 1).toNat)
  case atStart=>exact ⟨l.length,Nat.le_refl _,by go_num,by rw [List.take_length]; exact HG.out,Below.refl _ _⟩
  case round =>
    obtain ⟨k,hk,rfl,hm,hb⟩:=hrel
    have HB:=Lib.hid hb
    obtain ⟨wo,rfl⟩:∃ wo:World,wo = wr:=⟨_,rfl⟩
    cases k with
    | zero=>exact hm.elim
    | succ j =>
      have hj:j < l.length:=by omega
      have HB2:=Lib.hid (below_then HB0.out.size HB0.out hb)
      obtain ⟨b,o,rfl,hb1,x0,x1,x2,x3,x4,x5,x6,x7,x8,x9,x10,x11⟩:=rd_try (HX.out.below HB2.out) hj rfl
      rw [T.take_rev hj] at hm
      have HT:=Lib.hid (HR.out _ (List.getElem_mem hj))
      generalize l[j]'hj = t at *
      have e1:(((j + 1:Nat):Int) - 1) = j:=by omega
      rw [e1]
      have hj0:(j:Int) ≥ 0:=by omega
      have HM2:=Lib.hid hm
      have HK:=Lib.hid (HK0.out.below hb)
      have HN:=Lib.hid (Blk.new wo #[.string t.id,.string t.p.E.k,.string t.p.E.v,.int .i64 t.p.E.s,.string t.p.E.r,.int .i64 t.p.E.m,.slice t.p.A t.p.E.fs.length t.p.c,.slice t.p.X t.p.E.body.length t.p.d,.int .i64 t.p.E.asked,.int .i64 t.p.E.got,.bool t.drop,.bool t.done] 57)
      have HBN:=Lib.hid (below_then HB2.out.size HB2.out ((Below.refl wo.heap.size wo).alloc (Nat.le_refl _) (.cells #[.string t.id,.string t.p.E.k,.string t.p.E.v,.int .i64 t.p.E.s,.string t.p.E.r,.int .i64 t.p.E.m,.slice t.p.A t.p.E.fs.length t.p.c,.slice t.p.X t.p.E.body.length t.p.d,.int .i64 t.p.E.asked,.int .i64 t.p.E.got,.bool t.drop,.bool t.done] 57)))
      obtain ⟨k0,k1,k2,k3,k4,k5,k6,k7,k8⟩:=(HK.out.alloc (.cells #[.string t.id,.string t.p.E.k,.string t.p.E.v,.int .i64 t.p.E.s,.string t.p.E.r,.int .i64 t.p.E.m,.slice t.p.A t.p.E.fs.length t.p.c,.slice t.p.X t.p.E.body.length t.p.d,.int .i64 t.p.E.asked,.int .i64 t.p.E.got,.bool t.drop,.bool t.done] 57)).cells9
      clear hb hm HG
      by_cases hid:t.id = id
      · have hib:(t.id.toList == id.toList) = true:=by rw [beq_bytes]; exact decide_eq_true hid
        obtain ⟨hdr,hE⟩:t.drop = false ∧ t.p.E = q.E:=(if_pos hid:(if t.id = id then t.drop = false ∧ t.p.E = q.E else _) = _) ▸ HM2.out
        obtain ⟨tid,⟨tE,tA,tc,tX,td⟩,tdr,tdn⟩:=t
        dsimp only at *
        subst hE
        subst hdr
        subst hid
        have h1:=HT.out.below HBN.out
        have h2:=HQ.out.below HBN.out
        have HSE:=Lib.hid (sameEntry_any q.E.k q.E.v q.E.s q.E.r q.E.m tA tc q.E.fs tX td q.E.body q.E.asked q.E.got q.A q.c q.X q.d _ hfn hbn h1.1 h2.1 h1.2 h2.2)
        clear h1 h2
        go_wp2_with fail
        refine HSE.out.mono ?_
        rintro e w5 ⟨rfl,hb5⟩
        have HB5:=Lib.hid (below_then HBN.out.size HBN.out hb5)
        clear hb5 HSE
        go_wp2
        go_ret
        exact ⟨rfl,HB5.out⟩
      · have hib:(t.id.toList == id.toList) = false:=by rw [beq_bytes]; exact decide_eq_false hid
        have HF:Hid (T.laidR id q.E (l.take j).reverse):=Lib.hid (by have:=HM2.out; unfold T.laidR at this; rwa [if_neg hid] at this)
        go_wp2
        go_roundw
        case rel=>exact ⟨j,by omega,by go_num,HF.out,below_then HB.out.size HB.out ((Below.refl wo.heap.size wo).alloc (Nat.le_refl _) _)⟩
        case measure=>simp [intOf]
end Go.Proofs.YtkempjcphpnocaaGreatDoor
