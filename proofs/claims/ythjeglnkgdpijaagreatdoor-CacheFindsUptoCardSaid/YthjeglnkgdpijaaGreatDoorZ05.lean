/- The walk of disk.New without files, with faults: a disk of no file. Arguments opened: a script of the Store laws. Arguments opened: a script of the Cache laws. The walk of vary.Names. The walks of cache's stored and hide. What vary.Key writes with: a strings.Builder of the call's own, strings.Join of a list. Conditions: as each theorem states them. -/
import Derived.Test.YthjeglnkgdpijaaGreatDoorZ04
set_option maxHeartbeats 2000000
set_option maxRecDepth 100000
namespace Go.Proofs.YthjeglnkgdpijaaGreatDoor
open Go Go.RowKit Go.Maps
theorem aHW (A:Option Addr) (n c:Nat) (zs:List Int) (w:World) (hn:n≤1099511627776) (hx:Rd w A n 1 (dS zs)) (hnil:A=none→n=0∧c=0) :
  Calls Tryz.prog 47 #[.slice A n c] w (eP w 3 1 n (dS zs)):=by
 cases A with
 | none =>
  obtain⟨rfl,rfl⟩:=hnil rfl
  have hfs:dS zs=[]:=List.eq_nil_of_length_eq_zero (by simpa using hx.1)
  rw[hfs]
  exact (aCK w).mono (fun e w' h=>⟨none,0,h.1,Row.none_ _ _ _ _,by rw[h.2];exact zB _ _⟩)
 | some ad =>
  have he:=fun w=>Lib.run_eql_slice_nil (P:=Tryz.prog) w 23 _ (some ad) n c (h:=Tryz.underlying23)
  clear hnil
  go_enter Tryz.func47,Tryz.ntmps47
  go_wp2_with (at_builtin;refine appI _ rfl (.tmp 5) (.tmp 6) rfl w.heap.size _ 0 0 [] rfl (Row.empty _ _ _ _ _) (some ad) n c zs rfl (hx.alloc _) (by omega) (by simp) ?_;intro A1 c1 w1 hr1 ha1;simp only[Nat.zero_add,List.nil_append]at hr1)
  go_ret
  exact⟨A1,c1,by simp,hr1,((zB _ _).alloc (zA _) _).trans (ha1.below (Row.empty _ _ 3 1 _) (by simp))⟩
def D.bare (room:Int) (fails:List Int) (power:Int):D.Dsk:=⟨[],[],[],[],[],room,fails,power,0⟩
theorem dD.bare (w w1:World) (room power:Int) (fails:List Int) (FA:Option Addr) (fc:Nat) (a b d:Nat) (ha:w.heap.size≤a) (hB:w.heap.size≤b) (hd:w.heap.size≤d) (hab:a≠b)
  (hN:w1.ownsMap Tryz.prog 9 D.jA a 0 (.map [])) (hS:w1.ownsMap Tryz.prog 9 D.jA b 0 (.map [])) (hF:Row w1 w.heap.size 3 1 FA fails.length fc (dS fails))
  (hk:Blk w1 d #[.map (some a),.map (some b),.slice none 0 0,.int .i64 0,.int .i64 room,.slice FA fails.length fc,.int .i64 power,.int .i64 0] 95) :
  dD w.heap.size ⟨d,a,b,none,0,[],fun _=>0,fun _=>none,fun _=>0,FA,fc⟩ (D.bare room fails power) w1 :=
 ⟨hk,hN,hS,hab,Row.none_ _ _ _ _,trivial,hF,fun _ hn=>absurd hn (Nat.not_lt_zero _),fun _ _ hi=>absurd hi (Nat.not_lt_zero _),⟨hd,ha,hB⟩⟩
def aLB (w:World) (room:Int) (fails:List Int) (power:Int) (e:Ending) (w':World):Prop :=
 (¬ (0≤room∧room≤1073741824)∧e=.returned (.tuple #[.pointer none,.int .i64 131])∧Below w.heap.size w w') ∨
 (0≤room∧room≤1073741824∧∃ M,e=.returned (.tuple #[.pointer (some ⟨M.d,0,none⟩),.int .i64 0])∧dD w.heap.size M (D.bare room fails power) w'∧Below w.heap.size w w')
theorem aMK (FS:Option Addr) (fs:Nat) (A:Option Addr) (c:Nat) (fails:List Int) (room power:Int) (w:World) (hn:fails.length≤1099511627776) (hx:Rd w A fails.length 1 (dS fails)) (hnil:A=none→fails.length=0∧c=0) :
  Calls Tryz.prog 23 #[.slice FS 0 fs,.int .i64 room,.slice A fails.length c,.int .i64 power] w (aLB w room fails power):=by
 by_cases h0:0≤room
 rotate_left
 ·have h0i:room < 0:=by omega
  go_enter Tryz.func23,Tryz.ntmps23
  go_wp2
  go_ret2
  exact .inl ⟨fun h=>by omega,rfl,zB _ _⟩
 by_cases h1:room≤1073741824
 rotate_left
 ·have h1i:room > 1073741824:=by omega
  have h0i:¬ room < 0:=by omega
  go_enter Tryz.func23,Tryz.ntmps23
  go_wp2
  go_ret2
  exact .inl ⟨fun h=>by omega,rfl,zB _ _⟩
 have h0i:¬ room < 0:=by omega
 have h1i:¬ room > 1073741824:=by omega
 have hmm:=@run_makeMap Tryz.prog
 have HCN:=aH (fun u (hu:Below w.heap.size w u)=>aHW A fails.length c fails u hn (hx.below hu) hnil)
 obtain⟨fn,hfn⟩:∃ fn,fails.length=fn:=⟨_,rfl⟩
 rw[hfn]at HCN ⊢
 have HFN:=aH hfn
 clear hfn hn hx hnil
 obtain⟨M0,hM0⟩:∃ M0,w.alloc (.map #[] 0)=M0:=⟨_,rfl⟩
 have hs0:M0.heap.size=w.heap.size+1:=by rw[← hM0];exact bJ ..
 have HN:=aH ((World.ownsMap_made w Tryz.prog 9 D.jA))
 rw[hM0]at HN
 have hb0:Below w.heap.size w M0:=by rw[← hM0];exact (zB _ _).alloc (zA _) _
 have HB0:=aH hb0
 have HS0:=aH hs0
 clear hb0 hs0
 go_enter Tryz.func23,Tryz.ntmps23
 go_wp2_with fail
 clear hmm hM0
 refine (HCN.out M0 HB0.out).mono ?_
 rintro e w1 ⟨FA,fcc,rfl,hrF,hbF⟩
 have HBF:=aH hbF
 have HRF:=aH (hrF.mono HB0.out.size)
 clear hbF hrF HCN
 obtain⟨D0,hD0⟩:∃ D0,D0=w1.alloc (.cells #[.map (some w.heap.size),.map none,.slice none 0 0,.int .i64 0,.int .i64 room,.slice FA fn fcc,.int .i64 power,.int .i64 0] 95):=⟨_,rfl⟩
 have HK:=aH (Blk.new w1 #[.map (some w.heap.size),.map none,.slice none 0 0,.int .i64 0,.int .i64 room,.slice FA fn fcc,.int .i64 power,.int .i64 0] 95)
 rw[← hD0]at HK
 have hbd:Below w1.heap.size w1 D0:=by rw[hD0];exact (zB _ _).alloc (zA _) _
 have hb2:=aA HBF.out.size HBF.out hbd
 have HB1:=aH (aA HB0.out.size HB0.out hb2)
 have HN1:Hid (D0.ownsMap Tryz.prog 9 D.jA w.heap.size 0 (.map [])):=aH (HN.out.kept (show M0.grownBy D0 none from⟨hb2.os,hb2.tape,hb2.output,hb2.size,fun k hk _=>hb2.block k hk⟩) (by simp))
 have HRD:=aH (HRF.out.below hbd)
 have HCL:=aH (yJ ⟨0,0,0,none,0,[],fun _=>0,fun _=>none,fun _=>0,none,0⟩ [] w.heap.size D0 HN1.out)
 have HZ:Hid (w.heap.size+1≤w1.heap.size):=aH (by have:=HS0.out;have:=HBF.out.size;omega)
 clear HN hb2 hbd
 go_upto_region 4 with fail
 simp only[← hD0]
 obtain⟨bd,hbd⟩:∃ bd,w1.heap.size=bd:=⟨_,rfl⟩
 rw[hbd]at HK HZ ⊢
 have z0:D0.cell? ⟨bd,0,none⟩=some (.map (some w.heap.size)):=HK.out.cell 0 rfl
 clear hD0 hbd HBF HRF
 go_wp2
 go_loopw [29] (fun i wr=>i=.int .i64 0∧D0=wr) (fun _ _=>0)
 case atStart=>exact⟨rfl,rfl⟩
 case round =>
 obtain⟨rfl,rfl⟩:=hrel
 go_wp2_with fail
 clear z0
 refine HCL.out.mono ?_
 rintro e w2 ⟨rfl,hm2,hb2,hlt⟩
 have HK2:=aH (HK.out.below hb2)
 have z1:w2.cell? ⟨bd,1,none⟩=some (.map none):=HK2.out.cell 1 rfl
 have f1:=HK2.out.free 1
 have HB2:=aH (aA HB1.out.size HB1.out hb2)
 have hge:w.heap.size < D0.heap.size:=HN1.out.lt
 have hg1:=aT w2 bd 1 (.map (some D0.heap.size))
 have hT:=HK2.out.tag
 have HN2:=aH ((HN1.out.kept (show D0.grownBy w2 none from⟨hb2.os,hb2.tape,hb2.output,hb2.size,fun k hk _=>hb2.block k hk⟩) (by simp)).kept hg1 (fun e=>absurd (show bd=w.heap.size by simpa using e.symm) (by have:=HZ.out;omega)))
 have HS2:=aH (hm2.kept hg1 (fun e=>hT.map (aC hm2) (by simpa using e.symm)))
 have HR2:=aH ((HRD.out.below hb2).keptG hg1 (fun k hk e=>((HRD.out.below hb2).tag hk).ne hT (by decide) (by simpa using e.symm)))
 have HK3:=aH (HK2.out.set 1 (.map (some D0.heap.size)))
 have HB3:=aH (aK HB2.out (b:=bd) (by have:=HZ.out;omega) 1 (.map (some D0.heap.size)))
 clear hm2 hb2 hg1 HN1 HCL HK HB1 HRD
 go_wp2
 go_ret2
 refine .inr ⟨h0,h1,_,rfl,dD.bare w _ room power fails FA fcc w.heap.size D0.heap.size bd (zA _) (Nat.le_of_lt hge) (by have:=HZ.out;omega) (by omega) HN2.out HS2.out (by rw[HFN.out];exact HR2.out) ?_,HB3.out⟩
 rw[HFN.out]
 exact HK3.out
end Go.Proofs.YthjeglnkgdpijaaGreatDoor
namespace Go.Proofs.YthjeglnkgdpijaaGreatDoor
open Go.ChangeShapes Go.WideShapes Go.ChangeAt Go.RowKit Go.Deep
section
variable {H:Type} {enc:TypeId × Value→H} {W:World} {base:Nat} {held:Bool}
def ec (p:EP):List Value:=[.string p.E.k,.string p.E.v,.int .i64 p.E.s,.string p.E.r,.int .i64 p.E.m,.slice p.A p.E.fs.length p.c,.slice p.X p.E.body.length p.d,.int .i64 p.E.asked,.int .i64 p.E.got]
def EP.bulk (p:EP):Nat:=F.bulk p.E.fs+p.E.k.size+p.E.v.size+p.E.r.size+p.E.body.length
theorem aEE {fuel:Nat} {cs:List Value} {x:DataW H × List MemPlace} (h:DataW.trod enc Tryz.prog W base (fun _=>true) held fuel 41 cs=some x):∃ p:EP,cs=ec p∧ERd W p∧p.bulk≤Rows.uptoBulk x.1:=by
 obtain⟨xs,n,rfl,hx,hlc,hxl,hall⟩:=DataW.trod_struct aNC h
 rw[uQ]at hlc
 obtain⟨a0,a1,a2,a3,a4,a5,a6,a7,a8,rfl⟩:∃ a0 a1 a2 a3 a4 a5 a6 a7 a8,cs=[a0,a1,a2,a3,a4,a5,a6,a7,a8]:=by
  match cs,hlc with
  | [a0,a1,a2,a3,a4,a5,a6,a7,a8],_=>exact⟨a0,a1,a2,a3,a4,a5,a6,a7,a8,rfl⟩
 obtain⟨c1,c2,c3,c4⟩:=cells_one
 obtain⟨g0,e0,t0,o0⟩:=bQ jQ 0 _ _ rfl
 obtain⟨g1,e1,t1,o1⟩:=bQ jQ 1 _ _ rfl
 obtain⟨g2,e2,t2,o2⟩:=bQ jQ 2 _ _ rfl
 obtain⟨g3,e3,t3,o3⟩:=bQ jQ 3 _ _ rfl
 obtain⟨g4,e4,t4,o4⟩:=bQ jQ 4 _ _ rfl
 obtain⟨g5,e5,t5,o5⟩:=bQ jQ 5 _ _ rfl
 have h0:=hall 0 g0 e0
 have h1:=hall 1 g1 e1
 have h2:=hall 2 g2 e2
 have h3:=hall 3 g3 e3
 have h4:=hall 4 g4 e4
 have h5:=hall 5 g5 e5
 rw[t0,o0,c1]at h0
 rw[t1,o1,c1]at h1
 rw[t2,o2,aGO]at h2
 rw[t3,o3,c3]at h3
 rw[t4,o4,c2]at h4
 rw[t5,o5,c2]at h5
 have hz:(Tryz.prog.fieldsOf 41).size=6:=by have:=congrArg Array.size jQ;simpa using this
 rw[hz]at hxl
 obtain⟨y0,y1,y2,y3,y4,y5,rfl⟩:∃ y0 y1 y2 y3 y4 y5,xs=[y0,y1,y2,y3,y4,y5]:=by
  match xs,hxl with
  | [y0,y1,y2,y3,y4,y5],_=>exact⟨y0,y1,y2,y3,y4,y5,rfl⟩
 change DataW.trod _ _ _ _ _ _ _ _ [a0]=some y0 at h0
 change DataW.trod _ _ _ _ _ _ _ _ [a1]=some y1 at h1
 change DataW.trod _ _ _ _ _ _ _ _ [a2,a3,a4,a5]=some y2 at h2
 change DataW.trod _ _ _ _ _ _ _ _ [a6]=some y3 at h3
 change DataW.trod _ _ _ _ _ _ _ _ [a7]=some y4 at h4
 change DataW.trod _ _ _ _ _ _ _ _ [a8]=some y5 at h5
 obtain⟨zs,n2,rfl,hzx,_,hzl,hall2⟩:=DataW.trod_struct aPJ h2
 have hz2:(Tryz.prog.fieldsOf 38).size=4:=aPI
 rw[hz2]at hzl
 obtain⟨z0,z1,z2,z3,rfl⟩:∃ z0 z1 z2 z3,zs=[z0,z1,z2,z3]:=by
  match zs,hzl with
  | [z0,z1,z2,z3],_=>exact⟨z0,z1,z2,z3,rfl⟩
 obtain⟨q0,f0,u0,p0⟩:=bQ rP 0 _ _ rfl
 obtain⟨q1,f1,u1,p1⟩:=bQ rP 1 _ _ rfl
 obtain⟨q2,f2,u2,p2⟩:=bQ rP 2 _ _ rfl
 obtain⟨q3,f3,u3,p3⟩:=bQ rP 3 _ _ rfl
 have k0:=hall2 0 q0 f0
 have k1:=hall2 1 q1 f1
 have k2:=hall2 2 q2 f2
 have k3:=hall2 3 q3 f3
 rw[u0,p0,c2]at k0
 rw[u1,p1,c1]at k1
 rw[u2,p2,c2]at k2
 rw[u3,p3,c4]at k3
 change DataW.trod _ _ _ _ _ _ _ _ [a2]=some z0 at k0
 change DataW.trod _ _ _ _ _ _ _ _ [a3]=some z1 at k1
 change DataW.trod _ _ _ _ _ _ _ _ [a4]=some z2 at k2
 change DataW.trod _ _ _ _ _ _ _ _ [a5]=some z3 at k3
 obtain⟨k,r0,rfl,_⟩:=DataW.trod_string Tryz.underlying9 h0
 obtain⟨u,r1,rfl,_⟩:=DataW.trod_string Tryz.underlying9 h1
 obtain⟨s,r2,rfl,_⟩:=DataW.trod_int Tryz.underlying3 k0
 obtain⟨r,r3,rfl,_⟩:=DataW.trod_string Tryz.underlying9 k1
 obtain⟨m,r4,rfl,_⟩:=DataW.trod_int Tryz.underlying3 k2
 obtain⟨asked,r5,rfl,_⟩:=DataW.trod_int Tryz.underlying3 h4
 obtain⟨got,r6,rfl,_⟩:=DataW.trod_int Tryz.underlying3 h5
 obtain⟨A,na,ca,rfl⟩:=sV k3
 obtain⟨fs,l1,l2,l3,_⟩:=kK k3
 simp only[List.cons.injEq,and_true]at r0 r1 r2 r3 r4 r5 r6
 subst r0 r1 r2 r3 r4 r5 r6
 obtain⟨X,nb,cb,rfl⟩:=aA7 h3
 obtain⟨body,m1,m2,_,m4,_⟩:=aEF h3
 have hd:x.1=.agg _:=congrArg Prod.fst hx
 have hy:y2.1=.agg _:=congrArg Prod.fst hzx
 subst l1 m1
 refine⟨⟨⟨k,u,s,r,m,fs,body,asked,got⟩,A,ca,X,cb⟩,rfl,⟨l2,m2⟩,?_⟩
 rw[hd]
 unfold EP.bulk
 simp only[List.map_cons,List.map_nil,hy,Rows.uptoBulk,Rows.uptoBulkAll,Array.length_toList]
 have:k.size=k.data.size:=rfl
 have:u.size=u.data.size:=rfl
 have:r.size=r.data.size:=rfl
 omega
end
structure SQ where
 what:Int
 p:EP
 key:ByteArray
 Y:Option Addr
 cy:Nat
 ask:List FD
def SQ.c (q:SQ):List Value:=.int .i64 q.what::(ec q.p++[.string q.key,.slice q.Y q.ask.length q.cy])
def SQ.bulk (q:SQ):Nat:=q.p.bulk+q.key.size+F.bulk q.ask
def eG (l:List SQ):List Value:=l.flatMap SQ.c
theorem jI (l:List SQ):(eG l).length=l.length * 12:=by
 induction l with
 | nil=>rfl
 | cons q t ih =>
  have e:eG (q::t)=q.c++eG t:=rfl
  rw[e,bC,ih,List.length_cons,show q.c.length=12 from rfl]
  omega
theorem oG:∀ (l:List SQ) (i j:Nat) (h:i < l.length),j < 12→(eG l)[i * 12+j]?=(l[i].c)[j]?
 | q::t,0,j,_,hj=>by
  have e:eG (q::t)=q.c++eG t:=rfl
  rw[e,List.getElem?_append_left (by rw[show q.c.length=12 from rfl];omega)]
  simp
 | q::t,i+1,j,h,hj=>by
  have e:eG (q::t)=q.c++eG t:=rfl
  have hl:q.c.length=12:=rfl
  rw[e,List.getElem?_append_right (by rw[hl];omega),hl,show (i+1) * 12+j - 12=i * 12+j by omega,oG t i j (by simpa using h) hj]
  simp
theorem aL2:Tryz.prog.underlying 43=some (.struct (Tryz.prog.fieldsOf 43)):=by kernel_rfl
theorem sQ:Tryz.prog.cellsOf 43=12:=by kernel_rfl
theorem mQ:(Tryz.prog.fieldsOf 43).map (fun f=>(f.type,f.offset))=#[(3,0),(41,1),(9,10),(27,11)]:=by kernel_rfl
section
variable {H:Type} {enc:TypeId × Value→H} {W:World} {base:Nat} {held:Bool}
theorem aQH {fuel:Nat} {cs:List Value} {x:DataW H × List MemPlace} (h:DataW.trod enc Tryz.prog W base (fun _=>true) held fuel 43 cs=some x):∃ q:SQ,cs=q.c∧ERd W q.p∧Rd W q.Y q.ask.length 2 (aJ q.ask)∧q.bulk+1≤Rows.uptoBulk x.1:=by
 obtain⟨xs,n,rfl,hx,hlc,hxl,hall⟩:=DataW.trod_struct aL2 h
 rw[sQ]at hlc
 obtain⟨a0,a1,a2,a3,a4,a5,a6,a7,a8,a9,a10,a11,rfl⟩:∃ a0 a1 a2 a3 a4 a5 a6 a7 a8 a9 a10 a11,cs=[a0,a1,a2,a3,a4,a5,a6,a7,a8,a9,a10,a11]:=by
  match cs,hlc with
  | [a0,a1,a2,a3,a4,a5,a6,a7,a8,a9,a10,a11],_=>exact⟨a0,a1,a2,a3,a4,a5,a6,a7,a8,a9,a10,a11,rfl⟩
 obtain⟨c1,c2,c3,c4⟩:=cells_one
 obtain⟨g0,e0,t0,o0⟩:=bQ mQ 0 _ _ rfl
 obtain⟨g1,e1,t1,o1⟩:=bQ mQ 1 _ _ rfl
 obtain⟨g2,e2,t2,o2⟩:=bQ mQ 2 _ _ rfl
 obtain⟨g3,e3,t3,o3⟩:=bQ mQ 3 _ _ rfl
 have h0:=hall 0 g0 e0
 have h1:=hall 1 g1 e1
 have h2:=hall 2 g2 e2
 have h3:=hall 3 g3 e3
 rw[t0,o0,c2]at h0
 rw[t1,o1,uQ]at h1
 rw[t2,o2,c1]at h2
 rw[t3,o3,c4]at h3
 have hz:(Tryz.prog.fieldsOf 43).size=4:=by have:=congrArg Array.size mQ;simpa using this
 rw[hz]at hxl
 obtain⟨y0,y1,y2,y3,rfl⟩:∃ y0 y1 y2 y3,xs=[y0,y1,y2,y3]:=by
  match xs,hxl with
  | [y0,y1,y2,y3],_=>exact⟨y0,y1,y2,y3,rfl⟩
 change DataW.trod _ _ _ _ _ _ _ _ [a0]=some y0 at h0
 change DataW.trod _ _ _ _ _ _ _ _ [a1,a2,a3,a4,a5,a6,a7,a8,a9]=some y1 at h1
 change DataW.trod _ _ _ _ _ _ _ _ [a10]=some y2 at h2
 change DataW.trod _ _ _ _ _ _ _ _ [a11]=some y3 at h3
 obtain⟨m,r0,rfl,_⟩:=DataW.trod_int Tryz.underlying3 h0
 obtain⟨p,hp,hr,hb⟩:=aEE h1
 obtain⟨k,r1,rfl,_⟩:=DataW.trod_string Tryz.underlying9 h2
 obtain⟨Y,ny,cy,rfl⟩:=sV h3
 obtain⟨ask,l1,l2,l3,_⟩:=kK h3
 simp only[List.cons.injEq,and_true]at r0 r1
 subst r0 r1 l1
 have hd:x.1=.agg _:=congrArg Prod.fst hx
 refine⟨⟨m,p,k,Y,cy,ask⟩,?_,hr,l2,?_⟩
 ·unfold SQ.c
  rw[← hp]
  rfl
 ·rw[hd]
  unfold SQ.bulk
  simp only[List.map_cons,List.map_nil,Rows.uptoBulk,Rows.uptoBulkAll,Array.length_toList]
  have:k.size=k.data.size:=rfl
  omega
theorem aPN {A:Addr} {n:Nat} {l:List SQ} (hl:l.length=n) (h:∀ i (hi:i < l.length),∀ j,j < 12→W.cell? ((A.add (i * 12)).add j)=((l[i]'hi).c)[j]?):Rd W (some A) n 12 (eG l):=by
 refine⟨by rw[jI,hl],fun hn=>?_⟩
 have h0:=h 0 (by omega) 0 (by omega)
 have h00:W.cell? ((A.add (0 * 12)).add 0)=some (.int .i64 (l[0]'(by omega)).what):=h0
 have hspot:((A.add (0 * 12)).add 0).spot=none:=World.cell?_spot h00
 obtain⟨b,o,sp⟩:=A
 have:sp=none:=by cases sp<;>simp_all [Addr.add]
 subst this
 have ea:∀ k,(⟨b,o,none⟩:Addr).add k=⟨b,o+k,none⟩:=fun k=>by unfold Addr.add;split<;>simp_all
 have eb:∀ o k,(⟨b,o,none⟩:Addr).add k=⟨b,o+k,none⟩:=fun o k=>by unfold Addr.add;split<;>simp_all
 refine⟨b,o,rfl,?_,fun j u hu=>?_⟩
 ·have:=World.block_lt_of_cell? W _ h00
  rw[ea,eb]at this
  exact this
 have hj:j < l.length * 12:=by rw[← jI];exact (List.getElem?_eq_some_iff.1 hu).1
 have hjj:j / 12 * 12+j % 12=j:=by omega
 have h1:=h (j / 12) (by omega) (j % 12) (by omega)
 rw[ea,eb,Nat.add_assoc,hjj]at h1
 rw[h1,← oG l (j / 12) (j % 12) (by omega) (by omega),hjj]
 exact hu
theorem aOQ {D:Nat→DataW H} {g:Nat→SQ}:∀ l:List Nat,(∀ i∈l,(g i).bulk+1≤Rows.uptoBulk (D i))→l.length≤Rows.uptoBulkAll (l.map D)∧∀ i∈l,(g i).bulk≤Rows.uptoBulkAll (l.map D)
 | [],_=>⟨by simp,by simp⟩
 | i::l,h=>by
  have h1:=h i (by simp)
  obtain⟨h2,h3⟩:=aOQ l (fun j hj=>h j (by simp [hj]))
  simp only[List.map_cons,List.length_cons,Rows.uptoBulkAll]
  refine⟨by omega,fun j hj=>?_⟩
  rcases List.mem_cons.1 hj with rfl | hj
  ·omega
  ·have:=h3 j hj
   omega
theorem xE:Tryz.prog.underlying 26=some (.slice 43):=by kernel_rfl
theorem aCL {A:Option Addr} {n c:Nat} {fuel:Nat} {x:DataW H × List MemPlace} (h:DataW.trod enc Tryz.prog W base (fun _=>true) held fuel 26 [.slice A n c]=some x) :
  ∃ l:List SQ,l.length=n∧Rd W A n 12 (eG l)∧n≤c∧(A=none→n=0)∧(∀ q∈l,ERd W q.p∧Rd W q.Y q.ask.length 2 (aJ q.ask))∧(∀ q∈l,q.bulk≤Rows.uptoBulk x.1)∧l.length≤Rows.uptoBulk x.1:=by
 rcases open_slice xE h with ⟨h0,rfl⟩ | ⟨a,len,cap,m,k,D,Pl,hcs,_,hl,hm,hmm,rfl,hi⟩
 ·simp only[List.cons.injEq,Value.slice.injEq,and_true]at h0
  obtain⟨rfl,rfl,rfl⟩:=h0
  exact⟨[],rfl,Rd.nil _ _ _,zA _,fun _=>rfl,(fun _ h=>by cases h),(fun _ h=>by cases h),zF _⟩
 ·simp only[List.cons.injEq,Value.slice.injEq,and_true]at hcs
  obtain⟨rfl,rfl,rfl⟩:=hcs
  simp only[if_true]at hmm
  subst hmm
  have each:∀ i,∃ q:SQ,i < n→(∀ j,j < 12→W.cell? ((a.add (i * 12)).add j)=(q.c)[j]?)∧(ERd W q.p∧Rd W q.Y q.ask.length 2 (aJ q.ask))∧q.bulk+1≤Rows.uptoBulk (D i):=by
   intro i
   by_cases hin:i < n
   ·obtain⟨cs',hc,ht⟩:=hi i (by omega)
    rw[sQ]at hc
    obtain⟨q,rfl,hr,hy,hb⟩:=aQH ht
    obtain⟨_,_,hat⟩:=World.cells?_some hc
    refine⟨q,fun _=>⟨fun j hj=>?_,⟨hr,hy⟩,hb⟩⟩
    have hjl:j < q.c.length:=hj
    have:=hat j hjl
    rw[this,List.getElem?_eq_getElem hjl]
   ·exact⟨⟨0,⟨⟨⟨#[]⟩,⟨#[]⟩,0,⟨#[]⟩,0,[],[],0,0⟩,none,0,none,0⟩,⟨#[]⟩,none,0,[]⟩,fun h=>absurd h hin⟩
  obtain⟨g,hg⟩:∃ g:Nat→SQ,∀ i,i < n→(∀ j,j < 12→W.cell? ((a.add (i * 12)).add j)=((g i).c)[j]?)∧(ERd W (g i).p∧Rd W (g i).Y (g i).ask.length 2 (aJ (g i).ask))∧(g i).bulk+1≤Rows.uptoBulk (D i) :=
   ⟨fun i=>(each i).choose,fun i=>(each i).choose_spec⟩
  obtain⟨b1,b2⟩:=aOQ (D:=D) (g:=g) (List.range n) (fun i hi=>(hg i (List.mem_range.1 hi)).2.2)
  refine⟨(List.range n).map g,by simp,aPN (by simp) (fun i hi j hj=>?_),hl,(fun h=>by cases h),fun q hq=>?_,fun q hq=>?_,?_⟩
  ·rw[List.length_map,List.length_range]at hi
   simp only[List.getElem_map,List.getElem_range]
   exact (hg i hi).1 j hj
  ·obtain⟨i,hi,rfl⟩:=List.mem_map.1 hq
   exact (hg i (List.mem_range.1 hi)).2.1
  ·obtain⟨i,hi,rfl⟩:=List.mem_map.1 hq
   have:=b2 i hi
   simp only[Rows.uptoBulk]
   omega
  ·simp only[Rows.uptoBulk,List.length_map]
   omega
theorem open_script {r:Reach} {b0:Nat} {v:Value} {d:DataW H} {p:List MemPlace} (hv:Value.okWide Tryz.prog W r b0 26 v) (h:DataW.Trod enc Tryz.prog W base (fun _=>true) held 26 v d p) :
  ∃ A n c l,v=.slice A n c∧l.length=n∧Rd W A n 12 (eG l)∧n≤c∧(A=none→n=0)∧(∀ q∈l,ERd W q.p∧Rd W q.Y q.ask.length 2 (aJ q.ask))∧(∀ q∈l,q.bulk≤Rows.uptoBulk d)∧l.length≤Rows.uptoBulk d:=by
 obtain⟨A,n,c,rfl⟩:=okWide_slice xE hv
 obtain⟨fuel,hf⟩:=h
 obtain⟨l,h⟩:=aCL (A:=A) (n:=n) (c:=c) hf
 exact⟨A,n,c,l,rfl,h⟩
end
end Go.Proofs.YthjeglnkgdpijaaGreatDoor
namespace Go.Proofs.YthjeglnkgdpijaaGreatDoor
open Go Go.RowKit
namespace V
def vary:ByteArray:=⟨#[86,97,114,121]⟩
def star:ByteArray:=⟨#[42]⟩
def has (l:List ByteArray) (x:ByteArray):Bool:=l.any fun y=>decide (y=x)
theorem has_iff {l:List ByteArray} {x:ByteArray}:has l x=true↔x∈l:=by
 unfold has
 rw[List.any_eq_true]
 exact⟨fun⟨y,h1,h2⟩=>by rw[← of_decide_eq_true h2];exact h1,fun h=>⟨x,h,decide_eq_true rfl⟩⟩
def names (fs:List FD):Option (List ByteArray):=if has (F.tokens fs vary) star=true then none else some (setB (F.tokens fs vary))
end V
theorem kJ (A:Option Addr) (n c:Nat) (xs:List ByteArray) (x:ByteArray) (w:World) (h:Rd w A n 1 (aF xs)) (hn:n≤1099511627776) :
  Calls Tryz.prog 67 #[.slice A n c,.string x] w (fun e w'=>e=.returned (.bool (V.has xs x))∧w'=w):=by
 have hl:xs.length=n:=by
  have:=h.1
  unfold aF at this
  rw[List.length_map]at this
  omega
 rcases Nat.eq_zero_or_pos n with rfl | h0
 ·have hx:xs=[]:=List.length_eq_zero_iff.1 hl
  subst hx
  refine (Tryz.slices_Contains_string_empty A c x w).mono ?_
  rintro e w' ⟨rfl,rfl⟩
  exact⟨rfl,rfl⟩
 ·obtain⟨b,o,rfl,hlt,hc⟩:=h.2 h0
  refine (Tryz.slices_Contains_string b o n c xs x w (by omega) (by omega) (fun j hj=>hc j _ ?_)).mono ?_
  ·unfold aF
   rw[List.getElem?_map,List.getElem?_eq_getElem hj,List.getD_eq_getElem?_getD,List.getElem?_eq_getElem hj]
   rfl
  ·rintro e w' ⟨rfl,rfl⟩
   refine⟨?_,rfl⟩
   rw[List.take_of_length_le (by omega)]
   congr 2
   have:=Lib.containsS_iff xs x
   cases hb:V.has xs x with
   | true=>exact this.2 (V.has_iff.1 hb)
   | false =>
    cases hc:Lib.containsS xs x with
    | false=>rfl
    | true=>rw[V.has_iff.2 (this.1 hc)]at hb;cases hb
def aOB (fs:List FD) (w:World) (e:Ending) (w':World):Prop:=Below w.heap.size w w'∧match V.names fs with
 | none=>e=.returned (.tuple #[.slice none 0 0,.bool false])
 | some l=>∃ A c,e=.returned (.tuple #[.slice A l.length c,.bool true])∧Row w' w.heap.size 9 1 A l.length c (aF l)
theorem aJE (X:Option Addr) (n d:Nat) (fs:List FD) (w:World) (hn:n≤1099511627776) (hl:fs.length=n) (hf:qQ fs) (htot:(F.tokens fs V.vary).length≤1099511627776) (hx:Rd w X n 2 (aJ fs)) :
  Calls Tryz.prog 39 #[.slice X n d] w (aOB fs w):=by
 have HT:=aH (aGC X n d fs V.vary w hn hl hf (by decide) htot hx)
 unfold V.vary at HT htot
 obtain⟨ts,hts⟩:∃ ts,F.tokens fs V.vary=ts:=⟨_,rfl⟩
 have HTS:=aH hts
 unfold V.vary at hts
 rw[hts]at HT htot
 clear hl hf hx hts
 go_enter Tryz.func39,Tryz.ntmps39
 go_wp2_with fail
 refine HT.out.mono ?_
 rintro e w1 ⟨A,c,rfl,hr,hb⟩
 have HR:=aH hr
 have HB:=aH hb
 have HC:=aH (kJ A ts.length c ts V.star w1 hr.rd htot)
 unfold V.star at HC
 clear hr hb HT
 go_wp2_with fail
 refine HC.out.mono ?_
 rintro e w2 ⟨rfl,rfl⟩
 by_cases hs:V.has ts V.star=true
 ·have hs2:V.has ts ⟨#[42]⟩=true:=hs
  have HS:=aH hs
  clear hs
  rw[hs2]
  go_wp2
  go_ret2
  refine⟨HB.out,?_⟩
  unfold V.names
  rw[HTS.out,if_pos HS.out]
  rfl
 ·have hs2:V.has ts ⟨#[42]⟩=false:=Bool.eq_false_iff.2 hs
  have HS:=aH hs
  clear hs
  rw[hs2]
  have HSO:=aH (sS w.heap.size A ts.length c ts w2 HR.out htot)
  have hsl:=sU ts
  go_wp2_with fail
  refine HSO.out.mono ?_
  rintro e w3 ⟨rfl,hr3,hg3⟩
  rw[← hsl]at hr3
  have HCO:=aH (lK w.heap.size A (sortB ts).length c (sortB ts) w3 hr3 (by omega))
  rw[hsl]at HCO
  have HB3:=aH (HB.out.grown hg3 HB.out.size (fun k hk=>(HR.out.lt k hk).1))
  have HR3:=aH hr3
  clear hr3 hg3 hsl
  go_wp2_with fail
  refine HCO.out.mono ?_
  rintro e w4 ⟨rfl,hr4,hg4⟩
  have HB4:=aH (HB3.out.grown hg4 HB3.out.size (fun k hk=>(HR3.out.lt k hk).1))
  have HR4:=aH hr4
  clear hr4 hg4
  go_wp2
  go_ret2
  refine⟨HB4.out,?_⟩
  unfold V.names
  rw[HTS.out,if_neg HS.out]
  exact⟨A,c,rfl,HR4.out⟩
open Go.Maps
namespace C
structure Fine (m:Nat) (s:S.Sto):Prop where
 fit:D.Fit m s.d
 up:D.Up s.tab
 len:s.tab.length≤262144
 sz:∀ p∈s.tab,p.1.size≤1048576
 no:∀ p∈s.tab,p.2 < s.used.length
 used:s.used.length≤4096
 cnt:s.count≤549755813888
def stored (a:CSt) (id:ByteArray):Bool:=match a.s with
 | some s=>V.has s.ids id
 | none=>false
def hide (a:CSt) (id:ByteArray) (yes:Bool):CSt:={ a with hd:=if (yes&&stored a id)=true then D.put a.hd id 0 else D.del a.hd id }
end C
theorem oC (B room:Nat) (Z:CM) (a:CSt) (id:ByteArray) (m:Nat) (w:World) (h:CAt B room Z a w) (hf:∀ s,a.s=some s→C.Fine m s) :
  Calls Tryz.prog 30 #[.pointer (some ⟨Z.c,0,none⟩),.string id] w (qP w (C.stored a id)):=by
 obtain⟨y0,y1,y2⟩:=h.cells
 cases hs:a.s with
 | none =>
  rw[hs]at y0
  dsimp only[Option.map]at y0
  have HV:Hid (C.stored a id=false):=aH (by unfold C.stored;rw[hs])
  clear h hf hs y1 y2
  go_enter Tryz.func30,Tryz.ntmps30
  go_wp2_with fail
  all_goals (go_ret;exact⟨aQ HV.out.symm,zB _ _⟩)
 | some s =>
  rw[hs]at y0
  dsimp only[Option.map]at y0
  have HV:Hid (C.stored a id=V.has s.ids id):=aH (by unfold C.stored;rw[hs])
  have hl:s.ids.length=s.tab.length:=by unfold S.Sto.ids;rw[List.length_map]
  have hl2:=(hf s hs).len
  have HI:=aH (zS B Z.X s w (h.sto s hs) (hf s hs).up (by omega))
  have HL:Hid (s.ids.length≤1099511627776):=aH (by omega)
  clear h hf hs y1 y2 hl hl2
  go_enter Tryz.func30,Tryz.ntmps30
  go_wp2_with fail
  refine HI.out.mono ?_
  rintro e w1 ⟨A,c,rfl,hr,hb⟩
  have HC:=aH (kJ A s.ids.length c s.ids id w1 hr.rd HL.out)
  have HB:=aH hb
  clear hr hb HI y0
  go_wp2_with fail
  refine HC.out.mono ?_
  rintro e w2 ⟨rfl,rfl⟩
  go_wp2
  go_ret
  exact⟨aQ HV.out.symm,HB.out⟩
theorem zW (B room:Nat) (Z:CM) (a:CSt) (id:ByteArray) (yes:Bool) (m:Nat) (w:World) (h:CAt B room Z a w) (hf:∀ s,a.s=some s→C.Fine m s) (hi:id.size≤1073741824) (hd:a.hd.length≤1073741824) :
  Calls Tryz.prog 32 #[.pointer (some ⟨Z.c,0,none⟩),.string id,.bool yes] w (fun e w'=>e=.returned (.tuple #[])∧CAt B room Z (C.hide a id yes) w'∧aO (Z.foot a) w (Z.foot (C.hide a id yes)) w'):=by
 have HST:=aH (oC B room Z a id m w h hf)
 have HH:=aH h
 obtain⟨y0,y1,y2⟩:=h.cells
 have HDEL:Hid (∀ u u',CAt B room Z a u→aO (Z.foot a) w (Z.foot a) u→(yes&&C.stored a id)=false→(∃ n,u'.ownsMap Tryz.prog 9 qR Z.hm n (D.aAH (D.del a.hd id)))→u.grownBy u' (some Z.hm)→CAt B room Z (C.hide a id yes) u'∧aO (Z.foot a) w (Z.foot (C.hide a id yes)) u'):=aH (fun u u' h1 h2 h3 h4 h5=>by
  obtain⟨n,h4⟩:=h4
  obtain⟨q1,q2⟩:=h1.hides (wX h4) (D.qB h1.up _) h5
  unfold C.hide
  rw[h3]
  exact⟨q1,h2.trans q2⟩)
 cases yes with
 | false =>
  clear h hf HST
  go_enter Tryz.func32,Tryz.ntmps32
  go_wp2_with (at_delete;refine wpList_delete_own _ rfl _ _ 74 9 rfl 88 (string_keyed dA) aAS qR Z.hm a.hd.length (D.aAH a.hd) rfl HH.out.hid (.string id) (D.key id) rfl (jU id (by simp only[maxLen];omega)) ?_;intro w9 hown9 hturn9)
  all_goals
   rw[D.aAG]at hown9
   obtain⟨q1,q2⟩:=HDEL.out w w9 HH.out (aO.refl _ _) rfl ⟨_,hown9⟩ hturn9.grown
   go_end0
   exact⟨rfl,q1,q2⟩
 | true =>
  clear h hf
  go_enter Tryz.func32,Tryz.ntmps32
  go_wp2_with fail
  refine HST.out.mono ?_
  rintro e w1 ⟨rfl,hb⟩
  have H1:=aH (HH.out.below hb)
  have HW1:=aH (aO.below hb (Z.foot a))
  obtain⟨v0,v1,v2⟩:=H1.out.cells
  clear hb HST y0 y1 y2
  cases hs:C.stored a id with
  | true =>
   have HS:=aH hs
   clear hs
   go_wp2_with (at_mapUpdate;refine wpList_mapUpdate_own _ rfl _ _ _ 74 rfl 9 88 (string_keyed dA) aAS qR Z.hm a.hd.length (D.aAH a.hd) rfl H1.out.hid (by simp only[maxLen];omega) (.string id) (.agg #[]) (D.key id) rfl rfl (jU id (by simp only[maxLen];omega)) (.agg []) [] unitElem_mk ?_;intro w9 hown9 hgrow9)
   rw[D.aNM _ _ 0]at hown9
   obtain⟨q1,q2⟩:=H1.out.hides (wX hown9) (D.qA H1.out.up _ _) hgrow9
   have hh:C.hide a id true={ a with hd:=D.put a.hd id 0 }:=by unfold C.hide;rw[HS.out];rfl
   go_end0
   rw[hh]
   exact⟨rfl,q1,HW1.out.trans q2⟩
  | false =>
   have HS:=aH hs
   clear hs
   go_wp2_with (at_delete;refine wpList_delete_own _ rfl _ _ 74 9 rfl 88 (string_keyed dA) aAS qR Z.hm a.hd.length (D.aAH a.hd) rfl H1.out.hid (.string id) (D.key id) rfl (jU id (by simp only[maxLen];omega)) ?_;intro w9 hown9 hturn9)
   rw[D.aAG]at hown9
   obtain⟨q1,q2⟩:=HDEL.out w1 w9 H1.out HW1.out (by rw[HS.out];rfl) ⟨_,hown9⟩ hturn9.grown
   go_end0
   exact⟨rfl,q1,q2⟩
end Go.Proofs.YthjeglnkgdpijaaGreatDoor
namespace Go.Proofs.YthjeglnkgdpijaaGreatDoor
open Go Go.RowKit
namespace V
def elems (ask:List FD) (nm:ByteArray):List ByteArray:=(F.values ask nm).flatMap F.list
def line (ask:List FD) (nm:ByteArray):List UInt8:=T.fold (L nm)++((if F.values ask nm=[] then [] else 58::Lib.join ((elems ask nm).map L) [44])++[10])
def key (names:List ByteArray) (ask:List FD):List UInt8:=names.flatMap (line ask)
end V
def Bld (w:World) (b:Nat) (l:List UInt8) (u:World):Prop:=Lib.IsBuilder 140 5 b b (Lib.byteCells l) u∧Below b w u∧b≤u.heap.size
section
variable {w u v:World} {b:Nat} {l:List UInt8}
theorem Bld.below (h:Bld w b l u) (hb:Below u.heap.size u v):Bld w b l v:=by
 refine⟨?_,aA h.2.2 h.2.1 hb,bD h.2.2 hb.size⟩
 have hk:∀ {p:Value},Lib.BuilderAt 140 5 b b p (Lib.byteCells l) u→Lib.BuilderAt 140 5 b b p (Lib.byteCells l) v:=fun {p} ⟨h1,x,h2,h3,h4⟩ =>
  ⟨h1,x,(hb.block b (Array.getElem?_eq_some_iff.1 h2).1).trans h2,h3.kept (row:=none) ⟨hb.os,hb.tape,hb.output,hb.size,fun k hk _=>hb.block k hk⟩ (by cases x.ownBlock<;>simp),h4⟩
 exact h.1.imp hk hk
theorem Bld.str (h:Bld w b l u) (s:ByteArray) (hs:l.length+s.size≤140737488355328) :
  Calls Tryz.prog 79 #[.pointer (some ⟨b,0,none⟩),.string s] u (fun e v=>e=.returned (.tuple #[.int .i64 s.size,.nilIface])∧Bld w b (l++L s) v):=by
 refine (Any.Builder_WriteString { Tryz.lays156 with } Tryz.Builder_Extra_156 b b (Lib.byteCells l) s u h.1 (by rw[Lib.byteCells_length];exact hs) h.2.2).mono ?_
 rintro e v ⟨he,h1,h2⟩
 refine⟨he,.inr ?_,h.2.1.trans h2,bD h.2.2 h2.size⟩
 rw[Lib.byteCells_append]
 exact h1
theorem Bld.byte (h:Bld w b l u) (c:UInt8) (hs:l.length+1≤140737488355328) :
  Calls Tryz.prog 84 #[.pointer (some ⟨b,0,none⟩),.int .u8 c.toNat] u (fun e v=>e=.returned .nilIface∧Bld w b (l++[c]) v):=by
 refine (mD b b (Lib.byteCells l) c.toNat u h.1 (by rw[Lib.byteCells_length];exact hs) h.2.2).mono ?_
 rintro e v ⟨he,h1,h2⟩
 refine⟨he,.inr ?_,h.2.1.trans h2,bD h.2.2 h2.size⟩
 rw[Lib.byteCells_append]
 exact h1
theorem Bld.string (h:Bld w b l u):Calls Tryz.prog 85 #[.pointer (some ⟨b,0,none⟩)] u (fun e v=>e=.returned (.string (B l))∧Below b w v):=by
 refine (Tryz.Builder_String_any b b l u h.1 h.2.2).mono ?_
 rintro e v ⟨he,h2⟩
 exact⟨he,h.2.1.trans h2⟩
end
theorem aD3 (A:Option Addr) (n c:Nat) (xs:List ByteArray) (sep:ByteArray) (w:World) (h:Rd w A n 1 (aF xs)) (hn:n≤1099511627776) (hc:n≤c) (hj:(Lib.join (xs.map L) (L sep)).length≤140737488355328) :
  Calls Tryz.prog 83 #[.slice A n c,.string sep] w (aEM w (B (Lib.join (xs.map L) (L sep)))):=by
 have hl:xs.length=n:=by
  have:=h.1
  unfold aF at this
  rw[List.length_map]at this
  omega
 rcases Nat.eq_zero_or_pos n with rfl | h0
 ·have hx:xs=[]:=List.length_eq_zero_iff.1 hl
  subst hx
  refine (Tryz.strings_Join_none A c sep w).mono ?_
  rintro e w' ⟨rfl,rfl⟩
  exact⟨rfl,zB _ _⟩
 ·obtain⟨b,o,rfl,hlt,hcc⟩:=h.2 h0
  subst hl
  refine (Tryz.strings_Join b o c xs sep w (fun j x hx=>hcc j _ ?_) hlt (by omega) hc hj).mono ?_
  ·unfold aF
   rw[List.getElem?_map,hx]
   rfl
  ·rintro e w' ⟨rfl,h2⟩
   exact⟨rfl,h2⟩
end Go.Proofs.YthjeglnkgdpijaaGreatDoor
