/- Rows of entries, and lists of a script's steps, in memory. The walks of rec.Decode and of Replay at no bytes. A bounded table's items in their order, and where each lies in the ring. Arguments opened: a script of the Store laws. The walks of the Store laws' cut and of SameTexts at two lists that are alike. A store over a new disk where nothing fails. The disk that a new log leaves, and its store. What the laws' first script answers; the room of a disk stays; what a script of Puts keeps. Conditions: as each theorem states them. -/
import Derived.Test.YthjeglnkgdpijaaGreatDoorZ32
import Derived.RangeFuncNested
set_option maxHeartbeats 2000000
set_option maxRecDepth 100000
namespace Go.Proofs.YthjeglnkgdpijaaGreatDoor
open Go Go.RowKit Go.Maps
structure EP where
 E:O.Ent
 A:Option Addr
 c:Nat
 X:Option Addr
 d:Nat
def EP.v (p:EP):Value:=kK p.E p.A p.c p.X p.d
def aJJ:List EP→List Value
 | []=>[]
 | p::t=>.string p.E.k::.string p.E.v::.int .i64 p.E.s::.string p.E.r::.int .i64 p.E.m::.slice p.A p.E.fs.length p.c::.slice p.X p.E.body.length p.d::.int .i64 p.E.asked::.int .i64 p.E.got::aJJ t
def ERd (w:World) (p:EP):Prop:=Rd w p.A p.E.fs.length 2 (aI p.E.fs)∧Rd w p.X p.E.body.length 1 (aB p.E.body)
def gB (w:World) (base:Nat) (p:EP):Prop:=Row w base 60 2 p.A p.E.fs.length p.c (aI p.E.fs)∧Row w base 5 1 p.X p.E.body.length p.d (aB p.E.body)
section
variable {w w':World} {base:Nat} {p:EP} {F F':Nat→Prop}
theorem ERd.below (h:ERd w p) (hb:Below w.heap.size w w'):ERd w' p:=⟨h.1.below hb,h.2.below hb⟩
theorem gB.rd (h:gB w base p):ERd w p:=⟨h.1.rd,h.2.rd⟩
theorem gB.below (h:gB w base p) (hb:Below w.heap.size w w'):gB w' base p:=⟨h.1.below hb,h.2.below hb⟩
theorem gB.mono (h:gB w base p) {b:Nat} (hb:b≤base):gB w b p:=⟨h.1.mono hb,h.2.mono hb⟩
theorem gB.went (h:gB w base p) (hw:aO F w F' w') (hF:∀ k,F k→k < base):gB w' base p :=
 ⟨hw.row h.1 (fun k hk hf=>by have:=(h.1.lt k hk).1;have:=hF k hf;omega),hw.row h.2 (fun k hk hf=>by have:=(h.2.lt k hk).1;have:=hF k hf;omega)⟩
end
structure aKE (w:World) (base:Nat) (A:Option Addr) (c:Nat) (l:List EP):Prop where
 row:Row w base 41 9 A l.length c (aJJ l)
 all:∀ p∈l,gB w base p
section
variable {w w' w1 w2:World} {base:Nat} {A:Option Addr} {c:Nat} {l:List EP} {F F':Nat→Prop}
theorem aKE.nil (w:World) (base:Nat) (A:Option Addr):aKE w base A 0 []:=⟨Row.empty _ _ _ _ _,by simp⟩
theorem aKE.below (h:aKE w base A c l) (hb:Below w.heap.size w w'):aKE w' base A c l:=⟨h.row.below hb,fun p hp=>(h.all p hp).below hb⟩
theorem aKE.went (h:aKE w base A c l) (hw:aO F w F' w') (hF:∀ k,F k→k < base):aKE w' base A c l :=
 ⟨hw.row h.row (fun k hk hf=>by have:=(h.row.lt k hk).1;have:=hF k hf;omega),fun p hp=>(h.all p hp).went hw hF⟩
theorem aKE.snoc {A':Option Addr} {c':Nat} {p:EP} (h:aKE w1 base A c l) (hx:gB w1 base p) (hr:Row w2 base 41 9 A' (l.length+1) c' (aJJ (l++[p]))) (ha:App w1 w2 A c A' c'):aKE w2 base A' c' (l++[p]):=by
 refine⟨by rw[bC];exact hr,fun q hq=>?_⟩
 have hq1:gB w1 base q:=by
  rcases List.mem_append.1 hq with hm | hm
  ·exact h.all q hm
  ·rw[List.mem_singleton.1 hm];exact hx
 exact⟨hq1.1.keptG ha.grown (fun k hk e=>(hq1.1.tag hk).ne (h.row.tag e) (by decide) rfl),hq1.2.keptG ha.grown (fun k hk e=>(hq1.2.tag hk).ne (h.row.tag e) (by decide) rfl)⟩
end
def aP2 (r:R.Rc):Value:=.agg #[.int .i64 r.seq,.int .i64 r.op,.int .i64 r.no,.string r.id]
theorem aH3 (A:Option Addr) (c:Nat) (w:World):Calls Tryz.prog 169 #[.slice A 0 c] w (fun e w'=>e=.returned (.tuple #[aP2 R.Rc.zero,.int .i64 0,.int .i64 0])∧Below w.heap.size w w'):=by
 have HK:=aH (Blk.new w #[.int .i64 0,.int .i64 0,.int .i64 0,.string ⟨#[]⟩] 111)
 have HB:=aH ((zB w.heap.size w).alloc (zA _) (.cells #[.int .i64 0,.int .i64 0,.int .i64 0,.string ⟨#[]⟩] 111))
 go_enter Tryz.func169,Tryz.ntmps169
 go_wp2
 obtain⟨z0,z1,z2,z3⟩:=HK.out.cells4
 (try simp only[Exit.inBlock,Exit.then])
 refine bK (v:=.tuple #[aP2 R.Rc.zero,.int .i64 0,.int .i64 0]) (by simp [results,Tryz.results169,go_sem,z0,z1,z2,z3,aP2,R.Rc.zero]) rfl ?_
 exact⟨rfl,HB.out⟩
theorem aH2 (l bx:Nat) (c:Nat) (A:Option Addr) (hA:A=none→c=0) (w:World) (hc:w.cell? ⟨bx,0,none⟩=some (.slice A 0 c)) :
  Calls Tryz.prog 168 #[.func (.yield l) #[] #[],.pointer (some ⟨bx,0,none⟩)] w (fun e w'=>(∃ v,e=.returned v)∧w.grownBy w' none):=by
 have HC:=aH (fun A c u=>aH3 A c u)
 by_cases h0:c=0
 ·subst h0
  go_enter Tryz.func168,Tryz.ntmps168
  go_wp2
  go_loopw [3,4] (fun a b wr=>a=.int .i64 0∧b=.int .i64 0∧wr=w) (fun _ _ _=>0)
  case atStart=>exact⟨rfl,rfl,rfl⟩
  case round =>
   obtain⟨rfl,rfl,rfl⟩:=hrel
   go_wp2_with fail
   refine (HC.out _ _ _).mono ?_
   rintro e w1 ⟨rfl,hb⟩
   have hg:wr.grownBy w1 none:=⟨hb.os,hb.tape,hb.output,hb.size,fun k hk _=>hb.block k hk⟩
   have HG:=aH (hg.trans (World.grownBy_alloc w1 (.cells #[.int .i64 0,.int .i64 0,.int .i64 0,.string ⟨#[]⟩] 111) none))
   have HK:=aH (Blk.new w1 #[.int .i64 0,.int .i64 0,.int .i64 0,.string ⟨#[]⟩] 111)
   clear hb hg HC
   unfold aP2 R.Rc.zero
   go_wp2
   refine bK (results_none rfl _ _ _) rfl ?_
   exact⟨⟨_,rfl⟩,HG.out⟩
 ·obtain⟨⟨b,o,f⟩,rfl⟩:∃ a,A=some a:=by
   cases A with
   | none=>exact absurd (hA rfl) h0
   | some a=>exact⟨a,rfl⟩
  have hcp:0 < c:=by omega
  go_enter Tryz.func168,Tryz.ntmps168
  go_wp2
  go_loopw [3,4] (fun a b wr=>a=.int .i64 0∧b=.int .i64 0∧wr=w) (fun _ _ _=>0)
  case atStart=>exact⟨rfl,rfl,rfl⟩
  case round =>
   obtain⟨rfl,rfl,rfl⟩:=hrel
   go_wp2_with fail
   refine (HC.out _ _ _).mono ?_
   rintro e w1 ⟨rfl,hb⟩
   have hg:wr.grownBy w1 none:=⟨hb.os,hb.tape,hb.output,hb.size,fun k hk _=>hb.block k hk⟩
   have HG:=aH (hg.trans (World.grownBy_alloc w1 (.cells #[.int .i64 0,.int .i64 0,.int .i64 0,.string ⟨#[]⟩] 111) none))
   have HK:=aH (Blk.new w1 #[.int .i64 0,.int .i64 0,.int .i64 0,.string ⟨#[]⟩] 111)
   clear hb hg HC
   unfold aP2 R.Rc.zero
   go_wp2
   refine bK (results_none rfl _ _ _) rfl ?_
   exact⟨⟨_,rfl⟩,HG.out⟩
theorem aAM (A:Option Addr) (n c:Nat) (w:World) :
  Calls Tryz.prog 135 #[.slice A n c] w (fun e w'=>e=.returned (.func (.func 168) #[] #[.pointer (some ⟨w.heap.size,0,none⟩)])∧w'=w.alloc (.cells #[.slice A n c] 39)):=by
 go_enter Tryz.func135,Tryz.ntmps135
 go_wp2
 go_ret
 exact⟨rfl,rfl⟩
theorem aCX (n bx n₀:Nat) (A:Option Addr) (c:Nat) (hA:A=none→c=0) (w:World) (hB:bx < w.heap.size) (hc:w.cell? ⟨bx,0,none⟩=some (.slice A 0 c)) :
  SeqStopsK Fence.wide n Tryz.prog 168 #[.pointer (some ⟨bx,0,none⟩)] (fun x:Empty=>x.elim) (Below n₀) (fun ys=>ys=[]) (fun _=>False) 0 w:=fun l J Jx W hW hJ _ _ h0 =>
 callsIn_wide.2 ((aH2 l bx c A hA W ((hW.cell (p:=⟨bx,0,none⟩) hB).trans hc)).mono fun e w' h=>⟨h.1,.inl ⟨[],rfl,hJ [] W w' none h0 h.2 (fun r hr=>by cases hr)⟩⟩)
theorem aCV (A:Option Addr) (c:Nat) (hA:A=none→c=0) (w:World) :
  Calls Tryz.prog 97 #[.slice A 0 c] w (fun e w'=>e=.returned (.tuple #[.slice none 0 0,.int .i64 0])∧Below w.heap.size w w'):=by
 refine (callsIn_wide (n:=9)).1 ?_
 refine callsIn_of_wp_marks Tryz.func97 rfl trivial ?_ rfl
 simp only[Tryz.ntmps97,List.size_toArray,List.length_cons,List.length_nil,Nat.reduceAdd,Nat.reduceSub,Array.replicate_succ,Array.replicate_zero,List.push_toArray,List.append_toArray,List.nil_append,List.cons_append]
 gi_wp2_with fail
 refine⟨trivial,(callsIn_wide.2 (aAM _ _ _ _)).mono ?_⟩
 rintro e w' ⟨rfl,rfl⟩
 gi_wp2_with fail
 have bO:Boxed ((w.alloc (.cells #[.slice none 0 0] 103)).alloc (.cells #[.int .i64 0] 3)) w.heap.size 103 (.slice none 0 0):=(Boxed.new w 103 (.slice none 0 0)).alloc _
 have bN:Boxed ((w.alloc (.cells #[.slice none 0 0] 103)).alloc (.cells #[.int .i64 0] 3)) (w.heap.size+1) 3 (.int .i64 0):=by
  have:=Boxed.new (w.alloc (.cells #[.slice none 0 0] 103)) 3 (.int .i64 0)
  rwa [bJ]at this
 have bX:Boxed (((w.alloc (.cells #[.slice none 0 0] 103)).alloc (.cells #[.int .i64 0] 3)).alloc (.cells #[.slice A 0 c] 39)) (w.heap.size+2) 39 (.slice A 0 c):=by
  have:=Boxed.new ((w.alloc (.cells #[.slice none 0 0] 103)).alloc (.cells #[.int .i64 0] 3)) 39 (.slice A 0 c)
  rwa [bJ,bJ]at this
 have hB0:Below w.heap.size w (((w.alloc (.cells #[.slice none 0 0] 103)).alloc (.cells #[.int .i64 0] 3)).alloc (.cells #[.slice A 0 c] 39)):=(((zB _ w).alloc (zA _) _).alloc (by simp only[bJ];omega) _).alloc (by simp only[bJ];omega) _
 have bO1:=bO.alloc (.cells #[.slice A 0 c] 39)
 have bN1:=bN.alloc (.cells #[.slice A 0 c] 39)
 clear bO bN
 refine wpIn_rangeFunc_ownG rfl (by decide) (gf:=168) (lb:=#[.pointer (some ⟨w.heap.size+2,0,none⟩)]) rfl trivial (enters_of Tryz.func168 (by kernel_rfl) rfl)
  (aCX 8 (w.heap.size+2) w.heap.size A c hA _ (by simp) bX.cell) belowK_t (belowK_b (by simp only[bJ];omega)) (zB _ _) (fun x=>x.elim)
  (fun _ W=>(Boxed W w.heap.size 103 (.slice none 0 0)∧Boxed W (w.heap.size+1) 3 (.int .i64 0))∧Below w.heap.size w W)
  (fun _ _ _=>False)
  (OwnFrom.and (OwnFrom.and (Own.from (boxed_own w.heap.size 103 (fun _=>.slice none 0 0)) _) (Own.from (boxed_own (w.heap.size+1) 3 (fun _=>.int .i64 0)) _)) (ownFrom_below (zA _) (by simp only[bJ];omega)))
  (fun _ _ _ _ _ hs _ _=>hs)
  ⟨⟨bO1,bN1⟩,hB0⟩
  (fun x=>x.elim) (fun _ x=>x.elim) (fun _ _ x=>x.elim) ?done ?stop
 case done =>
  rintro D ys W hD rfl ⟨⟨hO,hN⟩,hB⟩ hK
  have hc:=hO.cell
  have hn:=hN.cell
  gi_wp2_with fail
  refine wpIn_wide.2 ?_
  go_region
  all_goals gi_wp2
  have hK2:W.drew.heap[D]?=some (.deferred (some [])):=hK
  refine⟨by simp,.inl ⟨_,_,rfl,run_takeDeferred hK2,?_⟩⟩
  refine⟨_,results_tmp2 rfl _ _ _,rfl,hB.drew.trans (belowK_b (w:=w) (zA _) W.drew D _ _ (by simp only[bJ]at hD;omega) hK2 rfl rfl)⟩
 case stop =>
  rintro D c pre W _ _ h _
  exact h.elim
end Go.Proofs.YthjeglnkgdpijaaGreatDoor
namespace Go.Proofs.YthjeglnkgdpijaaGreatDoor
structure It where
 id:ByteArray
 p:EP
 z:Nat
 k:Nat
namespace Lr
def head (t:Nat):Addr:=⟨t,3,none⟩
def adr (t:Nat) (l:List It):Nat→Addr
 | 0=>head t
 | i+1=>match l[i]? with
  | some x=>⟨x.k,0,none⟩
  | none=>head t
section
variable {t:Nat} {l:List It} {x:It} {i j:Nat}
theorem jH:adr t l (i+1)=(match l[i]? with
  | some x=>⟨x.k,0,none⟩
  | none=>head t):=rfl
theorem fC (h:i < l.length):adr t l (i+1)=⟨(l[i]'h).k,0,none⟩:=by
 rw[jH,List.getElem?_eq_getElem h]
theorem aDS:adr t l (l.length+1)=head t:=by
 rw[jH,List.getElem?_eq_none (zA _)]
theorem aB8:adr t (l.eraseIdx j) i=if i≤j then adr t l i else adr t l (i+1):=by
 cases i with
 | zero=>rw[if_pos (zF _)];rfl
 | succ i =>
  rw[jH,List.getElem?_eraseIdx,jH,jH]
  by_cases h:i < j
  ·rw[if_pos h,if_pos (by omega)]
  ·rw[if_neg h,if_neg (by omega)]
theorem aMV:(adr t l i).spot=none:=by
 cases i with
 | zero=>rfl
 | succ i =>
  rw[jH]
  cases l[i]?<;>rfl
def peek (l:List It) (id:ByteArray):Option It:=l.find? fun x=>decide (x.id=id)
def used (l:List It):Nat:=(l.map (·.z)).sum
def ids (l:List It):List ByteArray:=l.map (·.id)
def tab:List It→D.NM
 | []=>[]
 | x::r=>D.put (tab r) x.id x.k
theorem sN {id:ByteArray} (h:peek l id=some x):∃ j,∃ hj:j < l.length,l[j]=x∧x.id=id:=by
 have h1:=List.mem_of_find?_eq_some h
 have h2:x.id=id:=by simpa using List.find?_some h
 obtain⟨j,hj,e⟩:=List.getElem_of_mem h1
 exact⟨j,hj,e,h2⟩
theorem aH9 (hn:(ids l).Nodup) (hj:j < l.length):peek l l[j].id=some l[j]:=by
 induction l generalizing j with
 | nil=>exact absurd hj (Nat.not_lt_zero _)
 | cons y r ih =>
  have hn':=hn
  unfold ids at hn'
  rw[List.map_cons,List.nodup_cons]at hn'
  unfold peek
  rw[List.find?_cons]
  cases j with
  | zero=>simp
  | succ j =>
   have hj':j < r.length:=by simpa using hj
   have hne:¬ y.id=r[j].id:=fun e=>hn'.1 (List.mem_map.2 ⟨_,List.getElem_mem hj',e.symm⟩)
   rw[List.getElem_cons_succ,decide_eq_false hne]
   exact ih hn'.2 hj'
theorem aJH (l:List It) (j:Nat):(l.eraseIdx j).Sublist l:=List.eraseIdx_sublist l j
theorem aDJ (hn:(ids l).Nodup) (j:Nat):(ids (l.eraseIdx j)).Nodup:=List.Nodup.sublist (List.Sublist.map _ (aJH l j)) hn
theorem kD (hn:(ids l).Nodup) (hj:j < l.length) (id:ByteArray):peek (l.eraseIdx j) id=if id=(l[j]'hj).id then none else peek l id:=by
 induction l generalizing j with
 | nil=>exact absurd hj (Nat.not_lt_zero _)
 | cons y r ih =>
  have hn':=hn
  unfold ids at hn'
  rw[List.map_cons,List.nodup_cons]at hn'
  cases j with
  | zero =>
   rw[List.eraseIdx_cons_zero,List.getElem_cons_zero]
   by_cases h:id=y.id
   ·rw[if_pos h]
    unfold peek
    rw[List.find?_eq_none]
    intro z hz
    have:¬ z.id=id:=fun e=>hn'.1 (List.mem_map.2 ⟨z,hz,e.trans h⟩)
    simpa using this
   ·rw[if_neg h]
    unfold peek
    rw[List.find?_cons,decide_eq_false (fun e=>h e.symm)]
  | succ j =>
   have hj':j < r.length:=by simpa using hj
   have ih2:=ih hn'.2 hj'
   rw[List.eraseIdx_cons_succ,List.getElem_cons_succ]
   unfold peek at ih2 ⊢
   rw[List.find?_cons,List.find?_cons]
   by_cases h:y.id=id
   ·rw[decide_eq_true h]
    have hne:¬ id=r[j].id:=fun e=>hn'.1 (List.mem_map.2 ⟨_,List.getElem_mem hj',e.symm.trans h.symm⟩)
    rw[if_neg hne]
   ·rw[decide_eq_false h]
    exact ih2
theorem vX (hj:j < l.length):used (l.eraseIdx j)+(l[j]'hj).z=used l:=by
 induction l generalizing j with
 | nil=>exact absurd hj (Nat.not_lt_zero _)
 | cons y r ih =>
  cases j with
  | zero=>unfold used;simp;omega
  | succ j =>
   have hj':j < r.length:=by simpa using hj
   have:=ih hj'
   unfold used at this ⊢
   simp
   omega
end
end Lr
open Go.ChangeShapes Go.WideShapes Go.ChangeAt Go.RowKit Go.Deep
section
variable {H:Type} {enc:TypeId × Value→H} {W:World} {base:Nat} {held:Bool}
def ec (p:EP):List Value:=[.string p.E.k,.string p.E.v,.int .i64 p.E.s,.string p.E.r,.int .i64 p.E.m,.slice p.A p.E.fs.length p.c,.slice p.X p.E.body.length p.d,.int .i64 p.E.asked,.int .i64 p.E.got]
def EP.bulk (p:EP):Nat:=F.bulk p.E.fs+p.E.k.size+p.E.v.size+p.E.r.size+p.E.body.length
theorem aDN {fuel:Nat} {cs:List Value} {x:DataW H × List MemPlace} (h:DataW.trod enc Tryz.prog W base (fun _=>true) held fuel 41 cs=some x):∃ p:EP,cs=ec p∧ERd W p∧p.bulk≤Rows.uptoBulk x.1:=by
 obtain⟨xs,n,rfl,hx,hlc,hxl,hall⟩:=DataW.trod_struct aL7 h
 rw[tZ]at hlc
 obtain⟨a0,a1,a2,a3,a4,a5,a6,a7,a8,rfl⟩:∃ a0 a1 a2 a3 a4 a5 a6 a7 a8,cs=[a0,a1,a2,a3,a4,a5,a6,a7,a8]:=by
  match cs,hlc with
  | [a0,a1,a2,a3,a4,a5,a6,a7,a8],_=>exact⟨a0,a1,a2,a3,a4,a5,a6,a7,a8,rfl⟩
 obtain⟨c1,c2,c3,c4⟩:=cells_one
 obtain⟨g0,e0,t0,o0⟩:=dF jF 0 _ _ rfl
 obtain⟨g1,e1,t1,o1⟩:=dF jF 1 _ _ rfl
 obtain⟨g2,e2,t2,o2⟩:=dF jF 2 _ _ rfl
 obtain⟨g3,e3,t3,o3⟩:=dF jF 3 _ _ rfl
 obtain⟨g4,e4,t4,o4⟩:=dF jF 4 _ _ rfl
 obtain⟨g5,e5,t5,o5⟩:=dF jF 5 _ _ rfl
 have h0:=hall 0 g0 e0
 have h1:=hall 1 g1 e1
 have h2:=hall 2 g2 e2
 have h3:=hall 3 g3 e3
 have h4:=hall 4 g4 e4
 have h5:=hall 5 g5 e5
 rw[t0,o0,c1]at h0
 rw[t1,o1,c1]at h1
 rw[t2,o2,aFQ]at h2
 rw[t3,o3,c3]at h3
 rw[t4,o4,c2]at h4
 rw[t5,o5,c2]at h5
 have hz:(Tryz.prog.fieldsOf 41).size=6:=by have:=congrArg Array.size jF;simpa using this
 rw[hz]at hxl
 obtain⟨y0,y1,y2,y3,y4,y5,rfl⟩:∃ y0 y1 y2 y3 y4 y5,xs=[y0,y1,y2,y3,y4,y5]:=by
  match xs,hxl with
  | [y0,y1,y2,y3,y4,y5],_=>exact⟨y0,y1,y2,y3,y4,y5,rfl⟩
 change DataW.trod _ _ _ _ _ _ _ _ [a0]=some y0 at h0
 change DataW.trod _ _ _ _ _ _ _ _ [a1]=some y1 at h1
 change DataW.trod _ _ _ _ _ _ _ _ [a2,a3,a4,a5]=some y2 at h2
 change DataW.trod _ _ _ _ _ _ _ _ [a6]=some y3 at h3
 change DataW.trod _ _ _ _ _ _ _ _ [a7]=some y4 at h4
 change DataW.trod _ _ _ _ _ _ _ _ [a8]=some y5 at h5
 obtain⟨zs,n2,rfl,hzx,_,hzl,hall2⟩:=DataW.trod_struct aN9 h2
 have hz2:(Tryz.prog.fieldsOf 38).size=4:=aN8
 rw[hz2]at hzl
 obtain⟨z0,z1,z2,z3,rfl⟩:∃ z0 z1 z2 z3,zs=[z0,z1,z2,z3]:=by
  match zs,hzl with
  | [z0,z1,z2,z3],_=>exact⟨z0,z1,z2,z3,rfl⟩
 obtain⟨q0,f0,u0,p0⟩:=dF qM 0 _ _ rfl
 obtain⟨q1,f1,u1,p1⟩:=dF qM 1 _ _ rfl
 obtain⟨q2,f2,u2,p2⟩:=dF qM 2 _ _ rfl
 obtain⟨q3,f3,u3,p3⟩:=dF qM 3 _ _ rfl
 have k0:=hall2 0 q0 f0
 have k1:=hall2 1 q1 f1
 have k2:=hall2 2 q2 f2
 have k3:=hall2 3 q3 f3
 rw[u0,p0,c2]at k0
 rw[u1,p1,c1]at k1
 rw[u2,p2,c2]at k2
 rw[u3,p3,c4]at k3
 change DataW.trod _ _ _ _ _ _ _ _ [a2]=some z0 at k0
 change DataW.trod _ _ _ _ _ _ _ _ [a3]=some z1 at k1
 change DataW.trod _ _ _ _ _ _ _ _ [a4]=some z2 at k2
 change DataW.trod _ _ _ _ _ _ _ _ [a5]=some z3 at k3
 obtain⟨k,r0,rfl,_⟩:=DataW.trod_string Tryz.underlying9 h0
 obtain⟨u,r1,rfl,_⟩:=DataW.trod_string Tryz.underlying9 h1
 obtain⟨s,r2,rfl,_⟩:=DataW.trod_int Tryz.underlying3 k0
 obtain⟨r,r3,rfl,_⟩:=DataW.trod_string Tryz.underlying9 k1
 obtain⟨m,r4,rfl,_⟩:=DataW.trod_int Tryz.underlying3 k2
 obtain⟨asked,r5,rfl,_⟩:=DataW.trod_int Tryz.underlying3 h4
 obtain⟨got,r6,rfl,_⟩:=DataW.trod_int Tryz.underlying3 h5
 obtain⟨A,na,ca,rfl⟩:=rQ k3
 obtain⟨fs,l1,l2,l3,_⟩:=pI k3
 simp only[List.cons.injEq,and_true]at r0 r1 r2 r3 r4 r5 r6
 subst r0 r1 r2 r3 r4 r5 r6
 obtain⟨X,nb,cb,rfl⟩:=aAO h3
 obtain⟨body,m1,m2,_,m4,_⟩:=aDO h3
 have hd:x.1=.agg _:=congrArg Prod.fst hx
 have hy:y2.1=.agg _:=congrArg Prod.fst hzx
 subst l1 m1
 refine⟨⟨⟨k,u,s,r,m,fs,body,asked,got⟩,A,ca,X,cb⟩,rfl,⟨l2,m2⟩,?_⟩
 rw[hd]
 unfold EP.bulk
 simp only[List.map_cons,List.map_nil,hy,Rows.uptoBulk,Rows.uptoBulkAll,Array.length_toList]
 have:k.size=k.data.size:=rfl
 have:u.size=u.data.size:=rfl
 have:r.size=r.data.size:=rfl
 omega
end
end Go.Proofs.YthjeglnkgdpijaaGreatDoor
namespace Go.Proofs.YthjeglnkgdpijaaGreatDoor
open Go Go.RowKit Go.Maps
theorem lV (A A2:Option Addr) (n c c2:Nat) (l:List ByteArray) (w:World) (hl:l.length=n) (hn:n≤1099511627776) (hx:Rd w A n 1 (aC l)) (hy:Rd w A2 n 1 (aC l)):Calls Tryz.prog 17 #[.slice A n c,.slice A2 n c2] w (pR w true):=by
 subst hl
 have HX:=aH hx
 have HY:=aH hy
 clear hx hy
 go_enter Tryz.func17,Tryz.ntmps17
 go_wp2_with fail
 go_loopw [5] (fun i wr=>∃ k:Nat,k≤l.length∧i=.int .i64 k∧Below w.heap.size w wr) (fun i _=>l.length - (intOf i).toNat)
 case atStart=>exact⟨0,zF _,rfl,zB _ _⟩
 case round =>
  obtain⟨k,hk,rfl,hb⟩:=hrel
  have HB:=aH hb
  obtain⟨wo,rfl⟩:∃ wo:World,wo=wr:=⟨_,rfl⟩
  by_cases hlt:k < l.length
  ·obtain⟨b,o,rfl,hb1,y0⟩:=(HX.out.below hb).str hlt rfl
   obtain⟨b2,o2,rfl,hb2,y1⟩:=(HY.out.below hb).str hlt rfl
   generalize l[k]'hlt=nm at *
   have hne:(nm.data.toList != nm.data.toList)=false:=by simp
   clear hb
   go_upto_region 6 with fail
   go_region
   go_wp2
   go_roundw
   case rel=>exact⟨k+1,by omega,by go_num,HB.out.drew⟩
   case measure=>simp [intOf];omega
  ·have hke:k=l.length:=by omega
   subst hke
   go_wp2
   go_ret
   exact⟨rfl,HB.out⟩
end Go.Proofs.YthjeglnkgdpijaaGreatDoor
namespace Go.Proofs.YthjeglnkgdpijaaGreatDoor
namespace S
open D (cont Clm)
def fresh (room:Int):D.Dsk:=⟨[],[],[],[],[],room,[],-1,0⟩
theorem oD {room:Int} (h:0≤room):Clm (fresh room) :=
 ⟨rfl,rfl,⟨rfl,List.Pairwise.nil,List.Pairwise.nil,(fun _ h=>by cases h),(fun _ h=>by cases h),(fun _ h=>by cases h),rfl,fun _ h=>absurd h (Nat.not_lt_zero _)⟩,(fun _ h=>by cases h),h⟩
theorem aI7 {room:Int} (h:0≤room∧room≤1073741824):D.Fit 0 (fresh room) :=
 ⟨⟨(fun _ h=>by cases h),(fun _ h=>by cases h),(fun _ h=>by cases h)⟩,(oD h.1).ok,Int.le_refl _,Int.le_refl _,zA _,zA _,zA _,zF _,h,fun no=>by unfold D.Dsk.size fresh;simp⟩
theorem dY (n:Nat) (t:D.NM):(marks n t).length=n:=by unfold marks;simp
end S
namespace S
open D (cont Clm)
def born (room:Int):D.Dsk:=(((fresh room).create bM).1.sync bM).1.syncNames.1
theorem oM {room:Int} (h0:0≤room):steps (fresh room) bZ=(born room,3,0)∧has (fresh room).list dB=false∧(fresh room).read bM=([],90)∧(∀ nm∈(born room).list,isO nm=false∧nm.size≤4096)∧∀ n:Nat,n≤4096→Inv ⟨born room,0,[],marks n []⟩:=by
 have h:=oD h0
 have hc:∀ x,cont (fresh room) x=none:=fun _=>rfl
 obtain⟨e1,c1,k1⟩:=h.create dP (hc _)
 obtain⟨e2,c2,k2⟩:=c1.sync dP (c:=[]) (by rw[k1,if_pos rfl])
 obtain⟨e3,c3,k3⟩:=c2.syncNames
 have k:∀ x,cont (born room) x=if x=bM then some [] else none:=fun x=>by unfold born;rw[k3,k2,k1,hc]
 refine⟨by simp [steps,bZ,e1,e2,e3,born],rfl,by rw[h.read dP,hc],fun nm hm=>?_,fun n hn=>⟨c3,⟨[],by show cont (born room) _=_;rw[k,if_pos rfl]⟩,by show cont (born room) _=_;rw[k,if_neg jA],List.Pairwise.nil,by show (marks n []).length≤_;rw[dY];omega,(fun _ h=>by cases h),(fun _ h=>by cases h),fun no hn hi=>?_⟩⟩
 ·have:=c3.mem (x:=nm)
  have hm2:=this.1 hm
  have h3:(cont (born room) nm).isSome=true:=hm2
  rw[k]at h3
  by_cases e:nm=bM
  ·rw[e];exact⟨by decide,by decide⟩
  ·rw[if_neg e]at h3;cases h3
 ·change (cont (born room) _).isSome=true at hi
  rw[k,if_neg (aW hn)]at hi
  cases hi
theorem aE4 {room:Int} (h:0≤room∧room≤1073741824):D.Fit 3 (born room):=by
 have:=iE bZ oG (aI7 h)
 rw[(oM h.1).1]at this
 exact this
theorem aIJ (n:Nat):marks n []=List.replicate n false:=by
 unfold marks
 have:=List.map_const' (l:=List.range n) (b:=false)
 rw[List.length_range]at this
 exact this
end S
namespace D
theorem oO (s:Dsk) (names:List ByteArray):(s.begin names).1.room=s.room:=by
 unfold Dsk.begin
 split<;>rfl
theorem lD (s:Dsk) (nm:ByteArray):(s.create nm).1.room=s.room:=by
 have h:=oO s [nm]
 unfold Dsk.create
 generalize s.begin [nm]=y at *
 obtain⟨s1,e⟩:=y
 dsimp only at h ⊢
 split
 ·exact h
 ·split
  ·exact h
  ·exact h
theorem yN (s:Dsk) (nm:ByteArray) (more:List ByteArray) (f:Dsk→Nat→Dsk × Int) (hf:∀ s no,(f s no).1.room=s.room):(s.on nm more f).1.room=s.room:=by
 have h:=oO s (more++[nm])
 unfold Dsk.on
 generalize s.begin (more++[nm])=y at *
 obtain⟨s1,e⟩:=y
 dsimp only at h ⊢
 split
 ·exact h
 ·split
  ·exact h
  ·exact (hf _ _).trans h
theorem jG (s:Dsk) (nm:ByteArray) (b:List UInt8):(s.append nm b).1.room=s.room:=yN _ _ _ _ fun s no=>by
 split<;>rfl
theorem lM (s:Dsk) (nm:ByteArray):(s.sync nm).1.room=s.room:=yN _ _ _ _ fun _ _=>rfl
theorem aCW (s:Dsk) (a b:ByteArray):(s.rename a b).1.room=s.room:=yN _ _ _ _ fun s no=>by
 split<;>rfl
theorem iU (s:Dsk) (nm:ByteArray):(s.remove nm).1.room=s.room:=yN _ _ _ _ fun _ _=>rfl
theorem gV (s:Dsk):s.syncNames.1.room=s.room:=by
 have h:=oO s []
 unfold Dsk.syncNames
 generalize s.begin []=y at *
 obtain⟨s1,e⟩:=y
 dsimp only at h ⊢
 split
 ·exact h
 ·exact h
end D
namespace S
theorem wG:∀ (l:List (D.Dsk→D.Dsk × Int)) (d:D.Dsk),(∀ f∈l,∀ d:D.Dsk,(f d).1.room=d.room)→(steps d l).1.room=d.room
 | [],_,_=>rfl
 | f::r,d,hf=>by
  have h1:=hf f (by simp) d
  unfold steps
  split
  ·exact h1
  ·exact (wG r (f d).1 (fun g hg=>hf g (List.mem_cons_of_mem _ hg))).trans h1
theorem aF2 (b:List UInt8):∀ f∈moves b,∀ d:D.Dsk,(f d).1.room=d.room:=by
 intro f hf d
 unfold moves at hf
 simp only[List.mem_cons,List.not_mem_nil,or_false]at hf
 rcases hf with rfl | rfl | rfl | rfl
 ·exact D.lD _ _
 ·exact D.jG _ _ _
 ·exact D.lM _ _
 ·exact D.aCW _ _ _
theorem aAU (d:D.Dsk) (count:Nat) (list:List R.Rc):(rewrite d count list).1.room=d.room:=by
 have h1:=wG _ d (aF2 (R.bH list 0 []).1)
 unfold rewrite
 split
 ·rfl
 ·split
  ·exact (D.gV _).trans h1
  ·split
   ·exact h1
   ·exact (D.iU _ _).trans h1
theorem aMX (d:D.Dsk) (count:Nat) (op no:Int) (id:ByteArray):(add d count op no id).1.room=d.room:=by
 unfold add
 split
 ·rfl
 ·split
  ·exact D.jG _ _ _
  ·exact (D.lM _ _).trans (D.jG _ _ _)
theorem aLT (d:D.Dsk) (p:ByteArray) (b:List UInt8):(lay d p b).1.room=d.room:=by
 unfold lay
 have hx:(if has d.list p then d.remove p else (d,0)).1.room=d.room:=by
  split
  ·exact D.iU _ _
  ·rfl
 generalize (if has d.list p then d.remove p else (d,0))=x at *
 dsimp only
 split
 ·exact hx
 ·have hy:=(D.lD x.1 p).trans hx
  generalize x.1.create p=y at *
  split
  ·exact hy
  ·have hz:=(D.jG y.1 p b).trans hy
   generalize y.1.append p b=z at *
   split
   ·exact hz
   ·have hu:=(D.lM z.1 p).trans hz
    generalize z.1.sync p=u at *
    split
    ·exact hu
    ·exact (D.gV _).trans hu
theorem aHP (s:Sto):s.tidy.d.room=s.d.room:=by
 unfold Sto.tidy
 split
 ·rfl
 ·exact aAU _ _ _
theorem xY (s:Sto):s.tidy.tab=s.tab:=by
 unfold Sto.tidy
 split<;>rfl
theorem aGN (s:Sto) (id:ByteArray):(s.freed id).d.room=s.d.room:=by
 unfold Sto.freed
 split
 ·exact D.iU _ _
 ·rfl
theorem aI8 (s:Sto) (id:ByteArray):(s.freed id).tab=s.tab:=by
 unfold Sto.freed
 split<;>rfl
theorem zD (s:Sto) (no:Nat) (id:ByteArray) (x:D.Dsk × Bool × Int):(s.entered no id x).1.d.room=x.1.room∧((s.entered no id x).1.tab=s.tab∨(s.entered no id x).1.tab=D.put s.tab id no):=by
 unfold Sto.entered
 have hy:(if x.2.2=0 then add x.1 s.count 1 no id else (x.1,s.count,x.2.2):D.Dsk × Nat × Int).1.room=x.1.room:=by
  split
  ·exact aMX _ _ _ _ _
  ·rfl
 generalize (if x.2.2=0 then add x.1 s.count 1 no id else (x.1,s.count,x.2.2):D.Dsk × Nat × Int)=y at *
 dsimp only
 split
 ·refine⟨?_,.inl rfl⟩
  split
  ·exact (D.iU _ _).trans hy
  ·exact hy
 ·refine⟨?_,.inr ?_⟩
  ·rw[aHP]
   exact (aGN _ _).trans hy
  ·rw[xY]
   show D.put (({ s with d:=y.1,count:=y.2.1 }:Sto).freed id).tab id no=_
   rw[aI8]
theorem aH6 (s:Sto) (E:O.Ent):(s.put E).1.d.room=s.d.room∧((s.put E).1.tab=s.tab∨(aV E).size≤4096∧∃ no,(s.put E).1.tab=D.put s.tab (aV E) no):=by
 unfold Sto.put
 split
 ·exact⟨rfl,.inl rfl⟩
 ·split
  ·exact⟨rfl,.inl rfl⟩
  ·rename_i hs
   split
   ·exact⟨rfl,.inl rfl⟩
   ·rename_i no _
    obtain⟨h1,h2⟩:=zD s no (aV E) (lay s.d (path no) (gY E))
    exact⟨h1.trans (aLT _ _ _),h2.imp id fun h=>⟨by omega,no,h⟩⟩
structure Kept (room:Int) (i:Nat) (s:Sto):Prop where
 inv:Inv s
 fit:D.Fit (3+13 * i) s.d
 ids:∀ p∈s.tab,p.1.size≤4096
 len:s.tab.length≤i
 count:s.count≤i
 room:s.d.room=room
theorem Kept.put {room:Int} {i:Nat} {s:Sto} (h:Kept room i s) (E:O.Ent) (hi:i≤100):Kept room (i+1) (s.put E).1:=by
 obtain⟨k1,k2⟩:=aH6 s E
 have hf:D.Fit (3+13 * (i+1)) (s.put E).1.d:=by
  have:=yH h.fit E
  rw[show 3+13 * (i+1)=3+13 * i+13 by omega]
  exact this
 have hid:∀ p∈(s.put E).1.tab,p.1.size≤4096:=by
  intro p hp
  rcases k2 with k2 | ⟨hz,no,k2⟩
  ·rw[k2]at hp;exact h.ids p hp
  ·rw[k2]at hp
   rcases D.cZ.1 hp with rfl | hp
   ·exact hz
   ·exact h.ids p hp.1
 have hc:=h.count
 have hl:=h.len
 rcases aED h.inv E (by omega) with ⟨_,w2,w3,w4,w5,_⟩ | ⟨_,w2,w3,w4,w5⟩
 ·exact⟨w2,hf,hid,by rw[w3];omega,by rw[w5];omega,k1.trans h.room⟩
 ·exact⟨w2,hf,hid,by omega,by rcases w5 with w5 | w5<;>omega,k1.trans h.room⟩
theorem Kept.start {room:Int} (h:0≤room∧room≤1073741824) {n:Nat} (hn:n≤4096):Kept room 0 ⟨born room,0,[],marks n []⟩ :=
 ⟨(oM h.1).2.2.2.2 n hn,aE4 h,(fun _ h=>by cases h),zA _,zA _,by
  show (born room).room=room
  unfold S.born
  rw[D.gV,D.lM,D.lD]
  rfl⟩
theorem Kept.refused {room:Int} {i:Nat} {s:Sto} (h:Kept room i s) (E:O.Ent) (hi:i≤100) (hE:(s.put E).2≠0):(s.put E).1.ids=s.ids∧(s.put E).1.d.list=s.d.list∧((s.put E).1.d.used:Int)≤room∧∀ id∈s.ids,(s.put E).1.get id=s.get id:=by
 have hc:=h.count
 have hk:=(h.put E hi)
 rcases aED h.inv E (by omega) with ⟨_,w2,w3,w4,w5,w6⟩ | ⟨w1,_⟩
 ·refine⟨by unfold Sto.ids;rw[w3],h.inv.calm.names w2.calm (fun x=>by rw[w6]),?_,fun id hid=>aL0 h.inv w2 w3 w6 hid⟩
  have:=w2.calm.room
  rw[hk.room]at this
  exact this
 ·exact absurd w1 hE
end S
end Go.Proofs.YthjeglnkgdpijaaGreatDoor
