/- The walks of CopyFate, of SameEntry of any two entries, and of could. Conditions: lists of at most 2^40 elements. -/
import Derived.Test.YtkempjcphpnocaaGreatDoorSurvL
namespace Go.Proofs.YtkempjcphpnocaaGreatDoor
open Go Go.RowKit Go.Maps
theorem Tryz.infoI:(Tryz.prog.info? 3).map (fun i=>(i.zero,i.size,i.bytes))=some (some (.int .i64 0),1,8):=by kernel_rfl
theorem icells_one (l:List Int):∀ u∈icells l,u.oneCell'=true:=by
 intro u hu
 unfold icells at hu
 obtain⟨z,_,rfl⟩:=List.mem_map.1 hu
 rfl
section
variable (w:World) {ops:Array Oper} {rest:List Oper} {o:Oper} {a:Act} {K:Act→World→Prop} {Q:Exit→Act→World→Prop}
theorem appI (hgd:o.guard=none) (s x:Operand) (ho:o.op=.call { callee:=.builtin .append,args:=#[s,x],argTypes:=#[51,51] })
  (base:Nat) (A:Option Addr) (n c:Nat) (xs:List Int) (hs:a.eval s=.slice A n c) (hown:Row w base 3 1 A n c (icells xs))
  (S:Option Addr) (m d:Nat) (news:List Int) (hx:a.eval x=.slice S m d) (hr:Rd w S m 1 (icells news)) (h63:n+m≤2199023255552) (hbase:base≤w.heap.size)
  (h:∀ A' c' w',Row w' base 3 1 A' (n+m) c' (icells (xs++news))→App w w' A c A' c'→wpList Tryz.prog ops Q rest (a.put o.dst (.slice A' (n+m) c')) w'):wpList Tryz.prog ops Q (o::rest) a w:=by
 refine wpList_plain hgd fun _ hK=>?_
 obtain⟨i0,hi0,hz0,hz1,hz2⟩:=info_parts Tryz.infoI
 exact wp_app w s x _ ho _ i0 _ 1 8 Tryz.underlying51 hi0 hz0 hz1 hz2 rfl (by omega) base A n c _ hs hown S m d _ hx hr (icells_one news) (by simp only[maxLen];omega) (by omega) hbase (fun A' c' w' h2 h3=>hK _ _ (h A' c' w' (by unfold icells at *;rw[List.map_append];exact h2) h3))
end
def RetFate (w:World) (k:Int) (keep:List Int) (e:Ending) (w':World):Prop :=
 ∃ A c,e=.returned (.agg #[.int .i64 k,.slice A keep.length c])∧Rd w' A keep.length 1 (icells keep)∧Below w.heap.size w w'
set_option maxRecDepth 100000 in
set_option maxHeartbeats 2000000 in
theorem copyFate_any (k:Int) (A:Option Addr) (n c:Nat) (keep:List Int) (w:World) (hl:keep.length=n) (hn:n≤1099511627776) (hx:Rd w A n 1 (icells keep)) :
  Calls Tryz.prog 21 #[.agg #[.int .i64 k,.slice A n c]] w (RetFate w k keep):=by
 subst hl
 obtain⟨w1,hw1⟩:∃ w1,w.alloc (.cells #[.int .i64 k,.slice A keep.length c] 53)=w1:=⟨_,rfl⟩
 have hb1:Below w.heap.size w w1:=by rw[← hw1];exact (Below.refl _ _).alloc (Nat.le_refl _) _
 have hk1:Blk w1 w.heap.size #[.int .i64 k,.slice A keep.length c] 53:=by rw[← hw1];exact Blk.new w _ _
 have hs1:w1.heap.size=w.heap.size+1:=by rw[← hw1];exact World.size_alloc ..
 obtain⟨w2,hw2⟩:∃ w2,w1.alloc (.cells #[.int .i64 0,.slice none 0 0] 53)=w2:=⟨_,rfl⟩
 have hb2:Below w1.heap.size w1 w2:=by rw[← hw2];exact (Below.refl _ _).alloc (Nat.le_refl _) _
 have hk2:Blk w2 w.heap.size #[.int .i64 k,.slice A keep.length c] 53:=hk1.below hb2
 have HB2:=Lib.hid (below_then hb1.size hb1 hb2)
 have hs2:w2.heap.size=w.heap.size+2:=by rw[← hw2,World.size_alloc,hs1]
 go_enter Tryz.func21,Tryz.ntmps21
 obtain⟨x0,x1⟩:=hk2.cells2
 go_upto_region 2 with fail
 obtain⟨w3,hw3⟩:∃ w3,w2.alloc (.cells #[.int .i64 k,.slice none 0 0] 53)=w3:=⟨_,rfl⟩
 have hb3:Below w2.heap.size w2 w3:=by rw[← hw3];exact (Below.refl _ _).alloc (Nat.le_refl _) _
 have hk3:Blk w3 w2.heap.size #[.int .i64 k,.slice none 0 0] 53:=by rw[← hw3];exact Blk.new w2 _ _
 have hn1:Blk w2 w1.heap.size #[.int .i64 0,.slice none 0 0] 53:=by rw[← hw2];exact Blk.new w1 _ _
 rw[hw3]
 rw[hs2]at hk3
 rw[hs1]at hn1
 have HB3:=Lib.hid (below_then HB2.out.size HB2.out hb3)
 have HN3:=Lib.hid (hn1.below hb3)
 have HK3:=Lib.hid hk3
 have hs3:w3.heap.size=w.heap.size+3:=by rw[← hw3,World.size_alloc,hs2]
 have HX3:=Lib.hid (hx.below HB3.out)
 have HS3:Hid (w.heap.size+3≤w3.heap.size):=Lib.hid (by omega)
 obtain⟨x0,x1⟩:=(hk2.below hb3).cells2
 obtain⟨y0,y1⟩:=hk3.cells2
 clear hw1 hw2 hw3 hb1 hb2 hb3 hk1 hk2 hk3 hn1 hs1 hs2 hs3 hx HB2
 have HKL:Hid (0+keep.length≤2199023255552):=Lib.hid (by omega)
 go_wp2_with (at_builtin;refine appI _ rfl _ _ rfl (w.heap.size+3) none 0 0 [] rfl (Row.none_ _ _ _ _) _ keep.length c keep rfl HX3.out HKL.out HS3.out ?_;intro A' c' w4 hr4 ha4;have hb4:=ha4.below (Row.none_ w3 (w.heap.size+3) 3 1) HS3.out;have HR4:=Lib.hid hr4;have hk4:=HK3.out.under hb4 (by omega);have hn4:=HN3.out.under hb4 (by omega);have HB4:=Lib.hid (HB3.out.trans (hb4.mono (by omega)));have HN4:=Lib.hid hn4;obtain⟨p0,p1⟩:=hk4.cells2;have p2:=hk4.free 1;obtain⟨q0,q1⟩:=hn4.cells2;have q2:=hn4.free 0;have q3:=hn4.free 1;clear x0 x1 y0 y1 hr4 ha4 hb4 hk4 hn4 HB3 HN3 HK3 HX3 HS3 HKL)
 have hr4:=HR4.out
 rw[Nat.zero_add,List.nil_append]at hr4
 have hN:=((HN4.out.far (b':=w.heap.size+2) 1 (.slice A' keep.length c') (by omega)).set 0 (.int .i64 k)).set 1 (.slice A' keep.length c')
 have hR:=((hr4.far (b:=w.heap.size+2) (i:=1) (by omega) (.slice A' keep.length c')).far (b:=w.heap.size+1) (i:=0) (by omega) (.int .i64 k)).far (b:=w.heap.size+1) (i:=1) (by omega) (.slice A' keep.length c')
 have hB:=below_set (below_set (below_set HB4.out (b:=w.heap.size+2) (by omega) 1 (.slice A' keep.length c')) (b:=w.heap.size+1) (by omega) 0 (.int .i64 k)) (b:=w.heap.size+1) (by omega) 1 (.slice A' keep.length c')
 clear p0 p1 p2 q0 q1 q2 q3 HR4 HB4 HN4 hr4
 generalize (((w4.setCell ⟨w.heap.size+2,1,none⟩ (.slice A' keep.length c')).setCell ⟨w.heap.size+1,0,none⟩ (.int .i64 k)).setCell ⟨w.heap.size+1,1,none⟩ (.slice A' keep.length c'))=U at *
 have d0:=hN.cell 0 rfl
 have d1:=hN.cell 1 rfl
 refine bodyPost_ret (v:=.agg #[.int .i64 k,.slice A' keep.length c']) (by simp [results,Tryz.results21,go_sem,d0,d1]) rfl ?_
 exact⟨A',c',rfl,hR.rd,hB⟩
set_option maxRecDepth 100000 in
set_option maxHeartbeats 4000000 in
theorem sameEntry_two (p q:EP) (w:World) (h1:p.E.fs.length≤1099511627776) (h2:p.E.body.length≤1099511627776) (h3:q.E.fs.length≤1099511627776) (h4:q.E.body.length≤1099511627776) (hx:ERd w p) (hy:ERd w q) :
  Calls Tryz.prog 17 #[p.v,q.v] w (fun e w'=>∃ b,RetB w b e w'∧(p.E=q.E→b=true)):=by
 obtain⟨⟨k,v,s,r,m,fs,body,asked,got⟩,A,cf,X,cb⟩:=p
 obtain⟨⟨k2,v2,s2,r2,m2,fs2,body2,asked2,got2⟩,A1,c1,X1,d1⟩:=q
 dsimp only at h1 h2 h3 h4
 obtain⟨hx,hX⟩:=hx
 obtain⟨hy,hY⟩:=hy
 dsimp only at hx hX hy hY
 have HSR:=Lib.hid (fun (u:World) (hu:Below w.heap.size w u)=>sameResponse_any s m s2 m2 r r2 A A1 fs.length fs2.length cf c1 fs fs2 u h1 h3 (hx.below hu) (hy.below hu) rfl rfl)
 have HSB:=Lib.hid (fun (u:World) (hu:Below w.heap.size w u)=>sameBytes_any X X1 body.length body2.length cb d1 body body2 u h2 h4 (hX.below hu) (hY.below hu) rfl rfl)
 obtain⟨g3,hg3⟩:∃ g3,(decide (s=s2)&&decide (r=r2)&&decide (m=m2)&&decide (fs=fs2))=g3:=⟨_,rfl⟩
 obtain⟨g4,hg4⟩:∃ g4,decide (body=body2)=g4:=⟨_,rfl⟩
 rw[hg3]at HSR
 rw[hg4]at HSB
 have HQ:Hid (∀ b:Bool,(k=k2→v=v2→g3=true→g4=true→asked=asked2→got=got2→b=true)→((⟨k,v,s,r,m,fs,body,asked,got⟩:O.Ent)=⟨k2,v2,s2,r2,m2,fs2,body2,asked2,got2⟩→b=true)):=Lib.hid (fun b h e=>by
  injection e with e1 e2 e3 e4 e5 e6 e7 e8 e9
  exact h e1 e2 (by rw[← hg3,decide_eq_true e3,decide_eq_true e4,decide_eq_true e5,decide_eq_true e6];rfl) (by rw[← hg4,decide_eq_true e7]) e8 e9)
 unfold EP.v entV
 dsimp only
 have HK:=Lib.hid ((Blk.new w #[.string k,.string v,.int .i64 s,.string r,.int .i64 m,.slice A fs.length cf,.slice X body.length cb,.int .i64 asked,.int .i64 got] 28).alloc (.cells #[.string k2,.string v2,.int .i64 s2,.string r2,.int .i64 m2,.slice A1 fs2.length c1,.slice X1 body2.length d1,.int .i64 asked2,.int .i64 got2] 28))
 have HL:=Lib.hid (Blk.new (w.alloc (.cells #[.string k,.string v,.int .i64 s,.string r,.int .i64 m,.slice A fs.length cf,.slice X body.length cb,.int .i64 asked,.int .i64 got] 28)) #[.string k2,.string v2,.int .i64 s2,.string r2,.int .i64 m2,.slice A1 fs2.length c1,.slice X1 body2.length d1,.int .i64 asked2,.int .i64 got2] 28)
 have HB:=Lib.hid (((Below.refl w.heap.size w).alloc (Nat.le_refl _) (.cells #[.string k,.string v,.int .i64 s,.string r,.int .i64 m,.slice A fs.length cf,.slice X body.length cb,.int .i64 asked,.int .i64 got] 28)).alloc (by rw[World.size_alloc];omega) (.cells #[.string k2,.string v2,.int .i64 s2,.string r2,.int .i64 m2,.slice A1 fs2.length c1,.slice X1 body2.length d1,.int .i64 asked2,.int .i64 got2] 28))
 rw[World.size_alloc]at HL
 clear hx hy hX hY hg3 hg4 h1 h2 h3 h4
 go_enter Tryz.func17,Tryz.ntmps17
 obtain⟨x0,x1,x2,x3,x4,x5,x6,x7,x8⟩:=HK.out.cells9
 obtain⟨y0,y1,y2,y3,y4,y5,y6,y7,y8⟩:=HL.out.cells9
 rcases tf (decide (k=k2)) with t1 | t1
 rotate_left
 ·have e1:(k.toList==k2.toList)=false:=by rw[beq_bytes,t1]
  go_wp2
  go_ret
  exact⟨false,⟨rfl,HB.out⟩,HQ.out _ (fun h=>absurd h (of_decide_eq_false t1))⟩
 have e1:(k.toList==k2.toList)=true:=by rw[beq_bytes,t1]
 rcases tf (decide (v=v2)) with t2 | t2
 rotate_left
 ·have e2:(v.toList==v2.toList)=false:=by rw[beq_bytes,t2]
  go_wp2
  go_ret
  exact⟨false,⟨rfl,HB.out⟩,HQ.out _ (fun _ h=>absurd h (of_decide_eq_false t2))⟩
 have e2:(v.toList==v2.toList)=true:=by rw[beq_bytes,t2]
 go_wp2_with fail
 clear x0 x1 x2 x3 x4 x5 x6 x7 x8 y0 y1 y2 y3 y4 y5 y6 y7 y8 e1 e2
 refine (HSR.out _ HB.out).mono ?_
 rintro e w1 ⟨rfl,hb1⟩
 have HK1:=Lib.hid (HK.out.below hb1)
 have HL1:=Lib.hid (HL.out.below hb1)
 have HB1:=Lib.hid (below_then HB.out.size HB.out hb1)
 clear HK HL HB HSR hb1
 obtain⟨x0,x1,x2,x3,x4,x5,x6,x7,x8⟩:=HK1.out.cells9
 obtain⟨y0,y1,y2,y3,y4,y5,y6,y7,y8⟩:=HL1.out.cells9
 cases g3 with
 | false =>
  go_wp2
  go_ret
  exact⟨false,⟨rfl,HB1.out⟩,HQ.out _ (fun _ _ h=>by cases h)⟩
 | true =>
 go_wp2_with fail
 clear x0 x1 x2 x3 x4 x5 x6 x7 x8 y0 y1 y2 y3 y4 y5 y6 y7 y8
 refine (HSB.out _ HB1.out).mono ?_
 rintro e w2 ⟨rfl,hb2⟩
 have HK2:=Lib.hid (HK1.out.below hb2)
 have HL2:=Lib.hid (HL1.out.below hb2)
 have HB2:=Lib.hid (below_then HB1.out.size HB1.out hb2)
 clear HK1 HL1 HB1 HSB hb2
 obtain⟨x0,x1,x2,x3,x4,x5,x6,x7,x8⟩:=HK2.out.cells9
 obtain⟨y0,y1,y2,y3,y4,y5,y6,y7,y8⟩:=HL2.out.cells9
 cases g4 with
 | false =>
  go_wp2
  go_ret
  exact⟨false,⟨rfl,HB2.out⟩,HQ.out _ (fun _ _ _ h=>by cases h)⟩
 | true =>
 by_cases t3:asked=asked2
 rotate_left
 ·have e3:(asked==asked2)=false:=by simpa using t3
  go_wp2
  go_ret
  exact⟨false,⟨rfl,HB2.out⟩,HQ.out _ (fun _ _ _ _ h=>absurd h t3)⟩
 have e3:(asked==asked2)=true:=by simpa using t3
 by_cases t4:got=got2
 rotate_left
 ·have e4:(got==got2)=false:=by simpa using t4
  clear t3
  go_wp2
  go_ret
  exact⟨false,⟨rfl,HB2.out⟩,HQ.out _ (fun _ _ _ _ _ h=>absurd h t4)⟩
 have e4:(got==got2)=true:=by simpa using t4
 clear t3 t4
 go_wp2
 go_ret
 exact⟨true,⟨rfl,HB2.out⟩,fun _=>rfl⟩
set_option maxRecDepth 100000 in
set_option maxHeartbeats 4000000 in
theorem couldBe_any (A:Option Addr) (n c:Nat) (l:List TP) (id:ByteArray) (q:EP) (w:World) (hl:l.length=n) (hn:n≤1099511627776) (hfn:q.E.fs.length≤1099511627776) (hbn:q.E.body.length≤1099511627776) (hx:Rd w A n 12 (tpcells l)) (hq:ERd w q) (hr:∀ t∈l,ERd w t.p∧t.p.E.fs.length≤1099511627776∧t.p.E.body.length≤1099511627776) (hla:T.could l id q.E) :
  Calls Tryz.prog 22 #[.slice A n c,.string id,q.v] w (RetB w true):=by
 subst hl
 have HX:=Lib.hid hx
 have HQ:=Lib.hid hq
 have HR:=Lib.hid hr
 have HG:Hid (T.couldR id q.E l.reverse):=Lib.hid hla
 have HB0:=Lib.hid ((Below.refl w.heap.size w).alloc (Nat.le_refl _) (.cells #[.string q.E.k,.string q.E.v,.int .i64 q.E.s,.string q.E.r,.int .i64 q.E.m,.slice q.A q.E.fs.length q.c,.slice q.X q.E.body.length q.d,.int .i64 q.E.asked,.int .i64 q.E.got] 28))
 have HK0:=Lib.hid (Blk.new w #[.string q.E.k,.string q.E.v,.int .i64 q.E.s,.string q.E.r,.int .i64 q.E.m,.slice q.A q.E.fs.length q.c,.slice q.X q.E.body.length q.d,.int .i64 q.E.asked,.int .i64 q.E.got] 28)
 obtain⟨W0,hW0⟩:∃ W0,w.alloc (.cells #[.string q.E.k,.string q.E.v,.int .i64 q.E.s,.string q.E.r,.int .i64 q.E.m,.slice q.A q.E.fs.length q.c,.slice q.X q.E.body.length q.d,.int .i64 q.E.asked,.int .i64 q.E.got] 28)=W0:=⟨_,rfl⟩
 rw[hW0]at HB0 HK0
 clear hx hq hr hla
 unfold EP.v entV
 go_enter Tryz.func22,Tryz.ntmps22
 go_upto_region 2 with fail
 clear hW0
 go_loopw [7] (fun i wr=>∃ k:Nat,k≤l.length∧i=.int .i64 ((k:Int) - 1)∧T.couldR id q.E (l.take k).reverse∧Below W0.heap.size W0 wr) (fun i _=>(intOf i+1).toNat)
 case atStart=>exact⟨l.length,Nat.le_refl _,by go_num,by rw[List.take_length];exact HG.out,Below.refl _ _⟩
 case round =>
  obtain⟨k,hk,rfl,hm,hb⟩:=hrel
  have HB:=Lib.hid hb
  obtain⟨wo,rfl⟩:∃ wo:World,wo=wr:=⟨_,rfl⟩
  cases k with
  | zero=>exact hm.elim
  | succ j =>
   have hj:j < l.length:=by omega
   have HB2:=Lib.hid (below_then HB0.out.size HB0.out hb)
   obtain⟨b,o,rfl,hb1,x0,x1,x2,x3,x4,x5,x6,x7,x8,x9,x10,x11⟩:=rd_try (HX.out.below HB2.out) hj rfl
   rw[T.take_rev hj]at hm
   have HT:=Lib.hid (HR.out _ (List.getElem_mem hj))
   generalize l[j]'hj=t at *
   have e1:(((j+1:Nat):Int) - 1)=j:=by omega
   rw[e1]
   have hj0:(j:Int)≥0:=by omega
   have HM2:=Lib.hid hm
   have HK:=Lib.hid (HK0.out.below hb)
   have HN:=Lib.hid (Blk.new wo #[.string t.id,.string t.p.E.k,.string t.p.E.v,.int .i64 t.p.E.s,.string t.p.E.r,.int .i64 t.p.E.m,.slice t.p.A t.p.E.fs.length t.p.c,.slice t.p.X t.p.E.body.length t.p.d,.int .i64 t.p.E.asked,.int .i64 t.p.E.got,.bool t.drop,.bool t.done] 57)
   have HBW:=Lib.hid ((Below.refl wo.heap.size wo).alloc (Nat.le_refl _) (.cells #[.string t.id,.string t.p.E.k,.string t.p.E.v,.int .i64 t.p.E.s,.string t.p.E.r,.int .i64 t.p.E.m,.slice t.p.A t.p.E.fs.length t.p.c,.slice t.p.X t.p.E.body.length t.p.d,.int .i64 t.p.E.asked,.int .i64 t.p.E.got,.bool t.drop,.bool t.done] 57))
   have HBN:=Lib.hid (below_then HB2.out.size HB2.out HBW.out)
   obtain⟨k0,k1,k2,k3,k4,k5,k6,k7,k8⟩:=(HK.out.alloc (.cells #[.string t.id,.string t.p.E.k,.string t.p.E.v,.int .i64 t.p.E.s,.string t.p.E.r,.int .i64 t.p.E.m,.slice t.p.A t.p.E.fs.length t.p.c,.slice t.p.X t.p.E.body.length t.p.d,.int .i64 t.p.E.asked,.int .i64 t.p.E.got,.bool t.drop,.bool t.done] 57)).cells9
   clear hb hm HG
   by_cases hid:t.id=id
   ·have hib:(t.id.toList==id.toList)=true:=by rw[beq_bytes];exact decide_eq_true hid
    have hor:(t.drop=false∧t.p.E=q.E)∨(t.done=false∧T.couldR id q.E (l.take j).reverse):=(if_pos hid:(if t.id=id then (t.drop=false∧t.p.E=q.E)∨(t.done=false∧T.couldR id q.E (l.take j).reverse) else _)=_) ▸ HM2.out
    clear HM2
    obtain⟨tid,tp,tdr,tdn⟩:=t
    dsimp only at *
    subst hid
    cases tdr with
    | true =>
     have hF:=hor.resolve_left (fun h=>by cases h.1)
     obtain⟨rfl,hF2⟩:=hF
     have HF:=Lib.hid hF2
     clear hor hF2
     go_wp2
     go_roundw
     case rel=>exact⟨j,by omega,by go_num,HF.out,below_then HB.out.size HB.out ((Below.refl wo.heap.size wo).alloc (Nat.le_refl _) _)⟩
     case measure=>simp [intOf]
    | false =>
     have h1:=HT.out.1.below HBN.out
     have h2:=HQ.out.below HBN.out
     have HSE:=Lib.hid (sameEntry_two tp q _ HT.out.2.1 HT.out.2.2 hfn hbn h1 h2)
     have HBY:=Lib.hid (below_then HB.out.size HB.out HBW.out)
     have HOR:=Lib.hid hor
     clear h1 h2 hor
     unfold EP.v entV at HSE
     go_wp2_with fail
     refine HSE.out.mono ?_
     rintro e w5 ⟨bb,⟨rfl,hb5⟩,hbb⟩
     have HB5:=Lib.hid (below_then HBN.out.size HBN.out hb5)
     have HB6:=Lib.hid (below_then HBY.out.size HBY.out hb5)
     have z11:=(HN.out.below hb5).cell 11 rfl
     cases bb with
     | true =>
      clear hb5 HSE hbb
      go_wp2
      go_ret
      exact⟨rfl,HB5.out⟩
     | false =>
      have hF:=HOR.out.resolve_left (fun h=>absurd (hbb h.2) (by decide))
      obtain⟨rfl,hF2⟩:=hF
      have HF:=Lib.hid hF2
      clear hb5 HSE hbb HOR hF2
      go_wp2
      go_roundw
      case rel=>exact⟨j,by omega,by go_num,HF.out,HB6.out⟩
      case measure=>simp [intOf]
   ·have hib:(t.id.toList==id.toList)=false:=by rw[beq_bytes];exact decide_eq_false hid
    have HF:Hid (T.couldR id q.E (l.take j).reverse):=Lib.hid (by have:=HM2.out;unfold T.couldR at this;rwa [if_neg hid]at this)
    go_wp2
    go_roundw
    case rel=>exact⟨j,by omega,by go_num,HF.out,below_then HB.out.size HB.out ((Below.refl wo.heap.size wo).alloc (Nat.le_refl _) _)⟩
    case measure=>simp [intOf]
end Go.Proofs.YtkempjcphpnocaaGreatDoor
