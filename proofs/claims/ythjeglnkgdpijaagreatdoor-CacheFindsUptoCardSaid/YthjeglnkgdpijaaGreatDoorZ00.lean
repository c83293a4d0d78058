/- Numbers behind numbers: append onto a list of the call's own. Plain lemma on the model's append. The walks of lru's Drop, Peek, Keys, New and Get at entries. The walks of lru's Get and Put at entries. Maps to nothing in memory. Plain lemmas. Lists of names sorted, and without doubles. The walk of the Store laws' first script. Conditions: as each theorem states them. -/
import Derived.Test.YthjeglnkgdpijaaGreatDoorLruA
set_option maxHeartbeats 2000000
set_option maxRecDepth 100000
namespace Go.Proofs.YthjeglnkgdpijaaGreatDoor
open Go Go.RowKit Go.Maps
theorem Tryz.infoI:(Tryz.prog.info? 3).map (fun i=>(i.zero,i.size,i.bytes))=some (some (.int .i64 0),1,8):=by kernel_rfl
theorem aHI (l:List Int):∀ u∈dS l,u.oneCell'=true:=by
 intro u hu
 unfold dS at hu
 obtain⟨z,_,rfl⟩:=List.mem_map.1 hu
 rfl
section
variable (w:World) {ops:Array Oper} {rest:List Oper} {o:Oper} {a:Act} {K:Act→World→Prop} {Q:Exit→Act→World→Prop}
theorem appI (hgd:o.guard=none) (s x:Operand) (ho:o.op=.call { callee:=.builtin .append,args:=#[s,x],argTypes:=#[23,23] })
  (base:Nat) (A:Option Addr) (n c:Nat) (xs:List Int) (hs:a.eval s=.slice A n c) (hown:Row w base 3 1 A n c (dS xs))
  (S:Option Addr) (m d:Nat) (news:List Int) (hx:a.eval x=.slice S m d) (hr:Rd w S m 1 (dS news)) (h63:n+m≤2199023255552) (hbase:base≤w.heap.size)
  (h:∀ A' c' w',Row w' base 3 1 A' (n+m) c' (dS (xs++news))→App w w' A c A' c'→wpList Tryz.prog ops Q rest (a.put o.dst (.slice A' (n+m) c')) w'):wpList Tryz.prog ops Q (o::rest) a w:=by
 refine wpList_plain hgd fun _ hK=>?_
 obtain⟨i0,hi0,hz0,hz1,hz2⟩:=info_parts Tryz.infoI
 exact pW w s x _ ho _ i0 _ 1 8 Tryz.underlying23 hi0 hz0 hz1 hz2 rfl (by omega) base A n c _ hs hown S m d _ hx hr (aHI news) (by simp only[maxLen];omega) (by omega) hbase (fun A' c' w' h2 h3=>hK _ _ (h A' c' w' (by unfold dS at *;rw[List.map_append];exact h2) h3))
end
open Lr (Ring nU aH9 Fr nx pv adr)
def aOZ (l l':List It):Prop:=∀ x,Lr.peek l' x=Lr.peek l x
theorem oO (B t m room:Nat) (l:List It) (id:ByteArray) (w:World) (h:fU B t m room l w) (hs:id.size≤1073741824) :
  Calls Tryz.prog 29 #[.pointer (some ⟨t,0,none⟩),.string id] w (fun e w'=>∃ l' b,e=.returned (.bool b)∧fU B t m room l' w'∧aO (LrF t m l) w (LrF t m l') w'∧∀ x,Lr.peek l' x=if x=id then none else Lr.peek l x):=by
 obtain⟨tb,t1,t2,hb⟩:=h.base
 have hlk:=hb.look id hs
 rw[t2]at hlk
 obtain⟨y0,y1,y2⟩:=h.tabc
 have HH:=aH h
 clear t1 t2 hb hs
 cases hp:Lr.peek l id with
 | none =>
  rw[hp]at hlk
  change _=Result.ok (Value.pointer none) w at hlk
  have HP:=aH hp
  clear h hp
  go_enter Tryz.func29,Tryz.ntmps29
  go_wp2
  go_ret
  refine⟨l,false,rfl,HH.out,aO.refl _ _,fun x=>?_⟩
  by_cases hx:x=id
  ·rw[if_pos hx,hx,HP.out]
  ·rw[if_neg hx]
 | some y =>
  rw[hp]at hlk
  change _=Result.ok (Value.pointer (some ⟨y.k,0,none⟩)) w at hlk
  obtain⟨j,hj,e1,e2⟩:=Lr.tZ hp
  have HR:=aH (qE B t m room j l w h hj)
  have HPE:=aH (fun x=>Lr.kQ h.one hj x)
  rw[e1]at HR
  rw[e1,e2]at HPE
  clear h hp e1 e2 hj
  go_enter Tryz.func29,Tryz.ntmps29
  go_wp2_with fail
  clear hlk y0 y1 y2
  refine HR.out.mono ?_
  rintro e w1 ⟨rfl,h1,hw1⟩
  have H1:=aH h1
  have HW1:=aH hw1
  clear h1 hw1
  go_wp2
  go_ret
  exact⟨_,true,rfl,H1.out,HW1.out,HPE.out⟩
def EP.nil:EP:=⟨O.Ent.zero,none,0,none,0⟩
def itV (o:Option It):Value:=match o with
 | some x=>x.p.v
 | none=>EP.nil.v
def aEN (w:World) (o:Option It) (e:Ending) (w':World):Prop:=e=.returned (.tuple #[itV o,.bool o.isSome])∧Below w.heap.size w w'
theorem kU (B t m room:Nat) (l:List It) (id:ByteArray) (w:World) (h:fU B t m room l w) (hs:id.size≤1073741824) :
  Calls Tryz.prog 45 #[.pointer (some ⟨t,0,none⟩),.string id] w (aEN w (Lr.peek l id)):=by
 obtain⟨w0,hw0⟩:∃ w0,w.alloc (.cells #[.string ⟨#[]⟩,.string ⟨#[]⟩,.int .i64 0,.string ⟨#[]⟩,.int .i64 0,.slice none 0 0,.slice none 0 0,.int .i64 0,.int .i64 0] 41)=w0:=⟨_,rfl⟩
 have hb0:Below w.heap.size w w0:=by rw[← hw0];exact (zB _ _).alloc (zA _) _
 have hk0:=Blk.new w #[.string ⟨#[]⟩,.string ⟨#[]⟩,.int .i64 0,.string ⟨#[]⟩,.int .i64 0,.slice none 0 0,.slice none 0 0,.int .i64 0,.int .i64 0] 41
 rw[hw0]at hk0
 have h0:=h.below hb0
 obtain⟨tb,t1,t2,hb⟩:=h0.base
 have hlk:=hb.look id hs
 rw[t2]at hlk
 obtain⟨y0,y1,y2⟩:=h0.tabc
 have HB0:=aH hb0
 have HK0:=aH hk0
 clear t1 t2 hb hs hb0 hk0
 cases hp:Lr.peek l id with
 | none =>
  rw[hp]at hlk
  change _=Result.ok (Value.pointer none) w0 at hlk
  clear h h0 hp
  go_enter Tryz.func45,Tryz.ntmps45
  go_upto_region 3 with fail
  clear hlk y0 y1 y2
  obtain⟨w1,hw1⟩:∃ w1,w0.alloc (.cells #[.string ⟨#[]⟩,.string ⟨#[]⟩,.int .i64 0,.string ⟨#[]⟩,.int .i64 0,.slice none 0 0,.slice none 0 0,.int .i64 0,.int .i64 0] 41)=w1:=⟨_,rfl⟩
  have hb1:Below w0.heap.size w0 w1:=by rw[← hw1];exact (zB _ _).alloc (zA _) _
  have hk1:=Blk.new w0 #[.string ⟨#[]⟩,.string ⟨#[]⟩,.int .i64 0,.string ⟨#[]⟩,.int .i64 0,.slice none 0 0,.slice none 0 0,.int .i64 0,.int .i64 0] 41
  rw[hw1]at hk1
  have hka:=HK0.out.below hb1
  have HB1:=aH (aA HB0.out.size HB0.out hb1)
  obtain⟨z0,z1,z2,z3,z4,z5,z6,z7,z8⟩:=hk1.cells9
  obtain⟨x0,x1,x2,x3,x4,x5,x6,x7,x8⟩:=hka.cells9
  obtain⟨f0,f1,f2,f3,f4,f5,f6,f7,f8⟩:=hka.free9
  have HKA:=aH hka
  clear hb1 hk1 hka
  go_wp2
  clear x0 x1 x2 x3 x4 x5 x6 x7 x8 f0 f1 f2 f3 f4 f5 f6 f7 f8 z0 z1 z2 z3 z4 z5 z6 z7 z8
  obtain⟨d0,d1,d2,d3,d4,d5,d6,d7,d8⟩:=(HKA.out.set9 (.string ⟨#[]⟩) (.string ⟨#[]⟩) (.int .i64 0) (.string ⟨#[]⟩) (.int .i64 0) (.slice none 0 0) (.slice none 0 0) (.int .i64 0) (.int .i64 0)).cells9
  unfold nine at d0 d1 d2 d3 d4 d5 d6 d7 d8
  refine bK (v:=.tuple #[.agg #[.string ⟨#[]⟩,.string ⟨#[]⟩,.int .i64 0,.string ⟨#[]⟩,.int .i64 0,.slice none 0 0,.slice none 0 0,.int .i64 0,.int .i64 0],.bool false]) (by simp [results,Tryz.results45,go_sem,d0,d1,d2,d3,d4,d5,d6,d7,d8]) rfl ?_
  exact⟨rfl,aN HB1.out (zA _) _ _ _ _ _ _ _ _ _⟩
 | some y =>
  rw[hp]at hlk
  change _=Result.ok (Value.pointer (some ⟨y.k,0,none⟩)) w0 at hlk
  have hy:=List.mem_of_find?_eq_some hp
  obtain⟨z0,z1,z2,z3,z4,z5,z6,z7,z8,z9,z10⟩:=h0.node y hy
  clear h h0 hp hy z0 z10
  go_enter Tryz.func45,Tryz.ntmps45
  obtain⟨x0,x1,x2,x3,x4,x5,x6,x7,x8⟩:=HK0.out.cells9
  obtain⟨f0,f1,f2,f3,f4,f5,f6,f7,f8⟩:=HK0.out.free9
  go_wp2
  clear x0 x1 x2 x3 x4 x5 x6 x7 x8 f0 f1 f2 f3 f4 f5 f6 f7 f8 z1 z2 z3 z4 z5 z6 z7 z8 z9 hlk y0 y1 y2
  obtain⟨d0,d1,d2,d3,d4,d5,d6,d7,d8⟩:=(HK0.out.set9 (.string y.p.E.k) (.string y.p.E.v) (.int .i64 y.p.E.s) (.string y.p.E.r) (.int .i64 y.p.E.m) (.slice y.p.A y.p.E.fs.length y.p.c) (.slice y.p.X y.p.E.body.length y.p.d) (.int .i64 y.p.E.asked) (.int .i64 y.p.E.got)).cells9
  unfold nine at d0 d1 d2 d3 d4 d5 d6 d7 d8
  refine bK (v:=.tuple #[.agg #[.string y.p.E.k,.string y.p.E.v,.int .i64 y.p.E.s,.string y.p.E.r,.int .i64 y.p.E.m,.slice y.p.A y.p.E.fs.length y.p.c,.slice y.p.X y.p.E.body.length y.p.d,.int .i64 y.p.E.asked,.int .i64 y.p.E.got],.bool true]) (by simp [results,Tryz.results45,go_sem,d0,d1,d2,d3,d4,d5,d6,d7,d8]) rfl ?_
  exact⟨rfl,aN HB0.out (zA _) _ _ _ _ _ _ _ _ _⟩
theorem Tryz.infoNode:(Tryz.prog.info? 122).map (fun i=>i.size)=some 13:=by kernel_rfl
theorem zC {P:Program} {tp te:TypeId} {j:TypeInfo} {w:World} {a b:Addr} {ta tb:TypeId} (hp:P.underlying tp=some (.pointer te)) (hte:P.info? te=some j) (hj:j.size≠0) (hne:a≠b) (ha:Fr w a.block ta) (hb:Fr w b.block tb) :
  (binOp .neq tp (.pointer (some a)) (.pointer (some b))).run P w=.ok (.bool true) w:=by
 obtain⟨ca,ha⟩:=ha
 obtain⟨cb,hb⟩:=hb
 have h:∀ d:Nat,(Op.equalIn (d+1) tp (.pointer (some a)) (.pointer (some b))).run P w=.ok false w:=fun d=>by
  simp [Op.equalIn,run_underlying hp,sizeOf,typeInfo,hte,hj,run_sameAddr_other (P:=P) (w:=w) hne ha hb]
 simp only[binOp]
 simp [Op.equal,Op.maxDepth,h 9999]
theorem aMH {w:World} {a b:Addr} {ta tb:TypeId} (hne:a≠b) (ha:Fr w a.block ta) (hb:Fr w b.block tb):(binOp .neq 119 (.pointer (some a)) (.pointer (some b))).run Tryz.prog w=.ok (.bool true) w:=by
 obtain⟨j,hj,hs⟩:=Option.map_eq_some_iff.1 Tryz.infoNode
 exact zC Tryz.underlying119 hj (by rw[hs];decide) hne ha hb
theorem aJB (a:Addr) (w:World):(binOp .neq 119 (.pointer (some a)) (.pointer (some a))).run Tryz.prog w=.ok (.bool false) w:=by
 obtain⟨j,hj,_⟩:=Option.map_eq_some_iff.1 Tryz.infoNode
 exact Lib.run_neq_ptr_same w a Tryz.underlying119 hj
theorem aG4 (B t m room:Nat) (l:List It) (w:World) (h:fU B t m room l w) :
  Calls Tryz.prog 62 #[.pointer (some ⟨t,0,none⟩)] w (eP w 9 1 (Lr.ids l).length (aF (Lr.ids l))):=by
 have HH:=aH h
 have hlen:=h.len
 have HIL:Hid ((Lr.ids l).length=l.length):=aH (by unfold Lr.ids;rw[List.length_map])
 obtain⟨l1,l2⟩:=h.ring.link 0 (zF _)
 have y15:w.cell? ⟨t,15,none⟩=some (.pointer (some (adr t l 1))):=l1
 clear h l1 l2
 go_enter Tryz.func62,Tryz.ntmps62
 go_wp2_with fail
 clear y15
 go_loopw [3,4] (fun a n wr=>∃ (k:Nat) (A:Option Addr) (c:Nat),k≤l.length∧a=.slice A k c∧n=.pointer (some (adr t l (k+1)))∧Row wr w.heap.size 9 1 A k c (aF ((Lr.ids l).take k))∧Below w.heap.size w wr) (fun a _ _=>l.length - (match a with | .slice _ n _=>n | _=>0))
 case atStart=>exact⟨0,none,0,zF _,rfl,rfl,Row.none_ _ _ _ _,zB _ _⟩
 case round =>
  obtain⟨k,A,c,hk,rfl,rfl,hrow,hbe⟩:=hrel
  have HROW:=aH hrow
  have HBE:=aH hbe
  have HL:=aH (HH.out.below hbe)
  clear hrow hbe
  obtain⟨wo,rfl⟩:∃ wo:World,wo=wr:=⟨_,rfl⟩
  by_cases hlt:k < l.length
  ·have hxm:=List.getElem_mem hlt
   have hne:=HL.out.ring.ne hxm
   have hnode:=(HL.out.node _ hxm).1
   obtain⟨l3,l4⟩:=HL.out.ring.link (k+1) (by omega)
   rw[Lr.fP hlt]at l3 ⊢
   have y12:wo.cell? ⟨(l[k]'hlt).k,12,none⟩=some (.pointer (some (adr t l (k+2)))):=l3
   have HNX:=aH (fun (u:World) (hu:fU B t m room l u)=>(by have:=(hu.ring.link (k+1) (by omega)).1;rw[Lr.fP hlt]at this;exact this:u.cell? ⟨(l[k]'hlt).k,12,none⟩=some (.pointer (some (adr t l (k+2))))))
   have HTK:Hid ((Lr.ids l).take (k+1)=(Lr.ids l).take k++[(l[k]'hlt).id]):=aH (by
    rw[bI (by rw[HIL.out];exact hlt)]
    congr 2
    unfold Lr.ids
    rw[List.getElem_map])
   have hcmp:=aMH (w:=wo) (a:=⟨(l[k]'hlt).k,0,none⟩) (b:=⟨t,3,none⟩) (fun e=>hne (congrArg Addr.block e)) (HL.out.ring.nd _ hxm) HL.out.ring.tb
   obtain⟨kk,hkk⟩:∃ kk,(l[k]'hlt).k=kk:=⟨_,rfl⟩
   obtain⟨id,hid⟩:∃ id,(l[k]'hlt).id=id:=⟨_,rfl⟩
   rw[hkk]at hne hnode y12 HNX hcmp ⊢
   rw[hid]at hnode HTK
   have HNEW:=aH (aMJ wo id)
   have HL60:Hid (k+1≤4398046511104):=aH (by omega)
   have hba:Below wo.heap.size wo (wo.alloc (.cells #[.string id] 9)):=(zB _ _).alloc (zA _) _
   have HLA:=aH (HL.out.below hba)
   have HRA:=aH (HROW.out.below hba)
   have HBA:=aH (aA HBE.out.size HBE.out hba)
   have HZA:Hid (w.heap.size≤(wo.alloc (.cells #[.string id] 9)).heap.size):=aH HBA.out.size
   clear hkk hid l3 l4 hxm hba y12
   go_wp2_with (at_builtin;refine aLK _ rfl _ _ rfl w.heap.size A k c ((Lr.ids l).take k) rfl HRA.out _ 1 1 [id] rfl HNEW.out HL60.out HZA.out ?_;intro A8 c8 w9 hr9 ha9;rw[← HTK.out]at hr9;have HR9:=aH hr9;have hb9:=ha9.below HRA.out HZA.out;have HB9:=aH (HBA.out.trans hb9);have HL9:=aH (HH.out.below (HBA.out.trans hb9));have y12:=HNX.out w9 HL9.out;clear hr9 ha9 hb9 hnode)
   go_roundw
   case rel=>exact⟨k+1,A8,c8,by omega,rfl,rfl,HR9.out,HB9.out⟩
   case measure=>simp;omega
  ·obtain rfl:k=l.length:=by omega
   rw[Lr.aEK]
   unfold Lr.head
   have hcmp:=aJB ⟨t,3,none⟩ wo
   have HTK:Hid ((Lr.ids l).take l.length=Lr.ids l):=aH (by rw[← HIL.out,List.take_length])
   go_wp2
   go_ret
   have hr:=HROW.out
   rw[HTK.out]at hr
   exact⟨A,c,by rw[HIL.out];rfl,by rw[HIL.out];exact hr,HBE.out⟩
def Lr.roomOf (r:Int):Nat:=(min (max r 0) 1073741824).toNat
theorem aJK (r:Int) (w:World) :
  Calls Tryz.prog 46 #[.int .i64 r] w (fun e w'=>∃ t m,e=.returned (.pointer (some ⟨t,0,none⟩))∧fU w.heap.size t m (Lr.roomOf r) [] w'∧Below w.heap.size w w'):=by
 have hro:((Lr.roomOf r:Nat):Int)=min (max r 0) 1073741824:=by unfold Lr.roomOf;omega
 have hmm:=@run_makeMap Tryz.prog
 obtain⟨ro,hr⟩:∃ ro,Lr.roomOf r=ro:=⟨_,rfl⟩
 have HRO:=aH hr
 rw[hr]at hro
 have hle:ro≤1073741824:=by omega
 clear hr
 go_enter Tryz.func46,Tryz.ntmps46
 go_upto_region 2 with fail
 obtain⟨w1,hw1⟩:∃ w1,w.alloc (.map #[] 0)=w1:=⟨_,rfl⟩
 have hm1:w1.ownsMap Tryz.prog 9 D.jA w.heap.size 0 (.map []):=by rw[← hw1];exact World.ownsMap_made w Tryz.prog 9 D.jA
 have hs1:w1.heap.size=w.heap.size+1:=by rw[← hw1];exact bJ ..
 have hb1:Below w.heap.size w w1:=by rw[← hw1];exact (zB _ _).alloc (zA _) _
 rw[hw1]
 rw[← hro]
 obtain⟨w2,hw2⟩:∃ w2,w1.alloc (.cells #[.int .i64 ro,.int .i64 0,.map (some w.heap.size),.string ⟨#[]⟩,.string ⟨#[]⟩,.string ⟨#[]⟩,.int .i64 0,.string ⟨#[]⟩,.int .i64 0,.slice none 0 0,.slice none 0 0,.int .i64 0,.int .i64 0,.int .i64 0,.pointer none,.pointer none] Lr.tT)=w2:=⟨_,rfl⟩
 have hk2:=Blk.new w1 #[.int .i64 ro,.int .i64 0,.map (some w.heap.size),.string ⟨#[]⟩,.string ⟨#[]⟩,.string ⟨#[]⟩,.int .i64 0,.string ⟨#[]⟩,.int .i64 0,.slice none 0 0,.slice none 0 0,.int .i64 0,.int .i64 0,.int .i64 0,.pointer none,.pointer none] Lr.tT
 have hb2:Below w1.heap.size w1 w2:=by rw[← hw2];exact (zB _ _).alloc (zA _) _
 change Code.wp _ _ _ _ (w1.alloc (.cells _ Lr.tT))
 rw[hw2]at hk2 ⊢
 rw[hs1]at hk2
 have HM2:=aH (hm1.kept (show w1.grownBy w2 none from⟨hb2.os,hb2.tape,hb2.output,hb2.size,fun k hk _=>hb2.block k hk⟩) (by simp))
 have HB2:=aH (aA hb1.size hb1 hb2)
 have HK2:=aH hk2
 have hS0:After w2 w2.drew:=(zB _ _).drew
 have HWD:=aH hS0
 clear hm1 hs1 hb1 hb2 hk2 hw1 hw2 hro hmm
 refine wp_region_noPanic ?_
 refine HT.begin (n:=12) (S:=(fun _=>True)) (by kernel_rfl) trivial ?_
 clear hS0
 generalize w2.drew=wd at *
 refine HT.take 0 (.pointer (some ⟨w.heap.size+1,0,none⟩)) rfl (by kernel_rfl) (fun _ _ _ h=>h) (Or.inl ⟨by rfl,?_⟩) ?_
 ·intro u hu
  go_simp
 refine HT.take 1 (.pointer (some ⟨w.heap.size+1,0,none⟩)) rfl (by kernel_rfl) (fun _ _ _ h=>h) (Or.inl ⟨by rfl,?_⟩) ?_
 ·intro u hu
  go_simp
 refine HT.take 2 (.pointer (some ⟨w.heap.size+1,0,none⟩)) rfl (by kernel_rfl) (fun _ _ _ h=>h) (Or.inl ⟨by rfl,?_⟩) (?_:HT _ _ _ _ _ _ _ ⟨#[_,_,_,.pointer (some ⟨w.heap.size+1,0,none⟩),_,_,_,_,_,_,.pointer (some ⟨w.heap.size+1,0,none⟩),.pointer (some ⟨w.heap.size+1,0,none⟩),.pointer (some ⟨w.heap.size+1,0,none⟩),_,_,_,_,_,_,_,_,_,_,_,_],[]⟩ _)
 ·intro u hu
  go_simp
 refine HT.take 3 (.pointer (some ⟨w.heap.size+1,0,none⟩)) rfl (by kernel_rfl) (fun _ _ _ h=>h) (Or.inl ⟨by rfl,?_⟩) ?_
 ·intro u hu
  go_simp
 refine HT.take 4 (.pointer (some ⟨w.heap.size+1,3,none⟩)) rfl (by kernel_rfl) (fun _ _ _ h=>h) (Or.inl ⟨by rfl,?_⟩) ?_
 ·intro u hu
  go_simp
 refine HT.take 5 (.pointer (some ⟨w.heap.size+1,0,none⟩)) rfl (by kernel_rfl) (fun _ _ _ h=>h) (Or.inl ⟨by rfl,?_⟩) (?_:HT _ _ _ _ _ _ _ ⟨#[_,_,_,.pointer (some ⟨w.heap.size+1,0,none⟩),_,_,_,_,_,_,.pointer (some ⟨w.heap.size+1,0,none⟩),.pointer (some ⟨w.heap.size+1,0,none⟩),.pointer (some ⟨w.heap.size+1,0,none⟩),.pointer (some ⟨w.heap.size+1,0,none⟩),.pointer (some ⟨w.heap.size+1,3,none⟩),.pointer (some ⟨w.heap.size+1,0,none⟩),_,_,_,_,_,_,_,_,_],[]⟩ _)
 ·intro u hu
  go_simp
 refine HT.take 6 (.pointer (some ⟨w.heap.size+1,0,none⟩)) rfl (by kernel_rfl) (fun _ _ _ h=>h) (Or.inl ⟨by rfl,?_⟩) ?_
 ·intro u hu
  go_simp
 refine HT.take 7 (.pointer (some ⟨w.heap.size+1,3,none⟩)) rfl (by kernel_rfl) (fun _ _ _ h=>h) (Or.inl ⟨by rfl,?_⟩) ?_
 ·intro u hu
  go_simp
 refine HT.take 8 (.pointer (some ⟨w.heap.size+1,0,none⟩)) rfl (by kernel_rfl) (fun _ _ _ h=>h) (Or.inl ⟨by rfl,?_⟩) (?_:HT _ _ _ _ _ _ _ ⟨#[_,_,_,.pointer (some ⟨w.heap.size+1,0,none⟩),_,_,_,_,_,_,.pointer (some ⟨w.heap.size+1,0,none⟩),.pointer (some ⟨w.heap.size+1,0,none⟩),.pointer (some ⟨w.heap.size+1,0,none⟩),.pointer (some ⟨w.heap.size+1,0,none⟩),.pointer (some ⟨w.heap.size+1,3,none⟩),.pointer (some ⟨w.heap.size+1,0,none⟩),.pointer (some ⟨w.heap.size+1,0,none⟩),.pointer (some ⟨w.heap.size+1,3,none⟩),.pointer (some ⟨w.heap.size+1,0,none⟩),_,_,_,_,_,_],[]⟩ _)
 ·intro u hu
  go_simp
 refine HT.take 9 (.pointer (some ⟨w.heap.size+1,3,none⟩)) rfl (by kernel_rfl) (fun _ _ _ h=>h) (Or.inl ⟨by rfl,?_⟩) ?_
 ·intro u hu
  go_simp
 refine HT.take 10 (.pointer (some ⟨w.heap.size+1,14,none⟩)) rfl (by kernel_rfl) (fun _ _ _ h=>h) (Or.inl ⟨by rfl,?_⟩) (?_:HT _ _ _ _ _ _ _ ⟨#[_,_,_,.pointer (some ⟨w.heap.size+1,0,none⟩),_,_,_,_,_,_,.pointer (some ⟨w.heap.size+1,0,none⟩),.pointer (some ⟨w.heap.size+1,0,none⟩),.pointer (some ⟨w.heap.size+1,0,none⟩),.pointer (some ⟨w.heap.size+1,0,none⟩),.pointer (some ⟨w.heap.size+1,3,none⟩),.pointer (some ⟨w.heap.size+1,0,none⟩),.pointer (some ⟨w.heap.size+1,0,none⟩),.pointer (some ⟨w.heap.size+1,3,none⟩),.pointer (some ⟨w.heap.size+1,0,none⟩),.pointer (some ⟨w.heap.size+1,3,none⟩),.pointer (some ⟨w.heap.size+1,14,none⟩),_,_,_,_],[]⟩ _)
 ·intro u hu
  go_simp
 refine HT.step 11 rfl (by kernel_rfl) (fun hS K hK=>?_)
 go_simp
 have hk3:=HK2.out.below HWD.out
 have e1:=hk3.cell 14 rfl
 have g1:=hk3.free 14
 go_simp
 refine hK.out _ _ trivial ?_
 have hk4:=hk3.set 14 (.pointer (some ⟨w.heap.size+1,3,none⟩))
 have HK4:=aH hk4
 have e2:=hk4.cell 15 rfl
 have g2:=hk4.free 15
 clear hK hS e1 g1 hk3 hk4
 refine HT.tail _ rfl rfl (by kernel_rfl) (fun hS=>?_)
 clear hS
 go_wp2
 refine NoPanic.normal ?_
 go_wp2
 go_ret
 have hk5:=HK4.out.set 15 (.pointer (some ⟨w.heap.size+1,3,none⟩))
 have hb5:=aK (aK (aA HB2.out.size HB2.out HWD.out) (b:=w.heap.size+1) (by omega) 14 (.pointer (some ⟨w.heap.size+1,3,none⟩))) (b:=w.heap.size+1) (by omega) 15 (.pointer (some ⟨w.heap.size+1,3,none⟩))
 have hm3:=HM2.out.kept (show w2.grownBy wd none from⟨HWD.out.os,HWD.out.tape,HWD.out.output,HWD.out.size,fun k hk _=>HWD.out.block k hk⟩) (by simp)
 have hm4:=(hm3.kept (aT wd (w.heap.size+1) 14 (.pointer (some ⟨w.heap.size+1,3,none⟩))) (by simp)).kept (aT _ (w.heap.size+1) 15 (.pointer (some ⟨w.heap.size+1,3,none⟩))) (by simp)
 rw[HRO.out]
 refine⟨w.heap.size+1,w.heap.size,rfl,⟨⟨fun i hi=>?_,⟨_,hk5⟩,(fun _ h=>by cases h),by simp⟩,⟨hk5.cell 0 rfl,hk5.cell 1 rfl,hk5.cell 2 rfl⟩,(fun _ h=>by cases h),⟨[],List.Pairwise.nil,hm4,fun _=>rfl⟩,(fun _ h=>by cases h),List.nodup_nil,⟨zF _,hle⟩,(fun _ h=>by cases h),(fun _ h=>by cases h),⟨by omega,zA _,(fun _ h=>by cases h)⟩⟩,hb5⟩
 obtain rfl:i=0:=Nat.le_zero.1 hi
 exact⟨hk5.cell 15 rfl,hk5.cell 14 rfl⟩
open Lr (Ring nU aH9 Fr nx pv adr)
namespace Lr
section
variable {l:List It} {j:Nat}
theorem aHQ (hj:j < l.length):(l[j]::l.eraseIdx j).Perm l:=by
 induction l generalizing j with
 | nil=>exact absurd hj (Nat.not_lt_zero _)
 | cons y r ih =>
  cases j with
  | zero=>exact List.Perm.refl _
  | succ j=>exact (List.Perm.swap _ _ _).trans ((ih (by simpa using hj)).cons y)
theorem aHP (hn:(ids l).Nodup) (hj:j < l.length):aOZ l (l[j]::l.eraseIdx j):=fun id=>by
 unfold peek
 rw[List.find?_cons]
 by_cases h:(l[j]).id=id
 ·rw[decide_eq_true h,← h]
  exact (aI5 hn hj).symm
 ·rw[decide_eq_false h]
  have:=kQ hn hj id
  rw[if_neg (fun e=>h e.symm)]at this
  exact this
theorem aHO (hj:j < l.length):used (l[j]::l.eraseIdx j)=used l:=by
 have:=wV hj
 unfold used at this ⊢
 rw[List.map_cons,List.sum_cons]
 omega
end
end Lr
section
variable {F F':Nat→Prop} {w w1:World} {b:Nat}
theorem fV (h:aO F w F' w1) (hb:w.heap.size≤b) (i:Nat) (v:Value):aO F w F' (w1.setCell ⟨b,i,none⟩ v) :=
 ⟨h.os,h.tape,h.output,by rw[World.size_setCell];exact h.size,fun k hk hn=>(Below.heap_setCell w1 ⟨b,i,none⟩ v k (by show k≠b;omega)).trans (h.block k hk hn),h.foot⟩
theorem jB (h:aO F w F' w1) (hb:w.heap.size≤b) (y0 y1 y2 y3 y4 y5 y6 y7 y8:Value):aO F w F' (nine w1 b y0 y1 y2 y3 y4 y5 y6 y7 y8) :=
 fV (fV (fV (fV (fV (fV (fV (fV (fV h hb 0 y0) hb 1 y1) hb 2 y2) hb 3 y3) hb 4 y4) hb 5 y5) hb 6 y6) hb 7 y7) hb 8 y8
theorem dQ (hF:F b) (y0 y1 y2 y3 y4 y5 y6 y7 y8:Value):aO F w F (nine w b y0 y1 y2 y3 y4 y5 y6 y7 y8) :=
 (((((((((eX hF 0 y0).trans (eX hF 1 y1)).trans (eX hF 2 y2)).trans (eX hF 3 y3)).trans (eX hF 4 y4)).trans (eX hF 5 y5)).trans (eX hF 6 y6)).trans (eX hF 7 y7)).trans (eX hF 8 y8))
theorem LrF.perm {t m k:Nat} {l l':List It} (hp:l'.Perm l) (hk:LrF t m l' k):LrF t m l k:=hk.imp id (fun h=>h.imp id (fun⟨y,hy,e⟩=>⟨y,hp.mem_iff.1 hy,e⟩))
theorem fU.nine {B t m room:Nat} {l:List It} (h:fU B t m room l w) (h0:¬ LrF t m l b) (hr:∀ x∈l,∀ k,ownB x.p.A x.p.c=some k∨ownB x.p.X x.p.d=some k→k≠b) (y0 y1 y2 y3 y4 y5 y6 y7 y8:Value):fU B t m room l (Go.Proofs.YthjeglnkgdpijaaGreatDoor.nine w b y0 y1 y2 y3 y4 y5 y6 y7 y8) :=
 h.went (F:=fun k=>k=b) (F':=fun k=>k=b) (dQ (F:=fun k=>k=b) rfl _ _ _ _ _ _ _ _ _) (fun _ hk e=>h0 (e ▸ hk)) (fun x hx k hk e=>hr x hx k hk e)
end
theorem aJL (B t m room:Nat) (l:List It) (id:ByteArray) (w:World) (h:fU B t m room l w) (hs:id.size≤1073741824) :
  Calls Tryz.prog 37 #[.pointer (some ⟨t,0,none⟩),.string id] w (fun e w'=>∃ l',e=.returned (.tuple #[itV (Lr.peek l id),.bool (Lr.peek l id).isSome])∧fU B t m room l' w'∧aO (LrF t m l) w (LrF t m l') w'∧aOZ l l'):=by
 obtain⟨w0,hw0⟩:∃ w0,w.alloc (.cells #[.string ⟨#[]⟩,.string ⟨#[]⟩,.int .i64 0,.string ⟨#[]⟩,.int .i64 0,.slice none 0 0,.slice none 0 0,.int .i64 0,.int .i64 0] 41)=w0:=⟨_,rfl⟩
 have hb0:Below w.heap.size w w0:=by rw[← hw0];exact (zB _ _).alloc (zA _) _
 have hk0:=Blk.new w #[.string ⟨#[]⟩,.string ⟨#[]⟩,.int .i64 0,.string ⟨#[]⟩,.int .i64 0,.slice none 0 0,.slice none 0 0,.int .i64 0,.int .i64 0] 41
 rw[hw0]at hk0
 have h0:=h.below hb0
 have hnk:¬ LrF t m l w.heap.size:=fun hk=>Nat.lt_irrefl _ (h.lt hk)
 obtain⟨tb,t1,t2,hb⟩:=h0.base
 have hlk:=hb.look id hs
 rw[t2]at hlk
 obtain⟨y0,y1,y2⟩:=h0.tabc
 have HB0:=aH hb0
 have HK0:=aH hk0
 have HH:=aH h
 have H0:=aH h0
 have HNK:=aH hnk
 have HRN:Hid (∀ x∈l,∀ k,ownB x.p.A x.p.c=some k∨ownB x.p.X x.p.d=some k→k≠w.heap.size):=aH (fun x hx k hk=>by
  rcases hk with hk | hk
  ·have:=(h.own x hx).1.lt _ hk;omega
  ·have:=(h.own x hx).2.lt _ hk;omega)
 have HT1:=aH t1
 have HT2:=aH t2
 have HBA:=aH hb
 clear t1 t2 hb hb0 hk0 hnk h
 cases hp:Lr.peek l id with
 | none =>
  rw[hp]at hlk
  change _=Result.ok (Value.pointer none) w0 at hlk
  have HP:=aH hp
  have HPK:=aH (kU B t m room l id w0 h0 hs)
  rw[hp]at HPK
  clear h0 hp
  go_enter Tryz.func37,Tryz.ntmps37
  go_wp2_with fail
  clear hlk y0 y1 y2 hw0
  refine HPK.out.mono ?_
  rintro e w1 ⟨rfl,hb1⟩
  have hka:=HK0.out.below hb1
  have HB1:=aH (aA HB0.out.size HB0.out hb1)
  obtain⟨x0,x1,x2,x3,x4,x5,x6,x7,x8⟩:=hka.cells9
  obtain⟨f0,f1,f2,f3,f4,f5,f6,f7,f8⟩:=hka.free9
  have HKA:=aH hka
  have H1:=aH (H0.out.below hb1)
  clear hb1 hka HPK
  unfold itV EP.nil EP.v lW O.Ent.zero
  dsimp only[Option.isSome_none]
  go_wp2
  clear x0 x1 x2 x3 x4 x5 x6 x7 x8 f0 f1 f2 f3 f4 f5 f6 f7 f8
  obtain⟨d0,d1,d2,d3,d4,d5,d6,d7,d8⟩:=(HKA.out.set9 (.string ⟨#[]⟩) (.string ⟨#[]⟩) (.int .i64 0) (.string ⟨#[]⟩) (.int .i64 0) (.slice none 0 0) (.slice none 0 0) (.int .i64 0) (.int .i64 0)).cells9
  have hbz:=aN HB1.out (zA _) (.string ⟨#[]⟩) (.string ⟨#[]⟩) (.int .i64 0) (.string ⟨#[]⟩) (.int .i64 0) (.slice none 0 0) (.slice none 0 0) (.int .i64 0) (.int .i64 0)
  have HBZ:=aH hbz
  have hlz:=H1.out.nine HNK.out HRN.out (.string ⟨#[]⟩) (.string ⟨#[]⟩) (.int .i64 0) (.string ⟨#[]⟩) (.int .i64 0) (.slice none 0 0) (.slice none 0 0) (.int .i64 0) (.int .i64 0)
  have HLZ:=aH hlz
  unfold nine at d0 d1 d2 d3 d4 d5 d6 d7 d8
  refine bK (v:=.tuple #[.agg #[.string ⟨#[]⟩,.string ⟨#[]⟩,.int .i64 0,.string ⟨#[]⟩,.int .i64 0,.slice none 0 0,.slice none 0 0,.int .i64 0,.int .i64 0],.bool false]) (by simp [results,Tryz.results37,go_sem,d0,d1,d2,d3,d4,d5,d6,d7,d8]) rfl ?_
  exact⟨l,rfl,HLZ.out,(aO.below HBZ.out _),fun _=>rfl⟩
 | some y =>
  rw[hp]at hlk
  change _=Result.ok (Value.pointer (some ⟨y.k,0,none⟩)) w0 at hlk
  obtain⟨j,hj,e1,e2⟩:=Lr.tZ hp
  have HP:=aH hp
  obtain⟨b1,o1,f1,g1,lt1,k1⟩:=h0.ring.form j
  obtain⟨b2,o2,f2,g2,lt2,k2⟩:=h0.ring.form (j+2)
  obtain⟨c1,c2,d1,d2⟩:=h0.ring.unlinks hj f1 f2
  have hxm:=List.getElem_mem hj
  have HUN:=aH (wW t (l[j]'hj).k b1 o1 b2 o2 w0 c1 c2 (h0.ring.nd _ hxm).lt lt1 lt2 d1 d2 (h0.ring.freeAt k1 _) (h0.ring.freeAt k2 _))
  obtain⟨p1,p2,p3⟩:=HBA.out.unlink h0.ring (fun _ hy=>hy) hj f1 f2 k1 k2
  have hnd:=h0.one
  have hfp:=Lr.aHQ hj
  have hfs:=Lr.aHP hnd hj
  have hfu:=Lr.aHO hj
  rw[e1]at HUN hfp hfs hfu
  obtain⟨W1,hW1⟩:∃ W1,(w0.setCell ⟨b1,o1+12,none⟩ (.pointer (some ⟨b2,o2,none⟩))).setCell ⟨b2,o2+11,none⟩ (.pointer (some ⟨b1,o1,none⟩))=W1:=⟨_,rfl⟩
  rw[hW1]at p1 p2 p3 HUN
  have HP1:=aH p1
  have HP2:=aH p2
  have HP3:=aH p3
  have HFP:=aH hfp
  have HFS:=aH hfs
  have HFU:=aH hfu
  have HYM:Hid (y∈l):=aH (e1 ▸ hxm)
  have HYN:Hid (∀ z∈l.eraseIdx j,z.k≠y.k):=aH (fun z hz ez=>by
   have h9:=(hfp.map It.k).nodup_iff.2 (List.nodup_cons.1 h0.ring.apart).2
   rw[List.map_cons,List.nodup_cons]at h9
   exact h9.1 (List.mem_map.2 ⟨z,hz,ez⟩))
  -- the cells of the node that is out of the ring
  have hc11:=cell?_setCell_some (p:=⟨b1,o1+12,none⟩) (x:=.pointer (some ⟨b2,o2,none⟩)) c1
  have hc12:=cell?_setCell_some (p:=⟨b1,o1+12,none⟩) (x:=.pointer (some ⟨b2,o2,none⟩)) c2
  obtain⟨v11,hc11⟩:=hc11
  obtain⟨v12,hc12⟩:=hc12
  have hc11:=cell?_setCell_some (p:=⟨b2,o2+11,none⟩) (x:=.pointer (some ⟨b1,o1,none⟩)) hc11
  have hc12:=cell?_setCell_some (p:=⟨b2,o2+11,none⟩) (x:=.pointer (some ⟨b1,o1,none⟩)) hc12
  rw[hW1,e1]at hc11 hc12
  have HC11:=aH hc11
  have HC12:=aH hc12
  clear h0 hp c1 c2 d1 d2 g1 g2 lt1 lt2 k1 k2 f1 f2 p1 p2 p3 hW1 hfp hfs hfu hnd hxm hc11 hc12 e1 e2 HBA
  go_enter Tryz.func37,Tryz.ntmps37
  go_wp2_with fail
  clear hlk y0 y1 y2 hw0
  refine HUN.out.mono ?_
  rintro e w1 ⟨rfl,ha1⟩
  have HQ1:=aH (HP1.out.below ha1)
  have HR1:=aH (HP2.out.below ha1)
  have HW1:=aH (HP3.out.trans (aO.below ha1 _))
  have HA1:=aH ha1
  obtain⟨b,o,fb,gb,ltb,kb⟩:=HR1.out.form 1
  obtain⟨m1,m2⟩:=HR1.out.link 0 (zF _)
  rw[show (0:Nat)+1=1 from rfl,fb]at m1 m2
  have hyf:=(HQ1.out.node y HYM.out).2
  have h11:∃ v,w1.cell? ⟨y.k,11,none⟩=some v:=by
   obtain⟨v,hv⟩:=HC11.out
   exact⟨v,(ha1.cell (p:=⟨y.k,11,none⟩) (HP1.out.node y HYM.out).2.lt).trans hv⟩
  have h12:∃ v,w1.cell? ⟨y.k,12,none⟩=some v:=by
   obtain⟨v,hv⟩:=HC12.out
   exact⟨v,(ha1.cell (p:=⟨y.k,12,none⟩) (HP1.out.node y HYM.out).2.lt).trans hv⟩
  have HFR:=aH (aB8 t y.k b o w1 m1 HR1.out.tb.lt hyf.lt ltb h11 h12 ⟨_,m2⟩ (fun i=>hyf.free i) (fun i=>HR1.out.tb.free i) (fun i=>HR1.out.freeAt kb i))
  obtain⟨u1,h11⟩:=h11
  obtain⟨u2,h12⟩:=h12
  obtain⟨q1,q2,q3⟩:=HQ1.out.front (x:=y) HR1.out (fun z hz=>List.mem_of_mem_eraseIdx hz) HYM.out HYN.out fb kb h11 h12
  have HQ2:=aH q1
  have HR2:=aH q2
  have HW2:=aH (HW1.out.trans q3)
  generalize (((w1.setCell ⟨y.k,11,none⟩ (.pointer (some ⟨t,3,none⟩))).setCell ⟨y.k,12,none⟩ (.pointer (some ⟨b,o,none⟩))).setCell ⟨t,15,none⟩ (.pointer (some ⟨y.k,0,none⟩))).setCell ⟨b,o+11,none⟩ (.pointer (some ⟨y.k,0,none⟩))=W2 at *
  clear ha1 fb gb ltb kb m1 m2 hyf h11 h12 q1 q2 q3 HUN HP1 HP2 HP3 HC11 HC12
  go_wp2_with fail
  refine HFR.out.mono ?_
  rintro e w2 ⟨rfl,ha2⟩
  have hl2:fU B t m room (y::l.eraseIdx j) w2:=by
   refine bP.at_ (tb:=tb) (l0:=l) (by rw[HFU.out];exact HQ2.out.below ha2) (HR2.out.below ha2) (fun z hz=>(HFP.out.mem_iff).1 hz) HT1.out (fun x=>by rw[HFS.out x];exact HT2.out x) ?_ (by rw[HFU.out];exact HH.out.fits) (fun z hz=>HH.out.pos z ((HFP.out.mem_iff).1 hz)) (fun z hz=>HH.out.small z ((HFP.out.mem_iff).1 hz)) ⟨HH.out.ge.1,HH.out.ge.2.1,fun z hz=>HH.out.ge.2.2 z ((HFP.out.mem_iff).1 hz)⟩
   exact (HFP.out.map It.id).nodup_iff.2 HH.out.one
  have HL2:=aH hl2
  have HPK:=aH (kU B t m room _ id w2 hl2 hs)
  rw[HFS.out,HP.out]at HPK
  have HW3:=aH (HW2.out.trans (aO.below ha2 _))
  clear ha2 hl2 HFR HQ2 HR2 HW2
  go_wp2_with fail
  refine HPK.out.mono ?_
  rintro e w3 ⟨rfl,hb3⟩
  have HL3:=aH (HL2.out.below hb3)
  have HW4:=aH (HW3.out.trans (aO.below hb3 _))
  have hka:=HW4.out.blk HK0.out HNK.out
  obtain⟨x0,x1,x2,x3,x4,x5,x6,x7,x8⟩:=hka.cells9
  obtain⟨f0,f1,f2,f3,f4,f5,f6,f7,f8⟩:=hka.free9
  have HKA:=aH hka
  clear hb3 hka HPK HL2 HW3
  unfold itV EP.v lW
  dsimp only[Option.isSome_some]
  go_wp2
  clear x0 x1 x2 x3 x4 x5 x6 x7 x8 f0 f1 f2 f3 f4 f5 f6 f7 f8
  obtain⟨d0,d1,d2,d3,d4,d5,d6,d7,d8⟩:=(HKA.out.set9 (.string y.p.E.k) (.string y.p.E.v) (.int .i64 y.p.E.s) (.string y.p.E.r) (.int .i64 y.p.E.m) (.slice y.p.A y.p.E.fs.length y.p.c) (.slice y.p.X y.p.E.body.length y.p.d) (.int .i64 y.p.E.asked) (.int .i64 y.p.E.got)).cells9
  have hlz:=HL3.out.nine (fun hk=>HNK.out (LrF.perm HFP.out hk)) (fun x hx=>HRN.out x ((HFP.out.mem_iff).1 hx)) (.string y.p.E.k) (.string y.p.E.v) (.int .i64 y.p.E.s) (.string y.p.E.r) (.int .i64 y.p.E.m) (.slice y.p.A y.p.E.fs.length y.p.c) (.slice y.p.X y.p.E.body.length y.p.d) (.int .i64 y.p.E.asked) (.int .i64 y.p.E.got)
  have HLZ:=aH hlz
  have HWZ:=aH (aER (jB ((aO.below HB0.out (LrF t m l)).trans HW4.out) (zA _) (.string y.p.E.k) (.string y.p.E.v) (.int .i64 y.p.E.s) (.string y.p.E.r) (.int .i64 y.p.E.m) (.slice y.p.A y.p.E.fs.length y.p.c) (.slice y.p.X y.p.E.body.length y.p.d) (.int .i64 y.p.E.asked) (.int .i64 y.p.E.got)) (fun k hk=>LrF.perm HFP.out hk))
  unfold nine at d0 d1 d2 d3 d4 d5 d6 d7 d8
  refine bK (v:=.tuple #[.agg #[.string y.p.E.k,.string y.p.E.v,.int .i64 y.p.E.s,.string y.p.E.r,.int .i64 y.p.E.m,.slice y.p.A y.p.E.fs.length y.p.c,.slice y.p.X y.p.E.body.length y.p.d,.int .i64 y.p.E.asked,.int .i64 y.p.E.got],.bool true]) (by simp [results,Tryz.results37,go_sem,d0,d1,d2,d3,d4,d5,d6,d7,d8]) rfl ?_
  exact⟨_,rfl,HLZ.out,HWZ.out,HFS.out⟩
namespace D
def aLH (p:ByteArray × Nat):Lit × DataW Unit:=(key p.1,.agg [])
def aAH (l:NM):DataW Unit:=.map (l.map aLH)
theorem uN (nm:ByteArray) (no:Nat):∀ l:NM,DataW.insert (aLH (nm,no)) (l.map aLH)=(ins l nm no).map aLH
 | []=>rfl
 | p::r=>by
  have e:(aLH (nm,no)).1.before (aLH p).1=ltB nm p.1:=xQ _ _
  rw[List.map_cons]
  unfold DataW.insert ins
  rw[e]
  split
  ·rfl
  ·rw[List.map_cons,uN nm no r]
theorem aAG (l:NM) (nm:ByteArray):(aAH l).del (key nm)=aAH (del l nm):=by
 unfold aAH DataW.del D.del
 dsimp only
 congr 1
 rw[List.filter_map]
 congr 1
 apply List.filter_congr
 intro p _
 show (!((aLH p).1.sameKey (key nm)))=_
 unfold aLH
 dsimp only
 rw[eY]
 simp
theorem aNM (l:NM) (nm:ByteArray) (no:Nat):(aAH l).put (key nm) (.agg [])=aAH (put l nm no):=by
 have h:=aAG l nm
 unfold aAH DataW.del at h
 dsimp only at h
 have h2:(l.map aLH).filter (fun p=>!p.1.sameKey (key nm))=(del l nm).map aLH:=by injection h
 unfold aAH DataW.put
 dsimp only
 rw[h2]
 exact congrArg DataW.map (uN nm no (del l nm))
theorem aNN (l:NM) (nm:ByteArray):Maps.has (aAH l) (key nm)=(find l nm).isSome:=by
 unfold aAH
 rw[Maps.has_eq,Bool.eq_iff_iff,List.any_eq_true]
 constructor
 ·rintro⟨p,hp,hk⟩
  obtain⟨q,hq,rfl⟩:=List.mem_map.1 hp
  have:q.1=nm:=by
   have:(key q.1).sameKey (key nm)=true:=hk
   rw[eY]at this
   exact of_decide_eq_true this
  cases hf:find l nm with
  | some _=>rfl
  | none=>exact absurd this (kG hf q hq)
 ·intro h
  obtain⟨no,hno⟩:=Option.isSome_iff_exists.1 h
  exact⟨_,List.mem_map_of_mem (aI hno),by show (key nm).sameKey (key nm)=true;rw[eY];simp⟩
end D
abbrev qR:=unitElem (H:=Unit)
theorem aO5 {b n:Nat} {w:World} {l:D.NM} (h:w.ownsMap Tryz.prog 9 qR b n (D.aAH l)) (nm:ByteArray) (hs:nm.size≤maxLen) :
  (Instr.lookup 74 (.map (some b)) (.string nm) true).run Tryz.prog w=.ok (.tuple #[.agg #[],.bool (D.find l nm).isSome]) w:=by
 obtain⟨v,ps,hr,hv⟩:=h.look_ok (string_keyed dA) aAS (aEQ w) (zd:=.agg []) (zp:=[]) unitElem_mk (jU nm hs)
 obtain⟨rfl,_⟩:=unitElem_inv hv
 rw[D.aNN]at hr
 exact hr
theorem wX {b n:Nat} {w:World} {l:D.NM} (h:w.ownsMap Tryz.prog 9 qR b n (D.aAH l)):w.ownsMap Tryz.prog 9 qR b l.length (D.aAH l):=by
 obtain⟨es,cl,hb,F,hs,hD⟩:=h
 refine⟨es,cl,hb,F,?_,hD⟩
 have h1:=congrArg Maps.size hD
 unfold D.aAH at h1
 rw[Maps.size_eq,Maps.size_eq,length_sorted]at h1
 simp at h1
 omega
end Go.Proofs.YthjeglnkgdpijaaGreatDoor
namespace Go.Proofs.YthjeglnkgdpijaaGreatDoor
def sortB (l:List ByteArray):List ByteArray:=((l.map L).mergeSort fun x y=>decide (x≤y)).map B
def dK (l:List ByteArray):List ByteArray:=(Lib.compact (l.map L)).map B
theorem sU (l:List ByteArray):(sortB l).length=l.length:=by
 unfold sortB
 rw[List.length_map,List.length_mergeSort,List.length_map]
theorem wC (a b:List UInt8):(decide (a≤b)||decide (b≤a))=true:=by
 rcases List.le_total a b with h | h
 ·rw[decide_eq_true h];rfl
 ·rw[decide_eq_true h,Bool.or_true]
theorem jZ (l:List (List UInt8)):(l.mergeSort fun x y=>decide (x≤y)).Pairwise fun a b=>a≤b:=by
 have h:=List.pairwise_mergeSort (le:=fun x y:List UInt8=>decide (x≤y)) (fun a b c h1 h2=>decide_eq_true (List.le_trans (of_decide_eq_true h1) (of_decide_eq_true h2))) wC l
 exact h.imp fun h=>of_decide_eq_true h
theorem iO {l:List (List UInt8)} (h:l.Pairwise fun a b=>a≤b):((Lib.compact l).Pairwise fun a b=>a < b)∧∀ x,x∈Lib.compact l↔x∈l:=by
 have hle:∀ i j,i≤j→j < l.length→l.toArray[i]!≤l.toArray[j]!:=fun i j hij hj=>by
  have hi:i < l.length:=by omega
  rcases Nat.lt_or_ge i j with hlt | hge
  ·have:=List.pairwise_iff_getElem.1 h i j hi hj hlt
   simpa [hi,hj] using this
  ·have:i=j:=by omega
   subst this
   exact List.le_refl _
 unfold Lib.compact Lib.compactUpTo
 constructor
 ·rw[List.pairwise_map]
  have hr:((List.range l.length).filter (Lib.keeps l.toArray)).Pairwise fun a b=>a < b:=List.Pairwise.sublist List.filter_sublist List.pairwise_lt_range
  refine List.Pairwise.imp_of_mem ?_ hr
  intro i j hi hj hij
  obtain⟨_,hi2⟩:=List.mem_filter.1 hi
  obtain⟨hj1,hj2⟩:=List.mem_filter.1 hj
  have hjl:=List.mem_range.1 hj1
  have hne:l.toArray[j]!≠l.toArray[j - 1]!:=fun e=>by rw[Lib.keeps_neg (by omega) e]at hj2;cases hj2
  have h1:=hle i (j - 1) (by omega) (by omega)
  have h2:=hle (j - 1) j (by omega) hjl
  have h3:l.toArray[j - 1]! < l.toArray[j]!:=by
   by_cases h:l.toArray[j - 1]! < l.toArray[j]!
   ·exact h
   ·exact absurd (List.le_antisymm (show l.toArray[j]!≤l.toArray[j - 1]! from h) h2) hne
  exact List.lt_of_le_of_lt h1 h3
 ·intro x
  rw[List.mem_map]
  constructor
  ·rintro⟨j,hj,rfl⟩
   have hjl:=List.mem_range.1 (List.mem_filter.1 hj).1
   have:l.toArray[j]! = l[j]:=by simp [hjl]
   rw[this]
   exact List.getElem_mem hjl
  ·intro hx
   obtain⟨j,hj,e⟩:=List.getElem_of_mem hx
   -- the first place of x
   have key:∀ j,j < l.length→l.toArray[j]! = x→∃ i,i∈(List.range l.length).filter (Lib.keeps l.toArray)∧l.toArray[i]! = x:=by
    intro j
    induction j with
    | zero=>exact fun hj e=>⟨0,List.mem_filter.2 ⟨List.mem_range.2 hj,Lib.keeps_lt_one _ 0 (by omega)⟩,e⟩
    | succ j ih =>
     intro hj e
     by_cases hp:l.toArray[j]! = x
     ·exact ih (by omega) hp
     ·exact⟨j+1,List.mem_filter.2 ⟨List.mem_range.2 hj,Lib.keeps_pos (show l.toArray[j+1]!≠l.toArray[j+1 - 1]! by rw[Nat.add_sub_cancel,e];exact fun h=>hp h.symm)⟩,e⟩
   exact key j hj (by simp [hj,e])
def setB (l:List ByteArray):List ByteArray:=dK (sortB l)
theorem aIX (l:List ByteArray):setB l=(Lib.compact ((l.map L).mergeSort fun x y=>decide (x≤y))).map B:=by
 unfold setB dK sortB
 rw[List.map_map]
 congr 2
 conv=>rhs;rw[← List.map_id ((l.map L).mergeSort fun x y=>decide (x≤y))]
 apply List.map_congr_left
 intro x _
 exact L_B x
theorem iT (l:List ByteArray):(setB l).Pairwise fun a b=>D.ltB a b=true:=by
 rw[aIX,List.pairwise_map]
 refine ((iO (jZ (l.map L))).1).imp fun {a b} h=>?_
 unfold D.ltB
 rw[L_B,L_B]
 exact decide_eq_true h
theorem iD {l:List ByteArray} {x:ByteArray}:x∈setB l↔x∈l:=by
 rw[aIX,List.mem_map]
 constructor
 ·rintro⟨y,hy,rfl⟩
  rw[(iO (jZ (l.map L))).2,List.mem_mergeSort]at hy
  obtain⟨z,hz,rfl⟩:=List.mem_map.1 hy
  rw[B_L]
  exact hz
 ·intro hx
  exact⟨L x,by rw[(iO (jZ (l.map L))).2];exact List.mem_mergeSort.2 (List.mem_map_of_mem hx),B_L x⟩
theorem kN:∀ {l m:List ByteArray},(l.Pairwise fun a b=>D.ltB a b=true)→(m.Pairwise fun a b=>D.ltB a b=true)→(∀ x,x∈l↔x∈m)→l=m
 | [],[],_,_,_=>rfl
 | [],y::_,_,_,h=>by have:=(h y).2 (by simp);cases this
 | x::_,[],_,_,h=>by have:=(h x).1 (by simp);cases this
 | x::l,y::m,hl,hm,h=>by
  obtain⟨h1,h2⟩:=List.pairwise_cons.1 hl
  obtain⟨h3,h4⟩:=List.pairwise_cons.1 hm
  have e:x=y:=by
   rcases List.mem_cons.1 ((h x).1 (by simp)) with e | hx
   ·exact e
   ·rcases List.mem_cons.1 ((h y).2 (by simp)) with e | hy
    ·exact e.symm
    ·have:=D.lt_trans (h3 x hx) (h1 y hy)
     rw[D.lt_irrefl]at this
     cases this
  subst e
  congr 1
  refine kN h2 h4 fun z=>⟨fun hz=>?_,fun hz=>?_⟩
  ·rcases List.mem_cons.1 ((h z).1 (List.mem_cons_of_mem _ hz)) with e | hz'
   ·have:=h1 z hz
    rw[e,D.lt_irrefl]at this
    cases this
   ·exact hz'
  ·rcases List.mem_cons.1 ((h z).2 (List.mem_cons_of_mem _ hz)) with e | hz'
   ·have:=h3 z hz
    rw[e,D.lt_irrefl]at this
    cases this
   ·exact hz'
open Go Go.RowKit Go.Maps
section
variable {B k:Nat} {M:DM} {d:D.Dsk} {X:SM} {s:S.Sto} {w w':World} {F F':Nat→Prop}
theorem dD.under (h:dD B M d w) (hf:M.foot d k):B≤k:=by
 rcases hf with rfl | rfl | rfl | hf | ⟨no,hn,rfl | hf⟩
 ·exact h.ge.1
 ·exact h.ge.2.1
 ·exact h.ge.2.2
 ·exact (h.pend.lt k hf).1
 ·exact (h.files no hn).ge
 ·exact ((h.files no hn).row.lt k hf).1
theorem eU.under (h:eU B X s w) (hf:X.foot s k):B≤k:=by
 rcases hf with hf | rfl | rfl | rfl | hf
 ·exact h.log.disk.under hf
 ·exact h.log.ge
 ·exact h.ge.1
 ·exact h.ge.2
 ·exact (h.used.lt k hf).1
theorem aO.under (h:aO F w F' w') (hF:∀ k,F k→B≤k) (hB:B≤w.heap.size):Below B w w' :=
 ⟨h.os,h.tape,h.output,h.size,fun k hk=>h.block k (Nat.lt_of_lt_of_le hk hB) (fun hf=>by have:=hF k hf;omega)⟩
end
end Go.Proofs.YthjeglnkgdpijaaGreatDoor
