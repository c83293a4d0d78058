/- The walks of lru's Drop, Peek, Keys, New and Get at entries (printed by gen/lrub.py). Conditions: keys of at most 2^30 bytes. -/
import Derived.Test.YthjeglnkgdpijaaGreatDoorLruA
set_option maxHeartbeats 2000000
set_option maxRecDepth 100000
namespace Go.Proofs.YthjeglnkgdpijaaGreatDoor
open Go Go.RowKit Go.Maps
open Lr (Ring nG aHA Fr nx pv adr)
def aNP (l l':List It):Prop:=∀ x,Lr.peek l' x=Lr.peek l x
theorem nV (B t m room:Nat) (l:List It) (id:ByteArray) (w:World) (h:fG B t m room l w) (hs:id.size≤1073741824) :
  Calls Tryz.prog 29 #[.pointer (some ⟨t,0,none⟩),.string id] w (fun e w'=>∃ l' b,e=.returned (.bool b)∧fG B t m room l' w'∧aO (LrF t m l) w (LrF t m l') w'∧∀ x,Lr.peek l' x=if x=id then none else Lr.peek l x):=by
 obtain⟨tb,t1,t2,hb⟩:=h.base
 have hlk:=hb.look id hs
 rw[t2]at hlk
 obtain⟨y0,y1,y2⟩:=h.tabc
 have HH:=aH h
 clear t1 t2 hb hs
 cases hp:Lr.peek l id with
 | none =>
  rw[hp]at hlk
  change _=Result.ok (Value.pointer none) w at hlk
  have HP:=aH hp
  clear h hp
  go_enter Tryz.func29,Tryz.ntmps29
  go_wp2
  go_ret
  refine⟨l,false,rfl,HH.out,aO.refl _ _,fun x=>?_⟩
  by_cases hx:x=id
  ·rw[if_pos hx,hx,HP.out]
  ·rw[if_neg hx]
 | some y =>
  rw[hp]at hlk
  change _=Result.ok (Value.pointer (some ⟨y.k,0,none⟩)) w at hlk
  obtain⟨j,hj,e1,e2⟩:=Lr.sN hp
  have HR:=aH (oW B t m room j l w h hj)
  have HPE:=aH (fun x=>Lr.kD h.one hj x)
  rw[e1]at HR
  rw[e1,e2]at HPE
  clear h hp e1 e2 hj
  go_enter Tryz.func29,Tryz.ntmps29
  go_wp2_with fail
  clear hlk y0 y1 y2
  refine HR.out.mono ?_
  rintro e w1 ⟨rfl,h1,hw1⟩
  have H1:=aH h1
  have HW1:=aH hw1
  clear h1 hw1
  go_wp2
  go_ret
  exact⟨_,true,rfl,H1.out,HW1.out,HPE.out⟩
def EP.nil:EP:=⟨O.Ent.zero,none,0,none,0⟩
def itV (o:Option It):Value:=match o with
 | some x=>x.p.v
 | none=>EP.nil.v
def aDV (w:World) (o:Option It) (e:Ending) (w':World):Prop:=e=.returned (.tuple #[itV o,.bool o.isSome])∧Below w.heap.size w w'
theorem kG (B t m room:Nat) (l:List It) (id:ByteArray) (w:World) (h:fG B t m room l w) (hs:id.size≤1073741824) :
  Calls Tryz.prog 45 #[.pointer (some ⟨t,0,none⟩),.string id] w (aDV w (Lr.peek l id)):=by
 obtain⟨w0,hw0⟩:∃ w0,w.alloc (.cells #[.string ⟨#[]⟩,.string ⟨#[]⟩,.int .i64 0,.string ⟨#[]⟩,.int .i64 0,.slice none 0 0,.slice none 0 0,.int .i64 0,.int .i64 0] 41)=w0:=⟨_,rfl⟩
 have hb0:Below w.heap.size w w0:=by rw[← hw0];exact (zB _ _).alloc (zA _) _
 have hk0:=Blk.new w #[.string ⟨#[]⟩,.string ⟨#[]⟩,.int .i64 0,.string ⟨#[]⟩,.int .i64 0,.slice none 0 0,.slice none 0 0,.int .i64 0,.int .i64 0] 41
 rw[hw0]at hk0
 have h0:=h.below hb0
 obtain⟨tb,t1,t2,hb⟩:=h0.base
 have hlk:=hb.look id hs
 rw[t2]at hlk
 obtain⟨y0,y1,y2⟩:=h0.tabc
 have HB0:=aH hb0
 have HK0:=aH hk0
 clear t1 t2 hb hs hb0 hk0
 cases hp:Lr.peek l id with
 | none =>
  rw[hp]at hlk
  change _=Result.ok (Value.pointer none) w0 at hlk
  clear h h0 hp
  go_enter Tryz.func45,Tryz.ntmps45
  go_upto_region 3 with fail
  clear hlk y0 y1 y2
  obtain⟨w1,hw1⟩:∃ w1,w0.alloc (.cells #[.string ⟨#[]⟩,.string ⟨#[]⟩,.int .i64 0,.string ⟨#[]⟩,.int .i64 0,.slice none 0 0,.slice none 0 0,.int .i64 0,.int .i64 0] 41)=w1:=⟨_,rfl⟩
  have hb1:Below w0.heap.size w0 w1:=by rw[← hw1];exact (zB _ _).alloc (zA _) _
  have hk1:=Blk.new w0 #[.string ⟨#[]⟩,.string ⟨#[]⟩,.int .i64 0,.string ⟨#[]⟩,.int .i64 0,.slice none 0 0,.slice none 0 0,.int .i64 0,.int .i64 0] 41
  rw[hw1]at hk1
  have hka:=HK0.out.below hb1
  have HB1:=aH (aA HB0.out.size HB0.out hb1)
  obtain⟨z0,z1,z2,z3,z4,z5,z6,z7,z8⟩:=hk1.cells9
  obtain⟨x0,x1,x2,x3,x4,x5,x6,x7,x8⟩:=hka.cells9
  obtain⟨f0,f1,f2,f3,f4,f5,f6,f7,f8⟩:=hka.free9
  have HKA:=aH hka
  clear hb1 hk1 hka
  go_wp2
  clear x0 x1 x2 x3 x4 x5 x6 x7 x8 f0 f1 f2 f3 f4 f5 f6 f7 f8 z0 z1 z2 z3 z4 z5 z6 z7 z8
  obtain⟨d0,d1,d2,d3,d4,d5,d6,d7,d8⟩:=(HKA.out.set9 (.string ⟨#[]⟩) (.string ⟨#[]⟩) (.int .i64 0) (.string ⟨#[]⟩) (.int .i64 0) (.slice none 0 0) (.slice none 0 0) (.int .i64 0) (.int .i64 0)).cells9
  unfold nine at d0 d1 d2 d3 d4 d5 d6 d7 d8
  refine bK (v:=.tuple #[.agg #[.string ⟨#[]⟩,.string ⟨#[]⟩,.int .i64 0,.string ⟨#[]⟩,.int .i64 0,.slice none 0 0,.slice none 0 0,.int .i64 0,.int .i64 0],.bool false]) (by simp [results,Tryz.results45,go_sem,d0,d1,d2,d3,d4,d5,d6,d7,d8]) rfl ?_
  exact⟨rfl,aK HB1.out (zA _) _ _ _ _ _ _ _ _ _⟩
 | some y =>
  rw[hp]at hlk
  change _=Result.ok (Value.pointer (some ⟨y.k,0,none⟩)) w0 at hlk
  have hy:=List.mem_of_find?_eq_some hp
  obtain⟨z0,z1,z2,z3,z4,z5,z6,z7,z8,z9,z10⟩:=h0.node y hy
  clear h h0 hp hy z0 z10
  go_enter Tryz.func45,Tryz.ntmps45
  obtain⟨x0,x1,x2,x3,x4,x5,x6,x7,x8⟩:=HK0.out.cells9
  obtain⟨f0,f1,f2,f3,f4,f5,f6,f7,f8⟩:=HK0.out.free9
  go_wp2
  clear x0 x1 x2 x3 x4 x5 x6 x7 x8 f0 f1 f2 f3 f4 f5 f6 f7 f8 z1 z2 z3 z4 z5 z6 z7 z8 z9 hlk y0 y1 y2
  obtain⟨d0,d1,d2,d3,d4,d5,d6,d7,d8⟩:=(HK0.out.set9 (.string y.p.E.k) (.string y.p.E.v) (.int .i64 y.p.E.s) (.string y.p.E.r) (.int .i64 y.p.E.m) (.slice y.p.A y.p.E.fs.length y.p.c) (.slice y.p.X y.p.E.body.length y.p.d) (.int .i64 y.p.E.asked) (.int .i64 y.p.E.got)).cells9
  unfold nine at d0 d1 d2 d3 d4 d5 d6 d7 d8
  refine bK (v:=.tuple #[.agg #[.string y.p.E.k,.string y.p.E.v,.int .i64 y.p.E.s,.string y.p.E.r,.int .i64 y.p.E.m,.slice y.p.A y.p.E.fs.length y.p.c,.slice y.p.X y.p.E.body.length y.p.d,.int .i64 y.p.E.asked,.int .i64 y.p.E.got],.bool true]) (by simp [results,Tryz.results45,go_sem,d0,d1,d2,d3,d4,d5,d6,d7,d8]) rfl ?_
  exact⟨rfl,aK HB0.out (zA _) _ _ _ _ _ _ _ _ _⟩
theorem Tryz.infoNode:(Tryz.prog.info? 122).map (fun i=>i.size)=some 13:=by kernel_rfl
theorem yF {P:Program} {tp te:TypeId} {j:TypeInfo} {w:World} {a b:Addr} {ta tb:TypeId} (hp:P.underlying tp=some (.pointer te)) (hte:P.info? te=some j) (hj:j.size≠0) (hne:a≠b) (ha:Fr w a.block ta) (hb:Fr w b.block tb) :
  (binOp .neq tp (.pointer (some a)) (.pointer (some b))).run P w=.ok (.bool true) w:=by
 obtain⟨ca,ha⟩:=ha
 obtain⟨cb,hb⟩:=hb
 have h:∀ d:Nat,(Op.equalIn (d+1) tp (.pointer (some a)) (.pointer (some b))).run P w=.ok false w:=fun d=>by
  simp [Op.equalIn,run_underlying hp,sizeOf,typeInfo,hte,hj,run_sameAddr_other (P:=P) (w:=w) hne ha hb]
 simp only[binOp]
 simp [Op.equal,Op.maxDepth,h 9999]
theorem aLF {w:World} {a b:Addr} {ta tb:TypeId} (hne:a≠b) (ha:Fr w a.block ta) (hb:Fr w b.block tb):(binOp .neq 119 (.pointer (some a)) (.pointer (some b))).run Tryz.prog w=.ok (.bool true) w:=by
 obtain⟨j,hj,hs⟩:=Option.map_eq_some_iff.1 Tryz.infoNode
 exact yF Tryz.underlying119 hj (by rw[hs];decide) hne ha hb
theorem aIE (a:Addr) (w:World):(binOp .neq 119 (.pointer (some a)) (.pointer (some a))).run Tryz.prog w=.ok (.bool false) w:=by
 obtain⟨j,hj,_⟩:=Option.map_eq_some_iff.1 Tryz.infoNode
 exact Lib.run_neq_ptr_same w a Tryz.underlying119 hj
theorem aF5 (B t m room:Nat) (l:List It) (w:World) (h:fG B t m room l w) :
  Calls Tryz.prog 62 #[.pointer (some ⟨t,0,none⟩)] w (dN w 9 1 (Lr.ids l).length (aC (Lr.ids l))):=by
 have HH:=aH h
 have hlen:=h.len
 have HIL:Hid ((Lr.ids l).length=l.length):=aH (by unfold Lr.ids;rw[List.length_map])
 obtain⟨l1,l2⟩:=h.ring.link 0 (zF _)
 have y15:w.cell? ⟨t,15,none⟩=some (.pointer (some (adr t l 1))):=l1
 clear h l1 l2
 go_enter Tryz.func62,Tryz.ntmps62
 go_wp2_with fail
 clear y15
 go_loopw [3,4] (fun a n wr=>∃ (k:Nat) (A:Option Addr) (c:Nat),k≤l.length∧a=.slice A k c∧n=.pointer (some (adr t l (k+1)))∧Row wr w.heap.size 9 1 A k c (aC ((Lr.ids l).take k))∧Below w.heap.size w wr) (fun a _ _=>l.length - (match a with | .slice _ n _=>n | _=>0))
 case atStart=>exact⟨0,none,0,zF _,rfl,rfl,Row.none_ _ _ _ _,zB _ _⟩
 case round =>
  obtain⟨k,A,c,hk,rfl,rfl,hrow,hbe⟩:=hrel
  have HROW:=aH hrow
  have HBE:=aH hbe
  have HL:=aH (HH.out.below hbe)
  clear hrow hbe
  obtain⟨wo,rfl⟩:∃ wo:World,wo=wr:=⟨_,rfl⟩
  by_cases hlt:k < l.length
  ·have hxm:=List.getElem_mem hlt
   have hne:=HL.out.ring.ne hxm
   have hnode:=(HL.out.node _ hxm).1
   obtain⟨l3,l4⟩:=HL.out.ring.link (k+1) (by omega)
   rw[Lr.fC hlt]at l3 ⊢
   have y12:wo.cell? ⟨(l[k]'hlt).k,12,none⟩=some (.pointer (some (adr t l (k+2)))):=l3
   have HNX:=aH (fun (u:World) (hu:fG B t m room l u)=>(by have:=(hu.ring.link (k+1) (by omega)).1;rw[Lr.fC hlt]at this;exact this:u.cell? ⟨(l[k]'hlt).k,12,none⟩=some (.pointer (some (adr t l (k+2))))))
   have HTK:Hid ((Lr.ids l).take (k+1)=(Lr.ids l).take k++[(l[k]'hlt).id]):=aH (by
    rw[bI (by rw[HIL.out];exact hlt)]
    congr 2
    unfold Lr.ids
    rw[List.getElem_map])
   have hcmp:=aLF (w:=wo) (a:=⟨(l[k]'hlt).k,0,none⟩) (b:=⟨t,3,none⟩) (fun e=>hne (congrArg Addr.block e)) (HL.out.ring.nd _ hxm) HL.out.ring.tb
   obtain⟨kk,hkk⟩:∃ kk,(l[k]'hlt).k=kk:=⟨_,rfl⟩
   obtain⟨id,hid⟩:∃ id,(l[k]'hlt).id=id:=⟨_,rfl⟩
   rw[hkk]at hne hnode y12 HNX hcmp ⊢
   rw[hid]at hnode HTK
   have HNEW:=aH (aLH wo id)
   have HL60:Hid (k+1≤4398046511104):=aH (by omega)
   have hba:Below wo.heap.size wo (wo.alloc (.cells #[.string id] 9)):=(zB _ _).alloc (zA _) _
   have HLA:=aH (HL.out.below hba)
   have HRA:=aH (HROW.out.below hba)
   have HBA:=aH (aA HBE.out.size HBE.out hba)
   have HZA:Hid (w.heap.size≤(wo.alloc (.cells #[.string id] 9)).heap.size):=aH HBA.out.size
   clear hkk hid l3 l4 hxm hba y12
   go_wp2_with (at_builtin;refine aKJ _ rfl _ _ rfl w.heap.size A k c ((Lr.ids l).take k) rfl HRA.out _ 1 1 [id] rfl HNEW.out HL60.out HZA.out ?_;intro A8 c8 w9 hr9 ha9;rw[← HTK.out]at hr9;have HR9:=aH hr9;have hb9:=ha9.below HRA.out HZA.out;have HB9:=aH (HBA.out.trans hb9);have HL9:=aH (HH.out.below (HBA.out.trans hb9));have y12:=HNX.out w9 HL9.out;clear hr9 ha9 hb9 hnode)
   go_roundw
   case rel=>exact⟨k+1,A8,c8,by omega,rfl,rfl,HR9.out,HB9.out⟩
   case measure=>simp;omega
  ·obtain rfl:k=l.length:=by omega
   rw[Lr.aDS]
   unfold Lr.head
   have hcmp:=aIE ⟨t,3,none⟩ wo
   have HTK:Hid ((Lr.ids l).take l.length=Lr.ids l):=aH (by rw[← HIL.out,List.take_length])
   go_wp2
   go_ret
   have hr:=HROW.out
   rw[HTK.out]at hr
   exact⟨A,c,by rw[HIL.out];rfl,by rw[HIL.out];exact hr,HBE.out⟩
def Lr.roomOf (r:Int):Nat:=(min (max r 0) 1073741824).toNat
theorem aIM (r:Int) (w:World) :
  Calls Tryz.prog 46 #[.int .i64 r] w (fun e w'=>∃ t m,e=.returned (.pointer (some ⟨t,0,none⟩))∧fG w.heap.size t m (Lr.roomOf r) [] w'∧Below w.heap.size w w'):=by
 have hro:((Lr.roomOf r:Nat):Int)=min (max r 0) 1073741824:=by unfold Lr.roomOf;omega
 have hmm:=@run_makeMap Tryz.prog
 obtain⟨ro,hr⟩:∃ ro,Lr.roomOf r=ro:=⟨_,rfl⟩
 have HRO:=aH hr
 rw[hr]at hro
 have hle:ro≤1073741824:=by omega
 clear hr
 go_enter Tryz.func46,Tryz.ntmps46
 go_upto_region 2 with fail
 obtain⟨w1,hw1⟩:∃ w1,w.alloc (.map #[] 0)=w1:=⟨_,rfl⟩
 have hm1:w1.ownsMap Tryz.prog 9 D.iM w.heap.size 0 (.map []):=by rw[← hw1];exact World.ownsMap_made w Tryz.prog 9 D.iM
 have hs1:w1.heap.size=w.heap.size+1:=by rw[← hw1];exact bJ ..
 have hb1:Below w.heap.size w w1:=by rw[← hw1];exact (zB _ _).alloc (zA _) _
 rw[hw1]
 rw[← hro]
 obtain⟨w2,hw2⟩:∃ w2,w1.alloc (.cells #[.int .i64 ro,.int .i64 0,.map (some w.heap.size),.string ⟨#[]⟩,.string ⟨#[]⟩,.string ⟨#[]⟩,.int .i64 0,.string ⟨#[]⟩,.int .i64 0,.slice none 0 0,.slice none 0 0,.int .i64 0,.int .i64 0,.int .i64 0,.pointer none,.pointer none] Lr.tT)=w2:=⟨_,rfl⟩
 have hk2:=Blk.new w1 #[.int .i64 ro,.int .i64 0,.map (some w.heap.size),.string ⟨#[]⟩,.string ⟨#[]⟩,.string ⟨#[]⟩,.int .i64 0,.string ⟨#[]⟩,.int .i64 0,.slice none 0 0,.slice none 0 0,.int .i64 0,.int .i64 0,.int .i64 0,.pointer none,.pointer none] Lr.tT
 have hb2:Below w1.heap.size w1 w2:=by rw[← hw2];exact (zB _ _).alloc (zA _) _
 change Code.wp _ _ _ _ (w1.alloc (.cells _ Lr.tT))
 rw[hw2]at hk2 ⊢
 rw[hs1]at hk2
 have HM2:=aH (hm1.kept (show w1.grownBy w2 none from⟨hb2.os,hb2.tape,hb2.output,hb2.size,fun k hk _=>hb2.block k hk⟩) (by simp))
 have HB2:=aH (aA hb1.size hb1 hb2)
 have HK2:=aH hk2
 have hS0:After w2 w2.drew:=(zB _ _).drew
 have HWD:=aH hS0
 clear hm1 hs1 hb1 hb2 hk2 hw1 hw2 hro hmm
 refine wp_region_noPanic ?_
 refine HT.begin (n:=12) (S:=(fun _=>True)) (by kernel_rfl) trivial ?_
 clear hS0
 generalize w2.drew=wd at *
 refine HT.take 0 (.pointer (some ⟨w.heap.size+1,0,none⟩)) rfl (by kernel_rfl) (fun _ _ _ h=>h) (Or.inl ⟨by rfl,?_⟩) ?_
 ·intro u hu
  go_simp
 refine HT.take 1 (.pointer (some ⟨w.heap.size+1,0,none⟩)) rfl (by kernel_rfl) (fun _ _ _ h=>h) (Or.inl ⟨by rfl,?_⟩) ?_
 ·intro u hu
  go_simp
 refine HT.take 2 (.pointer (some ⟨w.heap.size+1,0,none⟩)) rfl (by kernel_rfl) (fun _ _ _ h=>h) (Or.inl ⟨by rfl,?_⟩) (?_:HT _ _ _ _ _ _ _ ⟨#[_,_,_,.pointer (some ⟨w.heap.size+1,0,none⟩),_,_,_,_,_,_,.pointer (some ⟨w.heap.size+1,0,none⟩),.pointer (some ⟨w.heap.size+1,0,none⟩),.pointer (some ⟨w.heap.size+1,0,none⟩),_,_,_,_,_,_,_,_,_,_,_,_],[]⟩ _)
 ·intro u hu
  go_simp
 refine HT.take 3 (.pointer (some ⟨w.heap.size+1,0,none⟩)) rfl (by kernel_rfl) (fun _ _ _ h=>h) (Or.inl ⟨by rfl,?_⟩) ?_
 ·intro u hu
  go_simp
 refine HT.take 4 (.pointer (some ⟨w.heap.size+1,3,none⟩)) rfl (by kernel_rfl) (fun _ _ _ h=>h) (Or.inl ⟨by rfl,?_⟩) ?_
 ·intro u hu
  go_simp
 refine HT.take 5 (.pointer (some ⟨w.heap.size+1,0,none⟩)) rfl (by kernel_rfl) (fun _ _ _ h=>h) (Or.inl ⟨by rfl,?_⟩) (?_:HT _ _ _ _ _ _ _ ⟨#[_,_,_,.pointer (some ⟨w.heap.size+1,0,none⟩),_,_,_,_,_,_,.pointer (some ⟨w.heap.size+1,0,none⟩),.pointer (some ⟨w.heap.size+1,0,none⟩),.pointer (some ⟨w.heap.size+1,0,none⟩),.pointer (some ⟨w.heap.size+1,0,none⟩),.pointer (some ⟨w.heap.size+1,3,none⟩),.pointer (some ⟨w.heap.size+1,0,none⟩),_,_,_,_,_,_,_,_,_],[]⟩ _)
 ·intro u hu
  go_simp
 refine HT.take 6 (.pointer (some ⟨w.heap.size+1,0,none⟩)) rfl (by kernel_rfl) (fun _ _ _ h=>h) (Or.inl ⟨by rfl,?_⟩) ?_
 ·intro u hu
  go_simp
 refine HT.take 7 (.pointer (some ⟨w.heap.size+1,3,none⟩)) rfl (by kernel_rfl) (fun _ _ _ h=>h) (Or.inl ⟨by rfl,?_⟩) ?_
 ·intro u hu
  go_simp
 refine HT.take 8 (.pointer (some ⟨w.heap.size+1,0,none⟩)) rfl (by kernel_rfl) (fun _ _ _ h=>h) (Or.inl ⟨by rfl,?_⟩) (?_:HT _ _ _ _ _ _ _ ⟨#[_,_,_,.pointer (some ⟨w.heap.size+1,0,none⟩),_,_,_,_,_,_,.pointer (some ⟨w.heap.size+1,0,none⟩),.pointer (some ⟨w.heap.size+1,0,none⟩),.pointer (some ⟨w.heap.size+1,0,none⟩),.pointer (some ⟨w.heap.size+1,0,none⟩),.pointer (some ⟨w.heap.size+1,3,none⟩),.pointer (some ⟨w.heap.size+1,0,none⟩),.pointer (some ⟨w.heap.size+1,0,none⟩),.pointer (some ⟨w.heap.size+1,3,none⟩),.pointer (some ⟨w.heap.size+1,0,none⟩),_,_,_,_,_,_],[]⟩ _)
 ·intro u hu
  go_simp
 refine HT.take 9 (.pointer (some ⟨w.heap.size+1,3,none⟩)) rfl (by kernel_rfl) (fun _ _ _ h=>h) (Or.inl ⟨by rfl,?_⟩) ?_
 ·intro u hu
  go_simp
 refine HT.take 10 (.pointer (some ⟨w.heap.size+1,14,none⟩)) rfl (by kernel_rfl) (fun _ _ _ h=>h) (Or.inl ⟨by rfl,?_⟩) (?_:HT _ _ _ _ _ _ _ ⟨#[_,_,_,.pointer (some ⟨w.heap.size+1,0,none⟩),_,_,_,_,_,_,.pointer (some ⟨w.heap.size+1,0,none⟩),.pointer (some ⟨w.heap.size+1,0,none⟩),.pointer (some ⟨w.heap.size+1,0,none⟩),.pointer (some ⟨w.heap.size+1,0,none⟩),.pointer (some ⟨w.heap.size+1,3,none⟩),.pointer (some ⟨w.heap.size+1,0,none⟩),.pointer (some ⟨w.heap.size+1,0,none⟩),.pointer (some ⟨w.heap.size+1,3,none⟩),.pointer (some ⟨w.heap.size+1,0,none⟩),.pointer (some ⟨w.heap.size+1,3,none⟩),.pointer (some ⟨w.heap.size+1,14,none⟩),_,_,_,_],[]⟩ _)
 ·intro u hu
  go_simp
 refine HT.step 11 rfl (by kernel_rfl) (fun hS K hK=>?_)
 go_simp
 have hk3:=HK2.out.below HWD.out
 have e1:=hk3.cell 14 rfl
 have g1:=hk3.free 14
 go_simp
 refine hK.out _ _ trivial ?_
 have hk4:=hk3.set 14 (.pointer (some ⟨w.heap.size+1,3,none⟩))
 have HK4:=aH hk4
 have e2:=hk4.cell 15 rfl
 have g2:=hk4.free 15
 clear hK hS e1 g1 hk3 hk4
 refine HT.tail _ rfl rfl (by kernel_rfl) (fun hS=>?_)
 clear hS
 go_wp2
 refine NoPanic.normal ?_
 go_wp2
 go_ret
 have hk5:=HK4.out.set 15 (.pointer (some ⟨w.heap.size+1,3,none⟩))
 have hb5:=aJ (aJ (aA HB2.out.size HB2.out HWD.out) (b:=w.heap.size+1) (by omega) 14 (.pointer (some ⟨w.heap.size+1,3,none⟩))) (b:=w.heap.size+1) (by omega) 15 (.pointer (some ⟨w.heap.size+1,3,none⟩))
 have hm3:=HM2.out.kept (show w2.grownBy wd none from⟨HWD.out.os,HWD.out.tape,HWD.out.output,HWD.out.size,fun k hk _=>HWD.out.block k hk⟩) (by simp)
 have hm4:=(hm3.kept (aT wd (w.heap.size+1) 14 (.pointer (some ⟨w.heap.size+1,3,none⟩))) (by simp)).kept (aT _ (w.heap.size+1) 15 (.pointer (some ⟨w.heap.size+1,3,none⟩))) (by simp)
 rw[HRO.out]
 refine⟨w.heap.size+1,w.heap.size,rfl,⟨⟨fun i hi=>?_,⟨_,hk5⟩,(fun _ h=>by cases h),by simp⟩,⟨hk5.cell 0 rfl,hk5.cell 1 rfl,hk5.cell 2 rfl⟩,(fun _ h=>by cases h),⟨[],List.Pairwise.nil,hm4,fun _=>rfl⟩,(fun _ h=>by cases h),List.nodup_nil,⟨zF _,hle⟩,(fun _ h=>by cases h),(fun _ h=>by cases h),⟨by omega,zA _,(fun _ h=>by cases h)⟩⟩,hb5⟩
 obtain rfl:i=0:=Nat.le_zero.1 hi
 exact⟨hk5.cell 15 rfl,hk5.cell 14 rfl⟩
end Go.Proofs.YthjeglnkgdpijaaGreatDoor
