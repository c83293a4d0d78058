/- The walk of lru's Put at entries. The walk of the store's Open over a new disk. Conditions: as each theorem states them. -/
import Derived.Test.YthjeglnkgdpijaaGreatDoorZ27
set_option maxHeartbeats 4000000
set_option maxRecDepth 100000
namespace Go.Proofs.YthjeglnkgdpijaaGreatDoor
open Go Go.RowKit Go.Maps
open Lr (Ring nG aHA Fr nx pv adr)
section
variable {F F':Nat→Prop} {w w1 w2:World} {b B t m room u:Nat} {tb:D.NM} {l:List It} {x:It} {A:Option Addr} {c n:Nat}
theorem jY {b:Nat} (h:aO F w F' w1) (hb:Below b w1 w2) (hw:w.heap.size≤b):aO F w F' w2 :=
 ⟨hb.os.trans h.os,hb.tape.trans h.tape,hb.output.trans h.output,bD h.size hb.size,fun k hk hn=>(hb.block k (by omega)).trans (h.block k hk hn),h.foot⟩
theorem bF.cons (h:bF B t m room u tb l w) (h1:nG w x) (h2:Fr w x.k Lr.nT) (h3:gB w B x.p):bF B t m room u tb (x::l) w :=
 ⟨h.fr,h.tabc,fun y hy=>by
  rcases List.mem_cons.1 hy with rfl | hy
  ·exact⟨h1,h2⟩
  ·exact h.node y hy,h.items,fun y hy=>by
  rcases List.mem_cons.1 hy with rfl | hy
  ·exact h3
  ·exact h.own y hy⟩
theorem fG.app {e:TypeId} {s base:Nat} {xs:List Value} {A':Option Addr} {c':Nat} (h:fG B t m room l w) (hr:Row w base e s A n c xs) (ha:App w w1 A c A' c') (h1:e≠Lr.tT) (h2:e≠Lr.nT) (h3:e≠60) (h4:e≠5):fG B t m room l w1:=by
 have hw:aO (fun k=>ownB A c=some k) w (fun k=>ownB A c=some k) w1:=aO.grown ha.grown (fun k e=>e) (fun _ h=>.inl h)
 refine h.went hw (fun k hk e=>h.off (hr.tag e) h1 h2 hk) (fun x hx k hk e=>?_)
 rcases hk with hk | hk
 ·exact ((h.own x hx).1.tag hk).ne (hr.tag e) h3.symm rfl
 ·exact ((h.own x hx).2.tag hk).ne (hr.tag e) h4.symm rfl
end
theorem aA9:∀ {a b:List ByteArray},a.Nodup→(∀ x∈a,x∈b)→a.length≤b.length
 | [],_,_,_=>zF _
 | x::r,b,h,hs=>by
  obtain⟨s,t,rfl⟩:=List.append_of_mem (hs x (by simp))
  obtain⟨h1,h2⟩:=List.nodup_cons.1 h
  have:=aA9 (a:=r) (b:=s++t) h2 (fun y hy=>by
   have h3:=hs y (List.mem_cons_of_mem _ hy)
   have h4:y≠x:=fun e=>h1 (e ▸ hy)
   simpa [h4] using h3)
  simp at this ⊢
  omega
theorem aPT {tb:D.NM} {l:List It} (h:D.Up tb) (hf:∀ id,D.find tb id=(Lr.peek l id).map (·.k)):tb.length≤l.length:=by
 have h1:(tb.map (·.1)).Nodup:=by
  unfold D.Up at h
  exact (List.pairwise_map.2 (h.imp (fun {a b} e e2=>by rw[e2,D.lt_irrefl]at e;cases e)))
 have h2:=aA9 (b:=Lr.ids l) h1 (fun x hx=>by
  obtain⟨p,hp,rfl⟩:=List.mem_map.1 hx
  cases hq:Lr.peek l p.1 with
  | none =>
   have h3:=hf p.1
   rw[hq]at h3
   exact absurd rfl (D.jT h3 p hp)
  | some y =>
   obtain⟨j,hj,e1,e2⟩:=Lr.sN hq
   exact List.mem_map.2 ⟨y,e1 ▸ List.getElem_mem hj,e2⟩)
 unfold Lr.ids at h2
 simpa using h2
def aFA (l l':List It):Prop:=∀ x,Lr.peek l' x=none∨Lr.peek l' x=Lr.peek l x
def aM4 (B t m room:Nat) (l:List It) (id:ByteArray) (q:EP) (z:Nat) (w:World) (e:Ending) (w':World):Prop :=
 (room < z∧e=.returned (.tuple #[.slice none 0 0,.bool false])∧fG B t m room l w'∧Below w.heap.size w w') ∨
 (z≤room∧∃ (A:Option Addr) (n c k:Nat) (l1:List It),e=.returned (.tuple #[.slice A n c,.bool true])∧fG B t m room (⟨id,q,z,k⟩::l1) w'∧aO (LrF t m l) w (LrF t m (⟨id,q,z,k⟩::l1)) w'∧aFA l l1∧Lr.peek l1 id=none)
theorem aIL (B t m room:Nat) (l:List It) (id:ByteArray) (q:EP) (z:Nat) (w:World) (h:fG B t m room l w) (hq:gB w B q) (hs:id.size≤1073741824) (hz:1≤z) (hz2:z≤1099511627776) (hqs:q.E.fs.length≤1099511627776∧q.E.body.length≤1099511627776) (hB:B≤w.heap.size) :
  Calls Tryz.prog 72 #[.pointer (some ⟨t,0,none⟩),.string id,q.v,.int .i64 z] w (aM4 B t m room l id q z w):=by
 obtain⟨w0,hw0⟩:∃ w0,w.alloc (.cells #[.string q.E.k,.string q.E.v,.int .i64 q.E.s,.string q.E.r,.int .i64 q.E.m,.slice q.A q.E.fs.length q.c,.slice q.X q.E.body.length q.d,.int .i64 q.E.asked,.int .i64 q.E.got] 41)=w0:=⟨_,rfl⟩
 have hb0:Below w.heap.size w w0:=by rw[← hw0];exact (zB _ _).alloc (zA _) _
 have hk0:=Blk.new w #[.string q.E.k,.string q.E.v,.int .i64 q.E.s,.string q.E.r,.int .i64 q.E.m,.slice q.A q.E.fs.length q.c,.slice q.X q.E.body.length q.d,.int .i64 q.E.asked,.int .i64 q.E.got] 41
 rw[hw0]at hk0
 have h0:=h.below hb0
 obtain⟨y0,y1,y2⟩:=h0.tabc
 have hroom:=h.fits.2
 have HB0:=aH hb0
 have HK0:=aH hk0
 have HH:=aH h
 have H0:=aH h0
 have HNK:Hid (¬ LrF t m l w.heap.size):=aH (fun hk=>Nat.lt_irrefl _ (h.lt hk))
 have HQ0:=aH (hq.below hb0)
 have hz0:¬ (z:Int) < 0:=by omega
 clear hb0 hk0 h hq
 unfold EP.v kK
 by_cases hzr:room < z
 ·have hzi:(z:Int) > (room:Int):=by omega
  clear h0
  go_enter Tryz.func72,Tryz.ntmps72
  go_wp2
  go_ret2
  exact .inl ⟨hzr,rfl,H0.out,HB0.out⟩
 have hzi:¬ (z:Int) > (room:Int):=by omega
 have HDR:=aH (nV B t m room l id w0 h0 hs)
 clear h0
 go_enter Tryz.func72,Tryz.ntmps72
 go_wp2_with fail
 clear y0 y1 y2 hz0 hw0
 refine HDR.out.mono ?_
 rintro e w1 ⟨l0,bd,rfl,h1,hw1,hp1⟩
 have H1:=aH h1
 have HW1:=aH ((aO.below HB0.out (LrF t m l)).trans hw1)
 have HP1:=aH hp1
 have HQ1:=aH (kE HQ0.out hw1 (fun k hk=>H0.out.tag hk))
 have HK1:=aH (hw1.blk HK0.out HNK.out)
 have hlen0:=h1.len
 have HZW:Hid (w.heap.size≤w1.heap.size):=aH (bD HB0.out.size hw1.size)
 clear h1 hw1 hp1 HDR HQ0 HK0 H0
 go_wp2_with fail
 go_loopw [10] (fun a wr=>∃ (l1:List It) (A:Option Addr) (n c:Nat) (gs:List ByteArray),a=.slice A n c∧n+l1.length≤l0.length∧Row wr w1.heap.size 9 1 A n c (aC gs)∧fG B t m room l1 wr∧aO (LrF t m l) w (LrF t m l1) wr∧gB wr B q∧Blk wr w.heap.size #[.string q.E.k,.string q.E.v,.int .i64 q.E.s,.string q.E.r,.int .i64 q.E.m,.slice q.A q.E.fs.length q.c,.slice q.X q.E.body.length q.d,.int .i64 q.E.asked,.int .i64 q.E.got] 41∧aFA l0 l1∧w1.heap.size≤wr.heap.size) (fun a _=>l0.length - (match a with | .slice _ n _=>n | _=>0))
 case atStart=>exact⟨l0,none,0,0,[],rfl,by omega,Row.none_ _ _ _ _,H1.out,HW1.out,HQ1.out,HK1.out,fun _=>.inr rfl,zA _⟩
 case round =>
  obtain⟨l1,A,n,c,gs,rfl,hnl,hrow,hl1,hwt,hown,hblk,hles,hwz⟩:=hrel
  have HROW:=aH hrow
  have HL:=aH hl1
  have HWT:=aH hwt
  have HOW:=aH hown
  have HBK:=aH hblk
  have HLE:=aH hles
  have HWZ:=aH hwz
  clear hrow hl1 hwt hown hblk hles hwz
  obtain⟨wo,rfl⟩:∃ wo:World,wo=wr:=⟨_,rfl⟩
  obtain⟨y0,y1,y2⟩:=HL.out.tabc
  obtain⟨U,hU⟩:∃ U,Lr.used l1=U:=⟨_,rfl⟩
  obtain⟨RZ,hRZ⟩:∃ RZ:Nat,RZ+z=room:=⟨room - z,by omega⟩
  have HU:=aH hU
  have hur:=HL.out.fits.1
  rw[hU]at y1 hur
  clear hU
  have hS0:Below wo.heap.size wo wo.drew:=(zB _ _).drew
  go_upto_region 5 with fail
  refine wp_region_noPanic ?_
  refine HT.begin (n:=10) (S:=(fun u=>Below wo.heap.size wo u)) (by kernel_rfl) hS0 ?_
  generalize wo.drew=wd at *
  refine HT.take 0 (.pointer (some ⟨t,0,none⟩)) rfl (by kernel_rfl) (fun _ _ _ h=>h) (Or.inl ⟨by rfl,?_⟩) ?_
  ·intro u hu
   go_simp
  refine HT.take 1 (.pointer (some ⟨t,0,none⟩)) rfl (by kernel_rfl) (fun _ _ _ h=>h) (Or.inl ⟨by rfl,?_⟩) ?_
  ·intro u hu
   go_simp
  refine HT.take 2 (.pointer (some ⟨t,1,none⟩)) rfl (by kernel_rfl) (fun _ _ _ h=>h) (Or.inl ⟨by rfl,?_⟩) (?_:HT _ _ _ _ _ _ _ ⟨#[_,_,_,_,_,_,_,_,_,_,_,_,_,_,_,_,_,_,_,_,_,_,_,_,_,_,.pointer (some ⟨t,0,none⟩),.pointer (some ⟨t,0,none⟩),.pointer (some ⟨t,1,none⟩),_,_,_,_,_,_,_,_,_,_,_,_,_,_,_,_,_,_,_,_,_,_,_,_,_,_,_,_,_,_,_,_,_,_,_,_,_,_,_,_,_,_,_,_,_,_],[]⟩ _)
  ·intro u hu
   go_simp
  refine HT.take 3 (.int .i64 U) rfl (by kernel_rfl) (fun _ _ _ h=>h) (Or.inl ⟨by rfl,?_⟩) ?_
  ·intro u hu
   obtain⟨y0,y1,y2⟩:=(HL.out.below hu).tabc
   rw[HU.out]at y1
   go_simp
  refine HT.take 4 (.pointer (some ⟨t,0,none⟩)) rfl (by kernel_rfl) (fun _ _ _ h=>h) (Or.inl ⟨by rfl,?_⟩) ?_
  ·intro u hu
   go_simp
  refine HT.take 5 (.pointer (some ⟨t,0,none⟩)) rfl (by kernel_rfl) (fun _ _ _ h=>h) (Or.inl ⟨by rfl,?_⟩) (?_:HT _ _ _ _ _ _ _ ⟨#[_,_,_,_,_,_,_,_,_,_,_,_,_,_,_,_,_,_,_,_,_,_,_,_,_,_,.pointer (some ⟨t,0,none⟩),.pointer (some ⟨t,0,none⟩),.pointer (some ⟨t,1,none⟩),.int .i64 U,.pointer (some ⟨t,0,none⟩),.pointer (some ⟨t,0,none⟩),_,_,_,_,_,_,_,_,_,_,_,_,_,_,_,_,_,_,_,_,_,_,_,_,_,_,_,_,_,_,_,_,_,_,_,_,_,_,_,_,_,_,_],[]⟩ _)
  ·intro u hu
   go_simp
  refine HT.take 6 (.pointer (some ⟨t,0,none⟩)) rfl (by kernel_rfl) (fun _ _ _ h=>h) (Or.inl ⟨by rfl,?_⟩) ?_
  ·intro u hu
   go_simp
  refine HT.take 7 (.int .i64 room) rfl (by kernel_rfl) (fun _ _ _ h=>h) (Or.inl ⟨by rfl,?_⟩) ?_
  ·intro u hu
   obtain⟨y0,y1,y2⟩:=(HL.out.below hu).tabc
   go_simp
  refine HT.take 8 (.int .i64 z) rfl (by kernel_rfl) (fun _ _ _ h=>h) (Or.inl ⟨by rfl,?_⟩) (?_:HT _ _ _ _ _ _ _ ⟨#[_,_,_,_,_,_,_,_,_,_,_,_,_,_,_,_,_,_,_,_,_,_,_,_,_,_,.pointer (some ⟨t,0,none⟩),.pointer (some ⟨t,0,none⟩),.pointer (some ⟨t,1,none⟩),.int .i64 U,.pointer (some ⟨t,0,none⟩),.pointer (some ⟨t,0,none⟩),.pointer (some ⟨t,0,none⟩),.int .i64 room,.int .i64 z,_,_,_,_,_,_,_,_,_,_,_,_,_,_,_,_,_,_,_,_,_,_,_,_,_,_,_,_,_,_,_,_,_,_,_,_,_,_,_,_],[]⟩ _)
  ·intro u hu
   go_simp
  refine HT.take 9 (.int .i64 RZ) rfl (by kernel_rfl) (fun _ _ _ h=>h) (Or.inl ⟨by rfl,?_⟩) (?_:HT _ _ _ _ _ _ _ ⟨#[_,_,_,_,_,_,_,_,_,_,_,_,_,_,_,_,_,_,_,_,_,_,_,_,_,_,.pointer (some ⟨t,0,none⟩),.pointer (some ⟨t,0,none⟩),.pointer (some ⟨t,1,none⟩),.int .i64 U,.pointer (some ⟨t,0,none⟩),.pointer (some ⟨t,0,none⟩),.pointer (some ⟨t,0,none⟩),.int .i64 room,.int .i64 z,.int .i64 RZ,_,_,_,_,_,_,_,_,_,_,_,_,_,_,_,_,_,_,_,_,_,_,_,_,_,_,_,_,_,_,_,_,_,_,_,_,_,_,_],[]⟩ _)
  ·intro u hu
   have hvz:(room:Int) - (z:Int)=(RZ:Int):=by omega
   go_simp
   exact aNR (by omega) (by omega)
  refine HT.tail _ rfl rfl (by kernel_rfl) (fun hS=>?_)
  have HLD:=aH (HL.out.below hS)
  have HBD:=aH (aA HWZ.out (zB _ _) hS)
  have HOD:=aH (HOW.out.below hS)
  have HKD:=aH (HBK.out.below hS)
  have HWD:=aH (jY HWT.out HBD.out HZW.out)
  have HRD:=aH (HROW.out.below hS)
  have HZD:Hid (w1.heap.size≤wd.heap.size):=aH (bD HWZ.out HBD.out.size)
  clear y0 y1 y2 hS hS0 HL HOW HBK HWT HROW
  by_cases hgt:RZ < U
  ·have hgi:(U:Int) > (RZ:Int):=by omega
   obtain⟨j,hj⟩:∃ j,l1.length=j+1:=by
    cases l1 with
    | nil=>exact absurd HU.out (by show ¬ 0=U;omega)
    | cons y r=>exact⟨_,rfl⟩
   have hjl:j < l1.length:=by omega
   have hxm:=List.getElem_mem hjl
   have m2:=(HLD.out.ring.link l1.length (zA _)).2
   rw[Lr.aDS,(congrArg (adr t l1) hj).trans (Lr.fC hjl)]at m2
   have y14:wd.cell? ⟨t,14,none⟩=some (.pointer (some ⟨(l1[j]'hjl).k,0,none⟩)):=m2
   have z0:=(HLD.out.node _ hxm).1
   have HRM:=aH (fun u (hu:fG B t m room l1 u)=>oW B t m room j l1 u hu hjl)
   have HPE:=aH (fun x=>Lr.kD HLD.out.one hjl x)
   have HLE2:Hid (aFA l0 (l1.eraseIdx j)):=aH (fun x=>by
    rw[HPE.out x]
    by_cases hx:x=(l1[j]'hjl).id
    ·rw[if_pos hx];exact .inl rfl
    ·rw[if_neg hx];exact HLE.out x)
   have HLN:Hid ((l1.eraseIdx j).length=j):=aH (by rw[List.length_eraseIdx_of_lt hjl];omega)
   have HLT:Hid (∀ k,LrF t m (l1.eraseIdx j) k→LrF t m l1 k):=aH (fun k hk=>LrF.erase hk)
   clear HPE HLE m2
   obtain⟨kk,hkk⟩:∃ kk,(l1[j]'hjl).k=kk:=⟨_,rfl⟩
   obtain⟨id2,hid2⟩:∃ id2,(l1[j]'hjl).id=id2:=⟨_,rfl⟩
   rw[hkk]at y14 z0 HRM
   rw[hid2]at z0
   generalize l1.eraseIdx j=l2 at *
   have HNEW:=aH (aLH wd id2)
   have HL60:Hid (n+1≤4398046511104):=aH (by omega)
   have hba:Below wd.heap.size wd (wd.alloc (.cells #[.string id2] 9)):=(zB _ _).alloc (zA _) _
   have HRA:=aH (HRD.out.below hba)
   have HLA:=aH (HLD.out.below hba)
   have HOA:=aH (HOD.out.below hba)
   have HKA:=aH (HKD.out.below hba)
   have HBA:=aH (aA HZD.out HBD.out hba)
   have HWA:=aH (jY HWD.out (hba.mono HZD.out) HZW.out)
   have HZA:Hid (w1.heap.size≤(wd.alloc (.cells #[.string id2] 9)).heap.size):=aH (bD HWZ.out HBA.out.size)
   clear hkk hid2 hba hxm HLD HOD HKD HRD HWD HBD
   go_wp2
   refine NoPanic.normal ?_
   go_wp2_with (at_builtin;refine aKJ _ rfl _ _ rfl w1.heap.size A n c gs rfl HRA.out _ 1 1 [id2] rfl HNEW.out HL60.out HZA.out ?_;intro A8 c8 w9 hr9 ha9;clear y14 z0)
   have hb9:=ha9.below HRA.out HZA.out
   have hl9:=HLA.out.app HRA.out ha9 (by decide) (by decide) (by decide) (by decide)
   have hw9:aO (fun k=>ownB A c=some k) _ (fun k=>ownB A c=some k) w9:=aO.grown ha9.grown (fun k e=>e) (fun _ h=>.inl h)
   have ho9:gB w9 B q:=⟨hw9.row HOA.out.1 (fun k hk e=>(HOA.out.1.tag hk).ne (HRA.out.tag e) (by decide) rfl),hw9.row HOA.out.2 (fun k hk e=>(HOA.out.2.tag hk).ne (HRA.out.tag e) (by decide) rfl)⟩
   have hk9:=hw9.blk HKA.out (fun e=>HKA.out.tag.ne (HRA.out.tag e) (by decide) rfl)
   have HB9:=aH (HBA.out.trans hb9)
   have HR9:=aH hr9
   have HL9:=aH hl9
   have HO9:=aH ho9
   have HK9:=aH hk9
   have HW9:=aH (jY HWA.out hb9 HZW.out)
   clear hb9 hl9 hw9 ho9 hk9 hr9 ha9 HBA HRA HLA HOA HKA HWA HZA HNEW
   refine (HRM.out w9 HL9.out).mono ?_
   rintro e w2 ⟨rfl,h2,hw2⟩
   have HL2:=aH h2
   have HR2:=aH (hw2.row HR9.out (fun k hk=>HL9.out.off (HR9.out.tag hk) (by decide) (by decide)))
   have HO2:=aH (kE HO9.out hw2 (fun k hk=>HL9.out.tag hk))
   have HK2:=aH (hw2.blk HK9.out (HL9.out.off HK9.out.tag (by decide) (by decide)))
   have HW2:=aH (HW9.out.trans hw2)
   have HZ2:Hid (w1.heap.size≤w2.heap.size):=aH (bD HWZ.out (bD HB9.out.size hw2.size))
   clear h2 hw2
   go_wp2_with fail
   go_roundw
   case rel=>exact⟨l2,A8,n+1,c8,gs++[id2],rfl,by rw[HLN.out];omega,HR2.out,HL2.out,HW2.out,HO2.out,HK2.out,HLE2.out,HZ2.out⟩
   case measure=>simp;omega
  have hgi:¬ (U:Int) > (RZ:Int):=by omega
  go_wp2
  refine NoPanic.normal ?_
  have hka:=HKD.out
  obtain⟨x0,x1,x2,x3,x4,x5,x6,x7,x8⟩:=hka.cells9
  obtain⟨w3,hw3⟩:∃ w3,wd.alloc (.cells #[.string id,.string q.E.k,.string q.E.v,.int .i64 q.E.s,.string q.E.r,.int .i64 q.E.m,.slice q.A q.E.fs.length q.c,.slice q.X q.E.body.length q.d,.int .i64 q.E.asked,.int .i64 q.E.got,.int .i64 z,.pointer none,.pointer none] Lr.nT)=w3:=⟨_,rfl⟩
  have hb3:Below wd.heap.size wd w3:=by rw[← hw3];exact (zB _ _).alloc (zA _) _
  have hk3:=Blk.new wd #[.string id,.string q.E.k,.string q.E.v,.int .i64 q.E.s,.string q.E.r,.int .i64 q.E.m,.slice q.A q.E.fs.length q.c,.slice q.X q.E.body.length q.d,.int .i64 q.E.asked,.int .i64 q.E.got,.int .i64 z,.pointer none,.pointer none] Lr.nT
  rw[hw3]at hk3
  have hlt1:∀ y∈l1,y.k≠wd.heap.size:=fun y hy=>Nat.ne_of_lt (HLD.out.ring.nd y hy).lt
  have hgek:B≤wd.heap.size:=bD hB (bD HZW.out HZD.out)
  have hwk:w.heap.size≤wd.heap.size:=bD HZW.out HZD.out
  obtain⟨nk,hnk⟩:∃ nk,wd.heap.size=nk:=⟨_,rfl⟩
  obtain⟨tb,t1,t2,hbs⟩:=HLD.out.base
  obtain⟨X,hX⟩:∃ X:It,(⟨id,q,z,nk⟩:It)=X:=⟨_,rfl⟩
  have hXk:X.k=nk:=by rw[← hX]
  have hXi:X.id=id:=by rw[← hX]
  have hXz:X.z=z:=by rw[← hX]
  have hXp:X.p=q:=by rw[← hX]
  rw[hnk]at hk3 hlt1 hgek hwk
  have hx3:bF B t m room (Lr.used l1) tb (X::l1) w3:=(hbs.below hb3).cons (by
   rw[← hX]
   exact⟨hk3.cell 0 rfl,hk3.cell 1 rfl,hk3.cell 2 rfl,hk3.cell 3 rfl,hk3.cell 4 rfl,hk3.cell 5 rfl,hk3.cell 6 rfl,hk3.cell 7 rfl,hk3.cell 8 rfl,hk3.cell 9 rfl,hk3.cell 10 rfl⟩) ⟨_,by rw[hXk];exact hk3⟩ (by rw[hXp];exact HOD.out.below hb3)
  rw[HU.out]at hx3
  have hr3:=HLD.out.ring.below hb3
  have hwt3:aO (LrF t m l) w (LrF t m (X::l1)) w3:=(jY HWD.out hb3 (by rw[hnk];exact hwk)).wide (fun _ hk=>hk) (fun k hk=>by
   rcases hk with hk | hk | ⟨y,hy,hk⟩
   ·exact .inl (.inl hk)
   ·exact .inl (.inr (.inl hk))
   ·rcases List.mem_cons.1 hy with rfl | hy
    ·exact .inr (.inr (by rw[← hk,hXk];exact hwk))
    ·exact .inl (.inr (.inr ⟨y,hy,hk⟩)))
  have htl:tb.length≤1073741824:=bD (aPT t1 t2) HLD.out.len
  have HX3:=aH hx3
  have HR3:=aH hr3
  have HW3:=aH hwt3
  have HK3:=aH hk3
  have HT1:=aH t1
  have HT2:=aH t2
  obtain⟨y0,y1,y2⟩:=hx3.tabc
  have HNK2:=aH hnk
  clear hx3 hr3 hwt3 hk3 t1 t2 hbs hb3 hka y0 y1
  go_wp2_with (at_mapUpdate;refine wpList_mapUpdate_own _ rfl _ _ _ 120 rfl 9 119 (string_keyed bT) Lr.mapT_ul D.iM m tb.length (D.datum (fun n=>n) tb) rfl HX3.out.items (by simp only[maxLen];omega) (.string id) (.pointer (some ⟨nk,0,none⟩)) (D.key id) (by go_simp;try rw[HNK2.out]) rfl (jJ id (by simp only[maxLen];omega)) (.lit (.int .i64 nk)) [] rfl ?_;intro w4 hown4 hgrow4;clear x0 x1 x2 x3 x4 x5 x6 x7 x8 y2)
  rw[show (D.datum (fun n=>n) tb).put (D.key id) (.lit (.int .i64 nk))=D.datum (fun n=>n) (D.put tb id nk) from D.mX (fun n=>n) tb id nk]at hown4
  obtain⟨q1,q2,q3,q4⟩:=HX3.out.turn (eQ hown4) hgrow4
  have hr4:=HR3.out.same q3 (fun y hy=>q4 y (List.mem_cons_of_mem _ hy))
  have hq4:=q4 X (by simp)
  rw[hXk]at hq4
  have c11:w4.cell? ⟨nk,11,none⟩=some (.pointer none):=(World.cell?_of_block hq4).trans (HK3.out.cell 11 rfl)
  have c12:w4.cell? ⟨nk,12,none⟩=some (.pointer none):=(World.cell?_of_block hq4).trans (HK3.out.cell 12 rfl)
  obtain⟨b,o,fb,gb,ltb,kb⟩:=hr4.form 1
  obtain⟨m1,m2⟩:=hr4.link 0 (zF _)
  rw[show (0:Nat)+1=1 from rfl,fb]at m1 m2
  have hyf:=(q1.node X (by simp)).2
  rw[hXk]at hyf
  have hfr:=aBN t nk b o w4 m1 hr4.tb.lt hyf.lt ltb ⟨_,c11⟩ ⟨_,c12⟩ ⟨_,m2⟩ (fun i=>hyf.free i) (fun i=>hr4.tb.free i) (fun i=>hr4.freeAt kb i)
  obtain⟨q5,q6,q7⟩:=q1.front (x:=X) hr4 (fun y hy=>List.mem_cons_of_mem _ hy) (by simp) (fun y hy=>by rw[hXk];exact hlt1 y hy) fb kb (by rw[hXk];exact c11) (by rw[hXk];exact c12)
  rw[hXk]at q5 q6 q7
  have HFR:=aH hfr
  have HQ5:=aH q5
  have HR5:=aH q6
  have HW5:=aH ((HW3.out.trans q2).trans q7)
  generalize (((w4.setCell ⟨nk,11,none⟩ (.pointer (some ⟨t,3,none⟩))).setCell ⟨nk,12,none⟩ (.pointer (some ⟨b,o,none⟩))).setCell ⟨t,15,none⟩ (.pointer (some ⟨nk,0,none⟩))).setCell ⟨b,o+11,none⟩ (.pointer (some ⟨nk,0,none⟩))=W5 at *
  clear hown4 hgrow4 q1 q2 q3 q4 hr4 hq4 c11 c12 fb gb ltb kb m1 m2 hyf hfr q5 q6 q7 HX3 HR3 HW3 HK3
  refine HFR.out.mono ?_
  rintro e w5 ⟨rfl,ha5⟩
  have HQ6:=aH (HQ5.out.below ha5)
  have HR6:=aH (HR5.out.below ha5)
  have HW6:=aH (HW5.out.trans (aO.below ha5 _))
  clear ha5 HFR HQ5 HR5 HW5
  obtain⟨V,hV⟩:∃ V:Nat,U+z=V:=⟨_,rfl⟩
  have hwv:IntKind.i64.wrap ((U:Int)+(z:Int))=(V:Int):=by
   have hvz:(U:Int)+(z:Int)=(V:Int):=by omega
   rw[hvz]
   exact aNR (by omega) (by omega)
  obtain⟨y0,y1,y2⟩:=HQ6.out.tabc
  have y3:=HQ6.out.fr.free 1
  go_wp2
  go_ret2
  obtain⟨r1,r2,r3⟩:=HQ6.out.count HR6.out V
  have hp1:Lr.peek l1 id=none:=by
   rcases HLE.out id with h1 | h1
   ·exact h1
   ·rw[h1,HP1.out,if_pos rfl]
  have hus:Lr.used (X::l1)=V:=by
   unfold Lr.used at HU ⊢
   rw[List.map_cons,List.sum_cons,HU.out,hXz]
   omega
  refine .inr ⟨by omega,A,n,c,nk,l1,rfl,?_,?_,fun x=>?_,hp1⟩
  ·rw[hX]
   refine bF.at_ (by rw[hus];exact r1) r2 (fun _ h=>h) (D.rG HT1.out _ _) (fun id2=>?_) ?_ ⟨by rw[hus];omega,hroom⟩ (fun y hy=>?_) (fun y hy=>?_) ⟨HLD.out.ge.1,HLD.out.ge.2.1,fun y hy=>?_⟩
   ·rw[D.qQ]
    unfold Lr.peek
    rw[List.find?_cons,hXi]
    by_cases he:id2=id
    ·rw[if_pos he,he,decide_eq_true rfl]
     show some nk=some X.k
     rw[hXk]
    ·rw[if_neg he,decide_eq_false (fun e=>he e.symm)]
     exact HT2.out id2
   ·unfold Lr.ids
    rw[List.map_cons,hXi]
    refine List.nodup_cons.2 ⟨fun hm=>?_,HLD.out.one⟩
    obtain⟨y,hy,e⟩:=List.mem_map.1 hm
    unfold Lr.peek at hp1
    rw[List.find?_eq_none]at hp1
    exact hp1 y hy (by simp [e])
   ·rcases List.mem_cons.1 hy with rfl | hy
    ·rw[hXz];exact hz
    ·exact HLD.out.pos y hy
   ·rcases List.mem_cons.1 hy with rfl | hy
    ·rw[hXi,hXp];exact⟨hs,hqs⟩
    ·exact HLD.out.small y hy
   ·rcases List.mem_cons.1 hy with rfl | hy
    ·rw[hXk];exact hgek
    ·exact HLD.out.ge.2.2 y hy
  ·rw[hX]
   exact HW6.out.trans r3
  ·rcases HLE.out x with h1 | h1
   ·exact .inl h1
   ·rw[h1,HP1.out]
    by_cases he:x=id
    ·rw[if_pos he];exact .inl rfl
    ·rw[if_neg he];exact .inr rfl
theorem aAA:Tryz.prog.underlying 74=some (.map 9 88):=by kernel_rfl
theorem aDY (w:World):(zeroValue 88).run Tryz.prog w=.ok (.agg #[]) w:=by kernel_rfl
theorem aHL {b:Nat} {w:World} (h:w.ownsMap Tryz.prog 9 (unitElem (H:=Unit)) b 0 (.map [])) (nm:ByteArray) (hs:nm.size≤maxLen) :
  (Instr.lookup 74 (.map (some b)) (.string nm) true).run Tryz.prog w=.ok (.tuple #[.agg #[],.bool false]) w:=by
 obtain⟨v,ps,hr,hv⟩:=h.look_ok (string_keyed bT) aAA (aDY w) (zd:=.agg []) (zp:=[]) unitElem_mk (jJ nm hs)
 obtain⟨rfl,_⟩:=unitElem_inv hv
 exact hr
theorem aOV (nm:ByteArray) (w:World):Calls Tryz.prog 58 #[.string nm,.string ⟨#[111,47]⟩] w (uY w (.bool (S.isO nm))):=by
 have e:Lib.hasPrefix (L nm) (L ⟨#[111,47]⟩)=S.isO nm:=by
  unfold S.isO
  rw[← Lib.hasPrefix_of_take]
  have e2:(L (⟨#[111,47]⟩:ByteArray))=[111,47]:=rfl
  rw[e2,Bool.eq_iff_iff]
  simp only[Bool.and_eq_true,decide_eq_true_eq,beq_iff_eq,List.length_cons,List.length_nil]
  constructor
  ·exact fun h=>h.2
  ·intro h
   refine⟨?_,h⟩
   have:=congrArg List.length h
   rw[List.length_take]at this
   simp at this
   omega
 rw[← e]
 exact iF nm _ w
theorem Tryz.infoT:(Tryz.prog.info? 4).map (fun i=>(i.zero,i.size,i.bytes))=some (some (.bool false),1,1):=by kernel_rfl
theorem aIK (n:Nat) (h1:n≤1099511627776):∃ C:Array Value,C.toList=S.bools (S.marks n [])∧∀ w:World,(Instr.makeSlice 107 (.int .i64 n) (.int .i64 n)).run Tryz.prog w=.ok (.slice (some ⟨w.heap.size,0,none⟩) n n) (w.alloc (.cells C 4)):=by
 obtain⟨i0,hi0,hz0,hz1,hz2⟩:=info_parts Tryz.infoT
 have hmk:=fun w=>run_make (P:=Tryz.prog) w 107 4 i0 _ Tryz.underlying107 hi0 hz0 .i64 .i64 (n:Int) (n:Int) (by omega) (Int.le_refl _) (by rw[hz2];omega) (by omega)
 simp only[hz1,Nat.mul_one,Int.toNat_natCast]at hmk
 refine⟨_,?_,hmk⟩
 rw[S.aIJ]
 unfold S.bools
 rw[List.map_replicate]
 apply List.ext_getElem
 ·simp [madeCells]
 ·intro i h1 h2
  simp [madeCells,Value.cells]
  rw[Nat.mod_one]
  rfl
theorem dU.new {B l n:Nat} {M:DM} {d:D.Dsk} {w w1:World} {tb g st:Nat} {bs:List Bool} {C:Array Value} {count:Nat} (h:jM B l M d count w) (hb:Below w.heap.size w w1) (h1:w.heap.size≤tb) (h2:w.heap.size≤g) (h3:w.heap.size≤st)
  (hm:w1.ownsMap Tryz.prog 9 S.wV tb 0 (.map [])) (hC:C.toList=S.bools bs) (hn:bs.length=n) (hn4:n≤4096) (hg:Blk w1 g C 4) (hs:Blk w1 st #[.pointer (some ⟨M.d,0,none⟩),.pointer (some ⟨l,0,none⟩),.map (some tb),.slice (some ⟨g,0,none⟩) n n] 109) :
  dU B ⟨M,st,l,tb,some ⟨g,0,none⟩,n⟩ ⟨d,count,[],bs⟩ w1∧aO (aX l M d) w ((⟨M,st,l,tb,some ⟨g,0,none⟩,n⟩:SM).foot ⟨d,count,[],bs⟩) w1:=by
 subst hn
 have hB:=h.disk.base
 have hsz:C.size=bs.length:=by have:=congrArg List.length hC;simpa [S.bools] using this
 refine⟨⟨h.below hb,hs,hm,⟨?_,?_⟩,.inl ⟨by simp [S.bools],.inr ⟨g,bs.length,C,rfl,by omega,hg,zA _,?_,by omega,?_⟩⟩,⟨by show B≤st;omega,by show B≤tb;omega⟩⟩,(aO.below hb (aX l M d)).wide (fun _ h=>h) (fun k hk=>?_)⟩
 ·have:=h.disk.now.lt
  show tb≠M.mN
  omega
 ·have:=h.disk.safe.lt
  show tb≠M.mS
  omega
 ·simp only[maxLen];omega
 ·rw[Nat.mul_one,hC,List.take_of_length_le (by simp [S.bools])]
 ·rcases hk with hk | hk | hk | hk | hk
  ·exact .inl (.inl hk)
  ·exact .inl (.inr hk)
  ·exact .inr (.inr (by rw[hk];exact h3))
  ·exact .inr (.inr (by rw[hk];exact h1))
  ·refine .inr (.inr ?_)
   unfold ownB at hk
   split at hk
   ·cases hk
   ·cases hk;exact h2
def aQW (B:Nat) (M:DM) (d:D.Dsk) (n:Nat) (w:World) (e:Ending) (w':World):Prop :=
 (∃ code:Int,code≠0∧(d.down=false→(S.steps d S.bZ).2.2≠0)∧e=.returned (.tuple #[.pointer none,.int .i64 code])∧aO (M.foot d) w (fun _=>False) w') ∨
 (d.down=false∧(S.steps d S.bZ).2.2=0∧∃ X d3,(S.steps d S.bZ).1=d3∧e=.returned (.tuple #[.pointer (some ⟨X.st,0,none⟩),.int .i64 0])∧dU B X ⟨d3,0,[],S.marks n []⟩ w'∧aO (M.foot d) w (X.foot ⟨d3,0,[],S.marks n []⟩) w'∧X.M.d=M.d)
theorem aC3 (p:Value) (slots:Int) (w:World) (h:slots < 0∨4096 < slots):Calls Tryz.prog 25 #[p,.int .i64 slots] w (uY w (.tuple #[.pointer none,.int .i64 131])):=by
 by_cases h0:slots < 0
 ·go_enter Tryz.func25,Tryz.ntmps25
  go_wp2
  go_ret2
  exact⟨rfl,rfl⟩
 ·have h1:slots > 4096:=by omega
  go_enter Tryz.func25,Tryz.ntmps25
  go_wp2
  go_ret2
  exact⟨rfl,rfl⟩
theorem aIA (B:Nat) (M:DM) (d:D.Dsk) (m n:Nat) (w:World) (h:bU B M d w) (hf:D.Fit m d) (hm:m≤134000000) (hnew:S.has d.list S.dB=false) (hrd:d.read S.bM=([],if d.down=true then 93 else 90)) (hno:∀ nm∈(S.steps d S.bZ).1.list,S.isO nm=false∧nm.size≤4096) (hn:n≤4096) :
  Calls Tryz.prog 25 #[.pointer (some ⟨M.d,0,none⟩),.int .i64 n] w (aQW B M d n w):=by
 have HLO:=aH (aBE B M d m w h hf (by omega) hnew hrd)
 have hf3:=S.iE S.bZ S.oG hf
 rw[show S.bZ.length=3 from rfl]at hf3
 have HF3:=aH hf3
 have HNO3:=aH hno
 obtain⟨C,hC,hmk⟩:=aIK n (by omega)
 have hmm:=@run_makeMap Tryz.prog
 have g0:¬ (n:Int) < 0:=by omega
 have g1:¬ (n:Int) > 4096:=by omega
 clear h hf hnew hrd hno hf3
 go_enter Tryz.func25,Tryz.ntmps25
 go_wp2_with fail
 refine HLO.out.mono ?_
 rintro e w1 (⟨code,hc,hcs,rfl,hw1⟩ | ⟨hdn,d3,hd3,hs3,l,M1,rfl,hl1,hw1,hm1⟩)
 ·have HC:=aH hc
  have HW1:=aH hw1
  have HCS:=aH hcs
  have hcb:(code != 0)=true:=bne_iff_ne.2 hc
  clear hcs hw1 HLO hmk hmm
  go_wp2
  go_ret2
  exact .inl ⟨code,HC.out,HCS.out,rfl,HW1.out⟩
 rw[hd3]at HF3 HNO3
 have HF:=HF3
 have HNO:=HNO3
 have HDN:=aH hdn
 have HD3:=aH hd3
 have HSC:=aH hs3
 clear hdn hd3 hs3 HF3 HNO3
 have HL1:=aH hl1
 have HW1:=aH hw1
 have HM1:=aH hm1
 clear hl1 hw1 hm1 HLO
 go_upto_region 7 with fail
 obtain⟨W1,hW1⟩:∃ W1,w1.alloc (.map #[] 0)=W1:=⟨_,rfl⟩
 have hs1:W1.heap.size=w1.heap.size+1:=by rw[← hW1];exact bJ ..
 have hm0:W1.ownsMap Tryz.prog 9 S.wV w1.heap.size 0 (.map []):=by rw[← hW1];exact World.ownsMap_made w1 Tryz.prog 9 S.wV
 have hb1:Below w1.heap.size w1 W1:=by rw[← hW1];exact (zB _ _).alloc (zA _) _
 rw[hW1]
 obtain⟨W2,hW2⟩:∃ W2,W1.alloc (.cells C 4)=W2:=⟨_,rfl⟩
 have hs2:W2.heap.size=w1.heap.size+1+1:=by rw[← hW2,← hs1];exact bJ ..
 have hg2:Blk W2 (w1.heap.size+1) C 4:=by rw[← hW2,← hs1];exact Blk.new W1 _ _
 have hb2:Below W1.heap.size W1 W2:=by rw[← hW2];exact (zB _ _).alloc (zA _) _
 rw[hW2]
 obtain⟨W3,hW3⟩:∃ W3,W2.alloc (.cells #[.pointer (some ⟨M.d,0,none⟩),.pointer (some ⟨l,0,none⟩),.map (some w1.heap.size),.slice (some ⟨w1.heap.size+1,0,none⟩) n n] 109)=W3:=⟨_,rfl⟩
 have hk3:Blk W3 (w1.heap.size+1+1) #[.pointer (some ⟨M.d,0,none⟩),.pointer (some ⟨l,0,none⟩),.map (some w1.heap.size),.slice (some ⟨w1.heap.size+1,0,none⟩) n n] 109:=by rw[← hW3,← hs2];exact Blk.new W2 _ _
 have hb3:Below W2.heap.size W2 W3:=by rw[← hW3];exact (zB _ _).alloc (zA _) _
 rw[hW3]
 have hb23:=aA hb2.size hb2 hb3
 have hb13:=aA hb1.size hb1 hb23
 have hmk3:W3.ownsMap Tryz.prog 9 S.wV w1.heap.size 0 (.map []):=hm0.kept (show W1.grownBy W3 none from⟨hb23.os,hb23.tape,hb23.output,hb23.size,fun k hk _=>hb23.block k hk⟩) (by simp)
 have hg3:Blk W3 (w1.heap.size+1) C 4:=hg2.below hb3
 obtain⟨hst,hwt⟩:=dU.new HL1.out hb13 (tb:=w1.heap.size) (g:=w1.heap.size+1) (st:=w1.heap.size+1+1) (n:=n) (zA _) (by omega) (by omega) hmk3 hC (S.dY n []) hn hg3 (by rw[HM1.out];exact hk3)
 have HS3:=aH hst
 have HW3:=aH (HW1.out.trans hwt)
 clear hmk hst hwt hg3 hmk3 hb13 hb23 hb3 hk3 hb2 hg2 hs2 hb1 hm0 hs1 hW1 hW2 hW3 HL1 HW1 hC g0 g1
 obtain⟨X,hX⟩:∃ X:SM,X=⟨M1,w1.heap.size+1+1,l,w1.heap.size,some ⟨w1.heap.size+1,0,none⟩,n⟩:=⟨_,rfl⟩
 rw[← hX]at HS3 HW3
 have e1:w1.heap.size+1+1=X.st:=by rw[hX]
 have e2:l=X.lg:=by rw[hX]
 have e3:M1=X.M:=by rw[hX]
 rw[e1,e2]
 rw[e3]at HM1
 clear hX e1 e2 e3
 go_wp2_with fail
 go_loopw [46] (fun i wr=>i=.int .i64 0∧wr=W3) (fun _ _=>0)
 case atStart=>exact⟨rfl,rfl⟩
 case round =>
  obtain⟨rfl,rfl⟩:=hrel
  go_upto_region 15 with fail
  obtain⟨W4,hW4⟩:∃ W4,wr.alloc (.map #[] 0)=W4:=⟨_,rfl⟩
  have HU4:=aH (World.ownsMap_made wr Tryz.prog 9 (unitElem (H:=Unit)))
  have hb4:Below wr.heap.size wr W4:=by rw[← hW4];exact (zB _ _).alloc (zA _) _
  rw[hW4]at HU4 ⊢
  have HS4:=aH (HS3.out.below hb4)
  have HW4:=aH (HW3.out.trans (aO.below hb4 _))
  have hkp:wr.heap.size < W4.heap.size:=by rw[← hW4,bJ];omega
  have HKP:=aH hkp
  clear hW4 hb4 HS3 HW3 hkp
  generalize wr.heap.size=kp at *
  have HID:=aH (yS B X _ W4 HS4.out List.Pairwise.nil (by show 0≤_;omega))
  have tl:=aCK HS4.out.tab
  obtain⟨y0,y1,y2,y3⟩:=HS4.out.cells
  clear y0 y1 y3
  dsimp only[List.length_nil]at tl
  go_wp2_with fail
  clear tl y2
  refine HID.out.mono ?_
  rintro e w5 ⟨A5,c5,rfl,hr5,hb5⟩
  have HU5:=aH (HU4.out.kept (show W4.grownBy w5 none from⟨hb5.os,hb5.tape,hb5.output,hb5.size,fun k hk _=>hb5.block k hk⟩) (by simp))
  have HS5:=aH (HS4.out.below hb5)
  have HW5:=aH (HW4.out.trans (aO.below hb5 _))
  clear hr5 hb5 HU4 HS4 HW4 HID HKP
  dsimp only[S.Sto.ids,List.map_nil,List.length_nil]
  go_wp2_with fail
  go_loopw [77] (fun i wr=>i=.int .i64 0∧wr=w5) (fun _ _=>0)
  case atStart=>exact⟨rfl,rfl⟩
  case round =>
   obtain⟨rfl,rfl⟩:=hrel
   obtain⟨wo,rfl⟩:∃ wo:World,wo=wr:=⟨_,rfl⟩
   have HLI:=aH (uC B X.M _ wo HS5.out.log.disk HF.out.ok (bD HF.out.now (by omega)))
   rw[HM1.out]at HLI
   have tl:=aCK HS5.out.tab
   obtain⟨y0,y1,y2,y3⟩:=HS5.out.cells
   clear y0 y1 y3
   dsimp only[List.length_nil]at tl
   go_wp2_with fail
   clear tl y2
   refine HLI.out.mono ?_
   rintro e w6 ⟨A6,c6,rfl,hr6,hb6⟩
   have HU6:=aH (HU5.out.kept (show wo.grownBy w6 none from⟨hb6.os,hb6.tape,hb6.output,hb6.size,fun k hk _=>hb6.block k hk⟩) (by simp))
   have HS6:=aH (HS5.out.below hb6)
   have HW6:=aH (HW5.out.trans (aO.below hb6 _))
   have HR6:=aH hr6.rd
   clear hr6 hb6 HU5 HS5 HW5 HLI
   obtain⟨ns,hns⟩:∃ ns,d3.list=ns:=⟨_,rfl⟩
   rw[hns]at HR6 HNO ⊢
   have hnl:ns.length≤134000003:=by
    rw[← hns]
    have:=HF.out.now
    have h2:d3.list.length≤d3.now.length:=by unfold D.Dsk.list;split<;>simp
    omega
   clear hns
   go_wp2_with fail
   go_loopw [125] (fun i wr=>∃ k:Nat,k≤ns.length∧i=.int .i64 k∧Below w6.heap.size w6 wr) (fun i _=>ns.length - (intOf i).toNat)
   case atStart=>exact⟨0,zF _,rfl,zB _ _⟩
   case round =>
    obtain⟨k,hk,rfl,hb7⟩:=hrel
    have HB7:=aH hb7
    obtain⟨wp,rfl⟩:∃ wp:World,wp=wr:=⟨_,rfl⟩
    by_cases hlt:k < ns.length
    ·obtain⟨b,o,rfl,hbl,y0⟩:=(HR6.out.below hb7).str hlt rfl
     obtain⟨hO,hsz⟩:=HNO.out (ns[k]'hlt) (List.getElem_mem hlt)
     have hlk:=aHL (HU6.out.kept (show w6.grownBy wp none from⟨hb7.os,hb7.tape,hb7.output,hb7.size,fun k hk _=>hb7.block k hk⟩) (by simp)) (ns[k]'hlt) (by simp only[maxLen];omega)
     have HIO:=aH (fun u=>aOV (ns[k]'hlt) u)
     rw[hO]at HIO
     clear hO hsz hb7
     generalize ns[k]'hlt=nm at *
     go_wp2_with fail
     refine (HIO.out _).mono ?_
     rintro e w8 ⟨rfl,rfl⟩
     have HB8:=aH (HB7.out.alloc HB7.out.size (.cells #[] 88):Below w6.heap.size w6 (wp.alloc (.cells #[] 88)))
     clear hlk HIO y0
     go_wp2
     go_roundw
     case rel=>exact⟨k+1,by omega,by go_num,HB8.out⟩
     case measure=>simp [intOf];omega
    ·have hke:k=ns.length:=by omega
     subst hke
     have HS8:=aH (HS6.out.below hb7)
     have HW8:=aH (HW6.out.trans (aO.below hb7 _))
     have HTI:=aH (xZ B X _ (m+3) wp HS8.out HF.out (by omega) List.Pairwise.nil (by show 0≤_;omega) (fun _ h=>by cases h) (by show 0≤_;omega))
     clear hb7 HB7 HS6 HW6 HU6 HR6 HNO
     go_wp2_with fail
     refine HTI.out.mono ?_
     rintro e w9 ⟨rfl,X9,hs9,hw9,hst9,hd9,hlg9⟩
     have htd:(⟨d3,0,[],S.marks n []⟩:S.Sto).tidy=⟨d3,0,[],S.marks n []⟩:=by
      unfold S.Sto.tidy
      rw[if_pos (by show 0≤_;omega)]
     rw[htd]at hs9 hw9
     have HS9:=aH hs9
     have HW9:=aH (HW8.out.trans hw9)
     have HD9:=aH (hd9.trans HM1.out)
     rw[← hst9]
     clear hs9 hw9 hd9 hlg9 hst9 HTI HS8 HW8 htd
     go_wp2
     go_ret2
     exact .inr ⟨HDN.out,HSC.out,X9,d3,HD3.out,rfl,HS9.out,HW9.out,HD9.out⟩
end Go.Proofs.YthjeglnkgdpijaaGreatDoor
