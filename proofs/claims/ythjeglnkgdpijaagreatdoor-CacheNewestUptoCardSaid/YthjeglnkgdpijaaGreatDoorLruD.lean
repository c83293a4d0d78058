/- The walk of lru's Put at entries (printed by gen/lrud.py). Conditions: a key of at most 2^30 bytes; a size of at least one byte. -/
import Derived.Test.YthjeglnkgdpijaaGreatDoorZ03
set_option maxHeartbeats 4000000
set_option maxRecDepth 100000
namespace Go.Proofs.YthjeglnkgdpijaaGreatDoor
open Go Go.RowKit Go.Maps
open Lr (Ring NodeC TabC Fr nx pv adr)
section
variable {F F':Nat→Prop} {w w1 w2:World} {b B t m room u:Nat} {tb:D.NM} {l:List It} {x:It} {A:Option Addr} {c n:Nat}
theorem went_below {b:Nat} (h:Went F w F' w1) (hb:Below b w1 w2) (hw:w.heap.size≤b):Went F w F' w2 :=
 ⟨hb.os.trans h.os,hb.tape.trans h.tape,hb.output.trans h.output,Nat.le_trans h.size hb.size,fun k hk hn=>(hb.block k (by omega)).trans (h.block k hk hn),h.foot⟩
theorem LrBase.cons (h:LrBase B t m room u tb l w) (h1:NodeC w x) (h2:Fr w x.k Lr.nT) (h3:EOwn w B x.p):LrBase B t m room u tb (x::l) w :=
 ⟨h.fr,h.tabc,fun y hy=>by
  rcases List.mem_cons.1 hy with rfl | hy
  ·exact⟨h1,h2⟩
  ·exact h.node y hy,h.items,fun y hy=>by
  rcases List.mem_cons.1 hy with rfl | hy
  ·exact h3
  ·exact h.own y hy⟩
theorem LrAt.app {e:TypeId} {s base:Nat} {xs:List Value} {A':Option Addr} {c':Nat} (h:LrAt B t m room l w) (hr:Row w base e s A n c xs) (ha:App w w1 A c A' c') (h1:e≠Lr.tT) (h2:e≠Lr.nT) (h3:e≠60) (h4:e≠5):LrAt B t m room l w1:=by
 have hw:Went (fun k=>ownB A c=some k) w (fun k=>ownB A c=some k) w1:=Went.grown ha.grown (fun k e=>e) (fun _ h=>.inl h)
 refine h.went hw (fun k hk e=>h.off (hr.tag e) h1 h2 hk) (fun x hx k hk e=>?_)
 rcases hk with hk | hk
 ·exact ((h.own x hx).1.tag hk).ne (hr.tag e) h3.symm rfl
 ·exact ((h.own x hx).2.tag hk).ne (hr.tag e) h4.symm rfl
end
theorem nodup_len:∀ {a b:List ByteArray},a.Nodup→(∀ x∈a,x∈b)→a.length≤b.length
 | [],_,_,_=>Nat.zero_le _
 | x::r,b,h,hs=>by
  obtain⟨s,t,rfl⟩:=List.append_of_mem (hs x (by simp))
  obtain⟨h1,h2⟩:=List.nodup_cons.1 h
  have:=nodup_len (a:=r) (b:=s++t) h2 (fun y hy=>by
   have h3:=hs y (List.mem_cons_of_mem _ hy)
   have h4:y≠x:=fun e=>h1 (e ▸ hy)
   simpa [h4] using h3)
  simp at this ⊢
  omega
theorem up_len {tb:D.NM} {l:List It} (h:D.Up tb) (hf:∀ id,D.find tb id=(Lr.peek l id).map (·.k)):tb.length≤l.length:=by
 have h1:(tb.map (·.1)).Nodup:=by
  unfold D.Up at h
  exact (List.pairwise_map.2 (h.imp (fun {a b} e e2=>by rw[e2,D.lt_irrefl]at e;cases e)))
 have h2:=nodup_len (b:=Lr.ids l) h1 (fun x hx=>by
  obtain⟨p,hp,rfl⟩:=List.mem_map.1 hx
  cases hq:Lr.peek l p.1 with
  | none =>
   have h3:=hf p.1
   rw[hq]at h3
   exact absurd rfl (D.find_none h3 p hp)
  | some y =>
   obtain⟨j,hj,e1,e2⟩:=Lr.peek_some hq
   exact List.mem_map.2 ⟨y,e1 ▸ List.getElem_mem hj,e2⟩)
 unfold Lr.ids at h2
 simpa using h2
def LrLess (l l':List It):Prop:=∀ x,Lr.peek l' x=none∨Lr.peek l' x=Lr.peek l x
def RetLrPut (B t m room:Nat) (l:List It) (id:ByteArray) (q:EP) (z:Nat) (w:World) (e:Ending) (w':World):Prop :=
 (room < z∧e=.returned (.tuple #[.slice none 0 0,.bool false])∧LrAt B t m room l w'∧Below w.heap.size w w') ∨
 (z≤room∧∃ (A:Option Addr) (n c k:Nat) (l1:List It),e=.returned (.tuple #[.slice A n c,.bool true])∧LrAt B t m room (⟨id,q,z,k⟩::l1) w'∧Went (LrF t m l) w (LrF t m (⟨id,q,z,k⟩::l1)) w'∧LrLess l l1∧Lr.peek l1 id=none)
theorem lrPut_any (B t m room:Nat) (l:List It) (id:ByteArray) (q:EP) (z:Nat) (w:World) (h:LrAt B t m room l w) (hq:EOwn w B q) (hs:id.size≤1073741824) (hz:1≤z) (hz2:z≤1099511627776) (hqs:q.E.fs.length≤1099511627776∧q.E.body.length≤1099511627776) (hB:B≤w.heap.size) :
  Calls Tryz.prog 72 #[.pointer (some ⟨t,0,none⟩),.string id,q.v,.int .i64 z] w (RetLrPut B t m room l id q z w):=by
 obtain⟨w0,hw0⟩:∃ w0,w.alloc (.cells #[.string q.E.k,.string q.E.v,.int .i64 q.E.s,.string q.E.r,.int .i64 q.E.m,.slice q.A q.E.fs.length q.c,.slice q.X q.E.body.length q.d,.int .i64 q.E.asked,.int .i64 q.E.got] 41)=w0:=⟨_,rfl⟩
 have hb0:Below w.heap.size w w0:=by rw[← hw0];exact (Below.refl _ _).alloc (Nat.le_refl _) _
 have hk0:=Blk.new w #[.string q.E.k,.string q.E.v,.int .i64 q.E.s,.string q.E.r,.int .i64 q.E.m,.slice q.A q.E.fs.length q.c,.slice q.X q.E.body.length q.d,.int .i64 q.E.asked,.int .i64 q.E.got] 41
 rw[hw0]at hk0
 have h0:=h.below hb0
 obtain⟨y0,y1,y2⟩:=h0.tabc
 have hroom:=h.fits.2
 have HB0:=Lib.hid hb0
 have HK0:=Lib.hid hk0
 have HH:=Lib.hid h
 have H0:=Lib.hid h0
 have HNK:Hid (¬ LrF t m l w.heap.size):=Lib.hid (fun hk=>Nat.lt_irrefl _ (h.lt hk))
 have HQ0:=Lib.hid (hq.below hb0)
 have hz0:¬ (z:Int) < 0:=by omega
 clear hb0 hk0 h hq
 unfold EP.v entV
 by_cases hzr:room < z
 ·have hzi:(z:Int) > (room:Int):=by omega
  clear h0
  go_enter Tryz.func72,Tryz.ntmps72
  go_wp2
  go_ret2
  exact .inl ⟨hzr,rfl,H0.out,HB0.out⟩
 have hzi:¬ (z:Int) > (room:Int):=by omega
 have HDR:=Lib.hid (lrDrop_any B t m room l id w0 h0 hs)
 clear h0
 go_enter Tryz.func72,Tryz.ntmps72
 go_wp2_with fail
 clear y0 y1 y2 hz0 hw0
 refine HDR.out.mono ?_
 rintro e w1 ⟨l0,bd,rfl,h1,hw1,hp1⟩
 have H1:=Lib.hid h1
 have HW1:=Lib.hid ((Went.below HB0.out (LrF t m l)).trans hw1)
 have HP1:=Lib.hid hp1
 have HQ1:=Lib.hid (own_kept HQ0.out hw1 (fun k hk=>H0.out.tag hk))
 have HK1:=Lib.hid (hw1.blk HK0.out HNK.out)
 have hlen0:=h1.len
 have HZW:Hid (w.heap.size≤w1.heap.size):=Lib.hid (Nat.le_trans HB0.out.size hw1.size)
 clear h1 hw1 hp1 HDR HQ0 HK0 H0
 go_wp2_with fail
 go_loopw [10] (fun a wr=>∃ (l1:List It) (A:Option Addr) (n c:Nat) (gs:List ByteArray),a=.slice A n c∧n+l1.length≤l0.length∧Row wr w1.heap.size 9 1 A n c (scells gs)∧LrAt B t m room l1 wr∧Went (LrF t m l) w (LrF t m l1) wr∧EOwn wr B q∧Blk wr w.heap.size #[.string q.E.k,.string q.E.v,.int .i64 q.E.s,.string q.E.r,.int .i64 q.E.m,.slice q.A q.E.fs.length q.c,.slice q.X q.E.body.length q.d,.int .i64 q.E.asked,.int .i64 q.E.got] 41∧LrLess l0 l1∧w1.heap.size≤wr.heap.size) (fun a _=>l0.length - (match a with | .slice _ n _=>n | _=>0))
 case atStart=>exact⟨l0,none,0,0,[],rfl,by omega,Row.none_ _ _ _ _,H1.out,HW1.out,HQ1.out,HK1.out,fun _=>.inr rfl,Nat.le_refl _⟩
 case round =>
  obtain⟨l1,A,n,c,gs,rfl,hnl,hrow,hl1,hwt,hown,hblk,hles,hwz⟩:=hrel
  have HROW:=Lib.hid hrow
  have HL:=Lib.hid hl1
  have HWT:=Lib.hid hwt
  have HOW:=Lib.hid hown
  have HBK:=Lib.hid hblk
  have HLE:=Lib.hid hles
  have HWZ:=Lib.hid hwz
  clear hrow hl1 hwt hown hblk hles hwz
  obtain⟨wo,rfl⟩:∃ wo:World,wo=wr:=⟨_,rfl⟩
  obtain⟨y0,y1,y2⟩:=HL.out.tabc
  obtain⟨U,hU⟩:∃ U,Lr.used l1=U:=⟨_,rfl⟩
  obtain⟨RZ,hRZ⟩:∃ RZ:Nat,RZ+z=room:=⟨room - z,by omega⟩
  have HU:=Lib.hid hU
  have hur:=HL.out.fits.1
  rw[hU]at y1 hur
  clear hU
  have hS0:Below wo.heap.size wo wo.drew:=(Below.refl _ _).drew
  go_upto_region 5 with fail
  refine wp_region_noPanic ?_
  refine HT.begin (n:=10) (S:=(fun u=>Below wo.heap.size wo u)) (by kernel_rfl) hS0 ?_
  generalize wo.drew=wd at *
  refine HT.take 0 (.pointer (some ⟨t,0,none⟩)) rfl (by kernel_rfl) (fun _ _ _ h=>h) (Or.inl ⟨by rfl,?_⟩) (?_:HT _ _ _ _ _ _ _ ⟨#[_,_,_,_,_,_,_,_,_,_,_,_,_,_,_,_,_,_,_,_,_,_,_,_,_,_,.pointer (some ⟨t,0,none⟩),_,_,_,_,_,_,_,_,_,_,_,_,_,_,_,_,_,_,_,_,_,_,_,_,_,_,_,_,_,_,_,_,_,_,_,_,_,_,_,_,_,_,_,_,_,_,_,_],[]⟩ _)
  ·intro u hu
   go_simp
  refine HT.take 1 (.pointer (some ⟨t,0,none⟩)) rfl (by kernel_rfl) (fun _ _ _ h=>h) (Or.inl ⟨by rfl,?_⟩) (?_:HT _ _ _ _ _ _ _ ⟨#[_,_,_,_,_,_,_,_,_,_,_,_,_,_,_,_,_,_,_,_,_,_,_,_,_,_,.pointer (some ⟨t,0,none⟩),.pointer (some ⟨t,0,none⟩),_,_,_,_,_,_,_,_,_,_,_,_,_,_,_,_,_,_,_,_,_,_,_,_,_,_,_,_,_,_,_,_,_,_,_,_,_,_,_,_,_,_,_,_,_,_,_],[]⟩ _)
  ·intro u hu
   go_simp
  refine HT.take 2 (.pointer (some ⟨t,1,none⟩)) rfl (by kernel_rfl) (fun _ _ _ h=>h) (Or.inl ⟨by rfl,?_⟩) (?_:HT _ _ _ _ _ _ _ ⟨#[_,_,_,_,_,_,_,_,_,_,_,_,_,_,_,_,_,_,_,_,_,_,_,_,_,_,.pointer (some ⟨t,0,none⟩),.pointer (some ⟨t,0,none⟩),.pointer (some ⟨t,1,none⟩),_,_,_,_,_,_,_,_,_,_,_,_,_,_,_,_,_,_,_,_,_,_,_,_,_,_,_,_,_,_,_,_,_,_,_,_,_,_,_,_,_,_,_,_,_,_],[]⟩ _)
  ·intro u hu
   go_simp
  refine HT.take 3 (.int .i64 U) rfl (by kernel_rfl) (fun _ _ _ h=>h) (Or.inl ⟨by rfl,?_⟩) (?_:HT _ _ _ _ _ _ _ ⟨#[_,_,_,_,_,_,_,_,_,_,_,_,_,_,_,_,_,_,_,_,_,_,_,_,_,_,.pointer (some ⟨t,0,none⟩),.pointer (some ⟨t,0,none⟩),.pointer (some ⟨t,1,none⟩),.int .i64 U,_,_,_,_,_,_,_,_,_,_,_,_,_,_,_,_,_,_,_,_,_,_,_,_,_,_,_,_,_,_,_,_,_,_,_,_,_,_,_,_,_,_,_,_,_],[]⟩ _)
  ·intro u hu
   obtain⟨y0,y1,y2⟩:=(HL.out.below hu).tabc
   rw[HU.out]at y1
   go_simp
  refine HT.take 4 (.pointer (some ⟨t,0,none⟩)) rfl (by kernel_rfl) (fun _ _ _ h=>h) (Or.inl ⟨by rfl,?_⟩) (?_:HT _ _ _ _ _ _ _ ⟨#[_,_,_,_,_,_,_,_,_,_,_,_,_,_,_,_,_,_,_,_,_,_,_,_,_,_,.pointer (some ⟨t,0,none⟩),.pointer (some ⟨t,0,none⟩),.pointer (some ⟨t,1,none⟩),.int .i64 U,.pointer (some ⟨t,0,none⟩),_,_,_,_,_,_,_,_,_,_,_,_,_,_,_,_,_,_,_,_,_,_,_,_,_,_,_,_,_,_,_,_,_,_,_,_,_,_,_,_,_,_,_,_],[]⟩ _)
  ·intro u hu
   go_simp
  refine HT.take 5 (.pointer (some ⟨t,0,none⟩)) rfl (by kernel_rfl) (fun _ _ _ h=>h) (Or.inl ⟨by rfl,?_⟩) (?_:HT _ _ _ _ _ _ _ ⟨#[_,_,_,_,_,_,_,_,_,_,_,_,_,_,_,_,_,_,_,_,_,_,_,_,_,_,.pointer (some ⟨t,0,none⟩),.pointer (some ⟨t,0,none⟩),.pointer (some ⟨t,1,none⟩),.int .i64 U,.pointer (some ⟨t,0,none⟩),.pointer (some ⟨t,0,none⟩),_,_,_,_,_,_,_,_,_,_,_,_,_,_,_,_,_,_,_,_,_,_,_,_,_,_,_,_,_,_,_,_,_,_,_,_,_,_,_,_,_,_,_],[]⟩ _)
  ·intro u hu
   go_simp
  refine HT.take 6 (.pointer (some ⟨t,0,none⟩)) rfl (by kernel_rfl) (fun _ _ _ h=>h) (Or.inl ⟨by rfl,?_⟩) (?_:HT _ _ _ _ _ _ _ ⟨#[_,_,_,_,_,_,_,_,_,_,_,_,_,_,_,_,_,_,_,_,_,_,_,_,_,_,.pointer (some ⟨t,0,none⟩),.pointer (some ⟨t,0,none⟩),.pointer (some ⟨t,1,none⟩),.int .i64 U,.pointer (some ⟨t,0,none⟩),.pointer (some ⟨t,0,none⟩),.pointer (some ⟨t,0,none⟩),_,_,_,_,_,_,_,_,_,_,_,_,_,_,_,_,_,_,_,_,_,_,_,_,_,_,_,_,_,_,_,_,_,_,_,_,_,_,_,_,_,_],[]⟩ _)
  ·intro u hu
   go_simp
  refine HT.take 7 (.int .i64 room) rfl (by kernel_rfl) (fun _ _ _ h=>h) (Or.inl ⟨by rfl,?_⟩) (?_:HT _ _ _ _ _ _ _ ⟨#[_,_,_,_,_,_,_,_,_,_,_,_,_,_,_,_,_,_,_,_,_,_,_,_,_,_,.pointer (some ⟨t,0,none⟩),.pointer (some ⟨t,0,none⟩),.pointer (some ⟨t,1,none⟩),.int .i64 U,.pointer (some ⟨t,0,none⟩),.pointer (some ⟨t,0,none⟩),.pointer (some ⟨t,0,none⟩),.int .i64 room,_,_,_,_,_,_,_,_,_,_,_,_,_,_,_,_,_,_,_,_,_,_,_,_,_,_,_,_,_,_,_,_,_,_,_,_,_,_,_,_,_],[]⟩ _)
  ·intro u hu
   obtain⟨y0,y1,y2⟩:=(HL.out.below hu).tabc
   go_simp
  refine HT.take 8 (.int .i64 z) rfl (by kernel_rfl) (fun _ _ _ h=>h) (Or.inl ⟨by rfl,?_⟩) (?_:HT _ _ _ _ _ _ _ ⟨#[_,_,_,_,_,_,_,_,_,_,_,_,_,_,_,_,_,_,_,_,_,_,_,_,_,_,.pointer (some ⟨t,0,none⟩),.pointer (some ⟨t,0,none⟩),.pointer (some ⟨t,1,none⟩),.int .i64 U,.pointer (some ⟨t,0,none⟩),.pointer (some ⟨t,0,none⟩),.pointer (some ⟨t,0,none⟩),.int .i64 room,.int .i64 z,_,_,_,_,_,_,_,_,_,_,_,_,_,_,_,_,_,_,_,_,_,_,_,_,_,_,_,_,_,_,_,_,_,_,_,_,_,_,_,_],[]⟩ _)
  ·intro u hu
   go_simp
  refine HT.take 9 (.int .i64 RZ) rfl (by kernel_rfl) (fun _ _ _ h=>h) (Or.inl ⟨by rfl,?_⟩) (?_:HT _ _ _ _ _ _ _ ⟨#[_,_,_,_,_,_,_,_,_,_,_,_,_,_,_,_,_,_,_,_,_,_,_,_,_,_,.pointer (some ⟨t,0,none⟩),.pointer (some ⟨t,0,none⟩),.pointer (some ⟨t,1,none⟩),.int .i64 U,.pointer (some ⟨t,0,none⟩),.pointer (some ⟨t,0,none⟩),.pointer (some ⟨t,0,none⟩),.int .i64 room,.int .i64 z,.int .i64 RZ,_,_,_,_,_,_,_,_,_,_,_,_,_,_,_,_,_,_,_,_,_,_,_,_,_,_,_,_,_,_,_,_,_,_,_,_,_,_,_],[]⟩ _)
  ·intro u hu
   have hvz:(room:Int) - (z:Int)=(RZ:Int):=by omega
   go_simp
   exact wrapI (by omega) (by omega)
  refine HT.tail _ rfl rfl (by kernel_rfl) (fun hS=>?_)
  have HLD:=Lib.hid (HL.out.below hS)
  have HBD:=Lib.hid (below_then HWZ.out (Below.refl _ _) hS)
  have HOD:=Lib.hid (HOW.out.below hS)
  have HKD:=Lib.hid (HBK.out.below hS)
  have HWD:=Lib.hid (went_below HWT.out HBD.out HZW.out)
  have HRD:=Lib.hid (HROW.out.below hS)
  have HZD:Hid (w1.heap.size≤wd.heap.size):=Lib.hid (Nat.le_trans HWZ.out HBD.out.size)
  clear y0 y1 y2 hS hS0 HL HOW HBK HWT HROW
  by_cases hgt:RZ < U
  ·have hgi:(U:Int) > (RZ:Int):=by omega
   obtain⟨j,hj⟩:∃ j,l1.length=j+1:=by
    cases l1 with
    | nil=>exact absurd HU.out (by show ¬ 0=U;omega)
    | cons y r=>exact⟨_,rfl⟩
   have hjl:j < l1.length:=by omega
   have hxm:=List.getElem_mem hjl
   have m2:=(HLD.out.ring.link l1.length (Nat.le_refl _)).2
   rw[Lr.adr_end,(congrArg (adr t l1) hj).trans (Lr.adr_node hjl)]at m2
   have y14:wd.cell? ⟨t,14,none⟩=some (.pointer (some ⟨(l1[j]'hjl).k,0,none⟩)):=m2
   have z0:=(HLD.out.node _ hxm).1
   have HRM:=Lib.hid (fun u (hu:LrAt B t m room l1 u)=>lrRemove_any B t m room j l1 u hu hjl)
   have HPE:=Lib.hid (fun x=>Lr.peek_erase HLD.out.one hjl x)
   have HLE2:Hid (LrLess l0 (l1.eraseIdx j)):=Lib.hid (fun x=>by
    rw[HPE.out x]
    by_cases hx:x=(l1[j]'hjl).id
    ·rw[if_pos hx];exact .inl rfl
    ·rw[if_neg hx];exact HLE.out x)
   have HLN:Hid ((l1.eraseIdx j).length=j):=Lib.hid (by rw[List.length_eraseIdx_of_lt hjl];omega)
   have HLT:Hid (∀ k,LrF t m (l1.eraseIdx j) k→LrF t m l1 k):=Lib.hid (fun k hk=>LrF.erase hk)
   clear HPE HLE m2
   obtain⟨kk,hkk⟩:∃ kk,(l1[j]'hjl).k=kk:=⟨_,rfl⟩
   obtain⟨id2,hid2⟩:∃ id2,(l1[j]'hjl).id=id2:=⟨_,rfl⟩
   rw[hkk]at y14 z0 HRM
   rw[hid2]at z0
   generalize l1.eraseIdx j=l2 at *
   have HNEW:=Lib.hid (newS wd id2)
   have HL60:Hid (n+1≤4398046511104):=Lib.hid (by omega)
   have hba:Below wd.heap.size wd (wd.alloc (.cells #[.string id2] 9)):=(Below.refl _ _).alloc (Nat.le_refl _) _
   have HRA:=Lib.hid (HRD.out.below hba)
   have HLA:=Lib.hid (HLD.out.below hba)
   have HOA:=Lib.hid (HOD.out.below hba)
   have HKA:=Lib.hid (HKD.out.below hba)
   have HBA:=Lib.hid (below_then HZD.out HBD.out hba)
   have HWA:=Lib.hid (went_below HWD.out (hba.mono HZD.out) HZW.out)
   have HZA:Hid (w1.heap.size≤(wd.alloc (.cells #[.string id2] 9)).heap.size):=Lib.hid (Nat.le_trans HWZ.out HBA.out.size)
   clear hkk hid2 hba hxm HLD HOD HKD HRD HWD HBD
   go_wp2
   refine NoPanic.normal ?_
   go_wp2_with (at_builtin;refine appS _ rfl _ _ rfl w1.heap.size A n c gs rfl HRA.out _ 1 1 [id2] rfl HNEW.out HL60.out HZA.out ?_;intro A8 c8 w9 hr9 ha9;clear y14 z0)
   have hb9:=ha9.below HRA.out HZA.out
   have hl9:=HLA.out.app HRA.out ha9 (by decide) (by decide) (by decide) (by decide)
   have hw9:Went (fun k=>ownB A c=some k) _ (fun k=>ownB A c=some k) w9:=Went.grown ha9.grown (fun k e=>e) (fun _ h=>.inl h)
   have ho9:EOwn w9 B q:=⟨hw9.row HOA.out.1 (fun k hk e=>(HOA.out.1.tag hk).ne (HRA.out.tag e) (by decide) rfl),hw9.row HOA.out.2 (fun k hk e=>(HOA.out.2.tag hk).ne (HRA.out.tag e) (by decide) rfl)⟩
   have hk9:=hw9.blk HKA.out (fun e=>HKA.out.tag.ne (HRA.out.tag e) (by decide) rfl)
   have HB9:=Lib.hid (HBA.out.trans hb9)
   have HR9:=Lib.hid hr9
   have HL9:=Lib.hid hl9
   have HO9:=Lib.hid ho9
   have HK9:=Lib.hid hk9
   have HW9:=Lib.hid (went_below HWA.out hb9 HZW.out)
   clear hb9 hl9 hw9 ho9 hk9 hr9 ha9 HBA HRA HLA HOA HKA HWA HZA HNEW
   refine (HRM.out w9 HL9.out).mono ?_
   rintro e w2 ⟨rfl,h2,hw2⟩
   have HL2:=Lib.hid h2
   have HR2:=Lib.hid (hw2.row HR9.out (fun k hk=>HL9.out.off (HR9.out.tag hk) (by decide) (by decide)))
   have HO2:=Lib.hid (own_kept HO9.out hw2 (fun k hk=>HL9.out.tag hk))
   have HK2:=Lib.hid (hw2.blk HK9.out (HL9.out.off HK9.out.tag (by decide) (by decide)))
   have HW2:=Lib.hid (HW9.out.trans hw2)
   have HZ2:Hid (w1.heap.size≤w2.heap.size):=Lib.hid (Nat.le_trans HWZ.out (Nat.le_trans HB9.out.size hw2.size))
   clear h2 hw2
   go_wp2_with fail
   go_roundw
   case rel=>exact⟨l2,A8,n+1,c8,gs++[id2],rfl,by rw[HLN.out];omega,HR2.out,HL2.out,HW2.out,HO2.out,HK2.out,HLE2.out,HZ2.out⟩
   case measure=>simp;omega
  have hgi:¬ (U:Int) > (RZ:Int):=by omega
  go_wp2
  refine NoPanic.normal ?_
  have hka:=HKD.out
  obtain⟨x0,x1,x2,x3,x4,x5,x6,x7,x8⟩:=hka.cells9
  obtain⟨w3,hw3⟩:∃ w3,wd.alloc (.cells #[.string id,.string q.E.k,.string q.E.v,.int .i64 q.E.s,.string q.E.r,.int .i64 q.E.m,.slice q.A q.E.fs.length q.c,.slice q.X q.E.body.length q.d,.int .i64 q.E.asked,.int .i64 q.E.got,.int .i64 z,.pointer none,.pointer none] Lr.nT)=w3:=⟨_,rfl⟩
  have hb3:Below wd.heap.size wd w3:=by rw[← hw3];exact (Below.refl _ _).alloc (Nat.le_refl _) _
  have hk3:=Blk.new wd #[.string id,.string q.E.k,.string q.E.v,.int .i64 q.E.s,.string q.E.r,.int .i64 q.E.m,.slice q.A q.E.fs.length q.c,.slice q.X q.E.body.length q.d,.int .i64 q.E.asked,.int .i64 q.E.got,.int .i64 z,.pointer none,.pointer none] Lr.nT
  rw[hw3]at hk3
  have hlt1:∀ y∈l1,y.k≠wd.heap.size:=fun y hy=>Nat.ne_of_lt (HLD.out.ring.nd y hy).lt
  have hgek:B≤wd.heap.size:=Nat.le_trans hB (Nat.le_trans HZW.out HZD.out)
  have hwk:w.heap.size≤wd.heap.size:=Nat.le_trans HZW.out HZD.out
  obtain⟨nk,hnk⟩:∃ nk,wd.heap.size=nk:=⟨_,rfl⟩
  obtain⟨tb,t1,t2,hbs⟩:=HLD.out.base
  obtain⟨X,hX⟩:∃ X:It,(⟨id,q,z,nk⟩:It)=X:=⟨_,rfl⟩
  have hXk:X.k=nk:=by rw[← hX]
  have hXi:X.id=id:=by rw[← hX]
  have hXz:X.z=z:=by rw[← hX]
  have hXp:X.p=q:=by rw[← hX]
  rw[hnk]at hk3 hlt1 hgek hwk
  have hx3:LrBase B t m room (Lr.used l1) tb (X::l1) w3:=(hbs.below hb3).cons (by
   rw[← hX]
   exact⟨hk3.cell 0 rfl,hk3.cell 1 rfl,hk3.cell 2 rfl,hk3.cell 3 rfl,hk3.cell 4 rfl,hk3.cell 5 rfl,hk3.cell 6 rfl,hk3.cell 7 rfl,hk3.cell 8 rfl,hk3.cell 9 rfl,hk3.cell 10 rfl⟩) ⟨_,by rw[hXk];exact hk3⟩ (by rw[hXp];exact HOD.out.below hb3)
  rw[HU.out]at hx3
  have hr3:=HLD.out.ring.below hb3
  have hwt3:Went (LrF t m l) w (LrF t m (X::l1)) w3:=(went_below HWD.out hb3 (by rw[hnk];exact hwk)).wide (fun _ hk=>hk) (fun k hk=>by
   rcases hk with hk | hk | ⟨y,hy,hk⟩
   ·exact .inl (.inl hk)
   ·exact .inl (.inr (.inl hk))
   ·rcases List.mem_cons.1 hy with rfl | hy
    ·exact .inr (.inr (by rw[← hk,hXk];exact hwk))
    ·exact .inl (.inr (.inr ⟨y,hy,hk⟩)))
  have htl:tb.length≤1073741824:=Nat.le_trans (up_len t1 t2) HLD.out.len
  have HX3:=Lib.hid hx3
  have HR3:=Lib.hid hr3
  have HW3:=Lib.hid hwt3
  have HK3:=Lib.hid hk3
  have HT1:=Lib.hid t1
  have HT2:=Lib.hid t2
  obtain⟨y0,y1,y2⟩:=hx3.tabc
  have HNK2:=Lib.hid hnk
  clear hx3 hr3 hwt3 hk3 t1 t2 hbs hb3 hka y0 y1
  go_wp2_with (at_mapUpdate;refine wpList_mapUpdate_own _ rfl _ _ _ 120 rfl 9 119 (string_keyed strT_ul) Lr.mapT_ul D.ptrR m tb.length (D.datum (fun n=>n) tb) rfl HX3.out.items (by simp only[maxLen];omega) (.string id) (.pointer (some ⟨nk,0,none⟩)) (D.key id) (by go_simp;try rw[HNK2.out]) rfl (nmKey id (by simp only[maxLen];omega)) (.lit (.int .i64 nk)) [] rfl ?_;intro w4 hown4 hgrow4;clear x0 x1 x2 x3 x4 x5 x6 x7 x8 y2)
  rw[show (D.datum (fun n=>n) tb).put (D.key id) (.lit (.int .i64 nk))=D.datum (fun n=>n) (D.put tb id nk) from D.datum_put (fun n=>n) tb id nk]at hown4
  obtain⟨q1,q2,q3,q4⟩:=HX3.out.turn (names_tight hown4) hgrow4
  have hr4:=HR3.out.same q3 (fun y hy=>q4 y (List.mem_cons_of_mem _ hy))
  have hq4:=q4 X (by simp)
  rw[hXk]at hq4
  have c11:w4.cell? ⟨nk,11,none⟩=some (.pointer none):=(World.cell?_of_block hq4).trans (HK3.out.cell 11 rfl)
  have c12:w4.cell? ⟨nk,12,none⟩=some (.pointer none):=(World.cell?_of_block hq4).trans (HK3.out.cell 12 rfl)
  obtain⟨b,o,fb,gb,ltb,kb⟩:=hr4.form 1
  obtain⟨m1,m2⟩:=hr4.link 0 (Nat.zero_le _)
  rw[show (0:Nat)+1=1 from rfl,fb]at m1 m2
  have hyf:=(q1.node X (by simp)).2
  rw[hXk]at hyf
  have hfr:=front_any t nk b o w4 m1 hr4.tb.lt hyf.lt ltb ⟨_,c11⟩ ⟨_,c12⟩ ⟨_,m2⟩ (fun i=>hyf.free i) (fun i=>hr4.tb.free i) (fun i=>hr4.freeAt kb i)
  obtain⟨q5,q6,q7⟩:=q1.front (x:=X) hr4 (fun y hy=>List.mem_cons_of_mem _ hy) (by simp) (fun y hy=>by rw[hXk];exact hlt1 y hy) fb kb (by rw[hXk];exact c11) (by rw[hXk];exact c12)
  rw[hXk]at q5 q6 q7
  have HFR:=Lib.hid hfr
  have HQ5:=Lib.hid q5
  have HR5:=Lib.hid q6
  have HW5:=Lib.hid ((HW3.out.trans q2).trans q7)
  generalize (((w4.setCell ⟨nk,11,none⟩ (.pointer (some ⟨t,3,none⟩))).setCell ⟨nk,12,none⟩ (.pointer (some ⟨b,o,none⟩))).setCell ⟨t,15,none⟩ (.pointer (some ⟨nk,0,none⟩))).setCell ⟨b,o+11,none⟩ (.pointer (some ⟨nk,0,none⟩))=W5 at *
  clear hown4 hgrow4 q1 q2 q3 q4 hr4 hq4 c11 c12 fb gb ltb kb m1 m2 hyf hfr q5 q6 q7 HX3 HR3 HW3 HK3
  refine HFR.out.mono ?_
  rintro e w5 ⟨rfl,ha5⟩
  have HQ6:=Lib.hid (HQ5.out.below ha5)
  have HR6:=Lib.hid (HR5.out.below ha5)
  have HW6:=Lib.hid (HW5.out.trans (Went.below ha5 _))
  clear ha5 HFR HQ5 HR5 HW5
  obtain⟨V,hV⟩:∃ V:Nat,U+z=V:=⟨_,rfl⟩
  have hwv:IntKind.i64.wrap ((U:Int)+(z:Int))=(V:Int):=by
   have hvz:(U:Int)+(z:Int)=(V:Int):=by omega
   rw[hvz]
   exact wrapI (by omega) (by omega)
  obtain⟨y0,y1,y2⟩:=HQ6.out.tabc
  have y3:=HQ6.out.fr.free 1
  go_wp2
  go_ret2
  obtain⟨r1,r2,r3⟩:=HQ6.out.count HR6.out V
  have hp1:Lr.peek l1 id=none:=by
   rcases HLE.out id with h1 | h1
   ·exact h1
   ·rw[h1,HP1.out,if_pos rfl]
  have hus:Lr.used (X::l1)=V:=by
   unfold Lr.used at HU ⊢
   rw[List.map_cons,List.sum_cons,HU.out,hXz]
   omega
  refine .inr ⟨by omega,A,n,c,nk,l1,rfl,?_,?_,fun x=>?_,hp1⟩
  ·rw[hX]
   refine LrBase.at_ (by rw[hus];exact r1) r2 (fun _ h=>h) (D.up_put HT1.out _ _) (fun id2=>?_) ?_ ⟨by rw[hus];omega,hroom⟩ (fun y hy=>?_) (fun y hy=>?_) ⟨HLD.out.ge.1,HLD.out.ge.2.1,fun y hy=>?_⟩
   ·rw[D.find_put]
    unfold Lr.peek
    rw[List.find?_cons,hXi]
    by_cases he:id2=id
    ·rw[if_pos he,he,decide_eq_true rfl]
     show some nk=some X.k
     rw[hXk]
    ·rw[if_neg he,decide_eq_false (fun e=>he e.symm)]
     exact HT2.out id2
   ·unfold Lr.ids
    rw[List.map_cons,hXi]
    refine List.nodup_cons.2 ⟨fun hm=>?_,HLD.out.one⟩
    obtain⟨y,hy,e⟩:=List.mem_map.1 hm
    unfold Lr.peek at hp1
    rw[List.find?_eq_none]at hp1
    exact hp1 y hy (by simp [e])
   ·rcases List.mem_cons.1 hy with rfl | hy
    ·rw[hXz];exact hz
    ·exact HLD.out.pos y hy
   ·rcases List.mem_cons.1 hy with rfl | hy
    ·rw[hXi,hXp];exact⟨hs,hqs⟩
    ·exact HLD.out.small y hy
   ·rcases List.mem_cons.1 hy with rfl | hy
    ·rw[hXk];exact hgek
    ·exact HLD.out.ge.2.2 y hy
  ·rw[hX]
   exact HW6.out.trans r3
  ·rcases HLE.out x with h1 | h1
   ·exact .inl h1
   ·rw[h1,HP1.out]
    by_cases he:x=id
    ·rw[if_pos he];exact .inl rfl
    ·rw[if_neg he];exact .inr rfl
end Go.Proofs.YthjeglnkgdpijaaGreatDoor
