/- The walk of cache's lay (printed by gen/cachee.py). -/
import Derived.Test.YthjeglnkgdpijaaGreatDoorZ05
set_option maxHeartbeats 4000000
set_option maxRecDepth 100000
namespace Go.Proofs.YthjeglnkgdpijaaGreatDoor
open Go Go.RowKit Go.Maps
theorem objB_lenC (k v:ByteArray) (s:Int) (r:ByteArray) (m:Int) (fs:List FD) (body:List UInt8) (asked got:Int):(objB k v s r m fs body asked got).length≤400000:=by
 unfold objB
 split
 ·rename_i h
  have hok:=(of_decide_eq_true h).2
  obtain⟨h1,h2,h3,_⟩:=okE_facts hok
  have hd:∀ i,(datO k v (F.respB s r m fs) body asked got i).length≤65536:=by
   intro i
   match i with
   | 0=>show (L k).length≤_;rw[← L_size];omega
   | 1=>show (L v).length≤_;rw[← L_size];omega
   | 2=>show (F.respB s r m fs).length≤_;have:=respB_len s r m fs;omega
   | 3=>show body.length≤_;omega
   | 4=>show (beN asked.toNat 8++beN got.toNat 8).length≤_;rw[List.length_append,beN_len,beN_len];decide
   | n+5=>exact Nat.zero_le _
  have:=preO_len _ hd 5
  unfold objW
  rw[List.length_append,beN_len]
  omega
 ·exact Nat.zero_le _
theorem encB_pos {E:O.Ent} (h:S.encE E=0):1≤(S.encB E).length∧(S.encB E).length≤400000:=by
 refine⟨?_,objB_lenC _ _ _ _ _ _ _ _ _⟩
 rcases O.enc_ways E.k E.v E.s E.r E.m E.fs E.body E.asked E.got with ⟨_,h2⟩ | ⟨h2,_⟩
 ·unfold S.encB
  cases hb:objB E.k E.v E.s E.r E.m E.fs E.body E.asked E.got with
  | cons x r=>exact Nat.succ_le_succ (Nat.zero_le _)
  | nil =>
   rw[hb]at h2
   have h3:O.dec []=none:=by decide +kernel
   rw[h3]at h2
   cases h2
 ·exact absurd (show S.encE E=120 from h2) (by omega)
theorem mem_less {l l':List It} (hn:(Lr.ids l').Nodup) (hp:LrLess l l') {x:It} (hx:x∈l'):x∈l:=by
 obtain⟨j,hj,rfl⟩:=List.getElem_of_mem hx
 have h1:=Lr.peek_at hn hj
 rcases hp (l'[j]).id with h2 | h2
 ·rw[h1]at h2;cases h2
 ·rw[h1]at h2
  exact List.mem_of_find?_eq_some h2.symm
def Newer (w:World) (l l':List It):Prop:=∀ x∈l',x∈l∨∀ k,ownB x.p.A x.p.c=some k∨ownB x.p.X x.p.d=some k→w.heap.size≤k
def LayTo (w:World) (l l':List It) (id:ByteArray) (E:O.Ent):Prop:=(∀ x,Lr.peek l' x=none∨(x≠id∧Lr.peek l' x=Lr.peek l x)∨(x=id∧∃ y,Lr.peek l' x=some y∧y.p.E=E))∧Newer w l l'
def RetLayC (B room:Nat) (Z:CM) (a:CSt) (id:ByteArray) (E:O.Ent) (w:World) (e:Ending) (w':World):Prop :=
 (S.encE E≠0∧e=.returned (.int .i64 (S.encE E))∧Below w.heap.size w w') ∨
 (S.encE E=0∧e=.returned (.int .i64 0)∧∃ l',CAt B room Z { a with l:=l' } w'∧Went (Z.foot a) w (Z.foot { a with l:=l' }) w'∧LayTo w a.l l' id E)
theorem lay_any (B room b:Nat) (Z:CM) (a:CSt) (id:ByteArray) (p:EP) (w:World) (h:CAt B room Z a w) (hp:EOwn w b p) (hs:id.size≤1073741824) (hr:p.E.r.size≤1073741824) (hb:F.bulk p.E.fs≤1073741824) (hl:p.E.fs.length≤1099511627776∧p.E.body.length≤1099511627776) (ht:TabOk w) (hB:B≤w.heap.size) :
  Calls Tryz.prog 34 #[.pointer (some ⟨Z.c,0,none⟩),.string id,p.v] w (RetLayC B room Z a id p.E w):=by
 obtain⟨w0,hw0⟩:∃ w0,w.alloc (.cells #[.string p.E.k,.string p.E.v,.int .i64 p.E.s,.string p.E.r,.int .i64 p.E.m,.slice p.A p.E.fs.length p.c,.slice p.X p.E.body.length p.d,.int .i64 p.E.asked,.int .i64 p.E.got] 41)=w0:=⟨_,rfl⟩
 have hb0:Below w.heap.size w w0:=by rw[← hw0];exact (Below.refl _ _).alloc (Nat.le_refl _) _
 have hk0:Blk w0 w.heap.size #[.string p.E.k,.string p.E.v,.int .i64 p.E.s,.string p.E.r,.int .i64 p.E.m,.slice p.A p.E.fs.length p.c,.slice p.X p.E.body.length p.d,.int .i64 p.E.asked,.int .i64 p.E.got] 41:=by rw[← hw0];exact Blk.new w _ _
 have hp0:=hp.below hb0
 have HEN:=Lib.hid (objEncode_any p.E.k p.E.v p.E.s p.E.r p.E.m p.A p.c p.E.fs p.X p.d p.E.body p.E.asked p.E.got w0 hr hb hp0.1.rd hp0.2.rd (ht.below hb0))
 rw[show objE p.E.k p.E.v p.E.s p.E.r p.E.m p.E.fs p.E.body.length p.E.asked p.E.got=S.encE p.E from rfl,show objB p.E.k p.E.v p.E.s p.E.r p.E.m p.E.fs p.E.body p.E.asked p.E.got=S.encB p.E from rfl]at HEN
 obtain⟨x0,x1,x2,x3,x4,x5,x6,x7,x8⟩:=hk0.cells9
 have HB0:=Lib.hid hb0
 have HK0:=Lib.hid hk0
 have H0:=Lib.hid (h.below hb0)
 have HP0:=Lib.hid hp0
 have HEP:=Lib.hid (fun (hc:S.encE p.E=0)=>encB_pos hc)
 clear hb0 hk0 h hp hp0 hr hb ht
 unfold EP.v entV
 go_enter Tryz.func34,Tryz.ntmps34
 go_wp2_with fail
 clear x0 x1 x2 x3 x4 x5 x6 x7 x8 hw0
 refine HEN.out.mono ?_
 rintro e w1 ⟨A,c,rfl,hr1,hb1⟩
 clear HEN hr1
 have HB1:=Lib.hid (below_then HB0.out.size HB0.out hb1)
 have HZ1:=Lib.hid (Nat.le_trans HB0.out.size hb1.size)
 have H1:=Lib.hid (H0.out.below hb1)
 have HK1:=Lib.hid (HK0.out.below hb1)
 have HP1:=Lib.hid (HP0.out.below hb1)
 clear hb1 H0 HK0 HP0 HB0
 by_cases hc:S.encE p.E=0
 rotate_left
 ·have hci:¬ ((S.encE p.E:Int)=0):=hc
  have HC:=Lib.hid hc
  clear hc
  go_wp2
  go_ret
  exact .inl ⟨HC.out,rfl,HB1.out⟩
 ·have HC:=Lib.hid hc
  have HZ:=Lib.hid (HEP.out hc)
  rw[hc]
  clear hc HEP
  obtain⟨z,hz⟩:∃ z,(S.encB p.E).length=z:=⟨_,rfl⟩
  rw[hz]at HZ ⊢
  have HCP:=Lib.hid (fun u (hu:Below w1.heap.size w1 u)=>copied_any p b u (HP1.out.below hu) hl.1 hl.2)
  go_upto_region 4 with fail
  have hb2:Below w1.heap.size w1 w1.drew:=(Below.refl _ _).drew
  have hS0:w1.drew.cell? ⟨Z.c,1,none⟩=some (.pointer (some ⟨Z.t,0,none⟩))∧Blk w1.drew w.heap.size #[.string p.E.k,.string p.E.v,.int .i64 p.E.s,.string p.E.r,.int .i64 p.E.m,.slice p.A p.E.fs.length p.c,.slice p.X p.E.body.length p.d,.int .i64 p.E.asked,.int .i64 p.E.got] 41:=⟨(H1.out.below hb2).cells.2.1,HK1.out.below hb2⟩
  have HB2:=Lib.hid hb2
  clear hb2
  refine wp_region_noPanic ?_
  refine HT.begin (n:=14) (S:=(fun u=>u.cell? ⟨Z.c,1,none⟩=some (.pointer (some ⟨Z.t,0,none⟩))∧Blk u w.heap.size #[.string p.E.k,.string p.E.v,.int .i64 p.E.s,.string p.E.r,.int .i64 p.E.m,.slice p.A p.E.fs.length p.c,.slice p.X p.E.body.length p.d,.int .i64 p.E.asked,.int .i64 p.E.got] 41)) (by kernel_rfl) hS0 ?_
  generalize w1.drew=w2 at *
  refine HT.take 0 (.pointer (some ⟨Z.c,0,none⟩)) rfl (by kernel_rfl) (fun _ _ _ h=>h) (Or.inl ⟨by rfl,?_⟩) (?_:HT _ _ _ _ _ _ _ ⟨#[_,_,_,_,_,_,_,_,_,_,_,_,_,_,_,_,_,_,_,_,.pointer (some ⟨Z.c,0,none⟩),_,_,_,_,_,_,_,_,_,_,_,_,_,_,_,_,_,_,_],[]⟩ _)
  ·intro u hu
   go_simp
  refine HT.take 1 (.pointer (some ⟨Z.c,0,none⟩)) rfl (by kernel_rfl) (fun _ _ _ h=>h) (Or.inl ⟨by rfl,?_⟩) (?_:HT _ _ _ _ _ _ _ ⟨#[_,_,_,_,_,_,_,_,_,_,_,_,_,_,_,_,_,_,_,_,.pointer (some ⟨Z.c,0,none⟩),.pointer (some ⟨Z.c,0,none⟩),_,_,_,_,_,_,_,_,_,_,_,_,_,_,_,_,_,_],[]⟩ _)
  ·intro u hu
   go_simp
  refine HT.take 2 (.pointer (some ⟨Z.c,1,none⟩)) rfl (by kernel_rfl) (fun _ _ _ h=>h) (Or.inl ⟨by rfl,?_⟩) (?_:HT _ _ _ _ _ _ _ ⟨#[_,_,_,_,_,_,_,_,_,_,_,_,_,_,_,_,_,_,_,_,.pointer (some ⟨Z.c,0,none⟩),.pointer (some ⟨Z.c,0,none⟩),.pointer (some ⟨Z.c,1,none⟩),_,_,_,_,_,_,_,_,_,_,_,_,_,_,_,_,_],[]⟩ _)
  ·intro u hu
   go_simp
  refine HT.take 3 (.pointer (some ⟨Z.t,0,none⟩)) rfl (by kernel_rfl) (fun _ _ _ h=>h) (Or.inl ⟨by rfl,?_⟩) (?_:HT _ _ _ _ _ _ _ ⟨#[_,_,_,_,_,_,_,_,_,_,_,_,_,_,_,_,_,_,_,_,.pointer (some ⟨Z.c,0,none⟩),.pointer (some ⟨Z.c,0,none⟩),.pointer (some ⟨Z.c,1,none⟩),.pointer (some ⟨Z.t,0,none⟩),_,_,_,_,_,_,_,_,_,_,_,_,_,_,_,_],[]⟩ _)
  ·intro u hu
   have y1:=hu.1
   go_simp
  refine HT.take 4 (.string id) rfl (by kernel_rfl) (fun _ _ _ h=>h) (Or.inl ⟨by rfl,?_⟩) (?_:HT _ _ _ _ _ _ _ ⟨#[_,_,_,_,_,_,_,_,_,_,_,_,_,_,_,_,_,_,_,_,.pointer (some ⟨Z.c,0,none⟩),.pointer (some ⟨Z.c,0,none⟩),.pointer (some ⟨Z.c,1,none⟩),.pointer (some ⟨Z.t,0,none⟩),.string id,_,_,_,_,_,_,_,_,_,_,_,_,_,_,_],[]⟩ _)
  ·intro u hu
   go_simp
  refine HT.take 5 (.agg #[.string p.E.k,.string p.E.v,.int .i64 p.E.s,.string p.E.r,.int .i64 p.E.m,.slice p.A p.E.fs.length p.c,.slice p.X p.E.body.length p.d,.int .i64 p.E.asked,.int .i64 p.E.got]) rfl (by kernel_rfl) (fun _ _ _ h=>h) (Or.inl ⟨by rfl,?_⟩) (?_:HT _ _ _ _ _ _ _ ⟨#[_,_,_,_,_,_,_,_,_,_,_,_,_,_,_,_,_,_,_,_,.pointer (some ⟨Z.c,0,none⟩),.pointer (some ⟨Z.c,0,none⟩),.pointer (some ⟨Z.c,1,none⟩),.pointer (some ⟨Z.t,0,none⟩),.string id,.agg #[.string p.E.k,.string p.E.v,.int .i64 p.E.s,.string p.E.r,.int .i64 p.E.m,.slice p.A p.E.fs.length p.c,.slice p.X p.E.body.length p.d,.int .i64 p.E.asked,.int .i64 p.E.got],_,_,_,_,_,_,_,_,_,_,_,_,_,_],[]⟩ _)
  ·intro u hu
   obtain⟨x0,x1,x2,x3,x4,x5,x6,x7,x8⟩:=hu.2.cells9
   go_simp
  refine HT.take 7 (.slice A z c) rfl (by kernel_rfl) (fun _ _ _ h=>h) (Or.inl ⟨by rfl,?_⟩) (?_:HT _ _ _ _ _ _ _ ⟨#[_,_,_,_,_,_,_,_,_,_,_,_,_,_,_,_,_,_,_,_,.pointer (some ⟨Z.c,0,none⟩),.pointer (some ⟨Z.c,0,none⟩),.pointer (some ⟨Z.c,1,none⟩),.pointer (some ⟨Z.t,0,none⟩),.string id,.agg #[.string p.E.k,.string p.E.v,.int .i64 p.E.s,.string p.E.r,.int .i64 p.E.m,.slice p.A p.E.fs.length p.c,.slice p.X p.E.body.length p.d,.int .i64 p.E.asked,.int .i64 p.E.got],_,.slice A z c,_,_,_,_,_,_,_,_,_,_,_,_],[]⟩ _)
  ·intro u hu
   go_simp
  refine HT.take 8 (.int .i64 z) rfl (by kernel_rfl) (fun _ _ _ h=>h) (Or.inl ⟨by rfl,?_⟩) (?_:HT _ _ _ _ _ _ _ ⟨#[_,_,_,_,_,_,_,_,_,_,_,_,_,_,_,_,_,_,_,_,.pointer (some ⟨Z.c,0,none⟩),.pointer (some ⟨Z.c,0,none⟩),.pointer (some ⟨Z.c,1,none⟩),.pointer (some ⟨Z.t,0,none⟩),.string id,.agg #[.string p.E.k,.string p.E.v,.int .i64 p.E.s,.string p.E.r,.int .i64 p.E.m,.slice p.A p.E.fs.length p.c,.slice p.X p.E.body.length p.d,.int .i64 p.E.asked,.int .i64 p.E.got],_,.slice A z c,.int .i64 z,_,_,_,_,_,_,_,_,_,_,_],[]⟩ _)
  ·intro u hu
   go_simp
  refine HT.step 6 rfl (by kernel_rfl) (fun hS K hK=>?_)
  go_simp
  refine (HCP.out _ HB2.out).mono ?_
  rintro e w3 ⟨q,rfl,hqE,hqO,hb3⟩
  have hb3':=below_then HB2.out.size HB2.out hb3
  have HB3:=Lib.hid hb3'
  have HQE:=Lib.hid hqE
  have HQZ:=Lib.hid (Nat.le_trans HZ1.out HB2.out.size)
  have HQG:=Lib.hid (fun k (hk:ownB q.A q.c=some k∨ownB q.X q.d=some k)=>(hk.elim (fun hk=>(hqO.1.lt k hk).1) (fun hk=>(hqO.2.lt k hk).1):w2.heap.size≤k))
  have HQO:=Lib.hid (hqO.mono (Nat.le_trans hB HQZ.out))
  have HB23:=Lib.hid HB2.out.size
  refine hK.out _ _ ⟨(H1.out.below hb3').cells.2.1,HK1.out.below hb3'⟩ ?_
  clear hK hS hb3 hb3' hqE hqO HCP HB2
  refine HT.step 9 rfl (by kernel_rfl) (fun hS K hK=>?_)
  go_simp
  refine (lrPut_any B Z.t Z.m room a.l id q z w3 (H1.out.below HB3.out).mem HQO.out hs HZ.out.1 (by have:=HZ.out.2;omega) (by rw[HQE.out];exact hl) (by have:=HB3.out.size;have:=HZ1.out;omega)).mono ?_
  rintro e w5 hret
  obtain⟨A5,n5,c5,ok,l5,rfl,h5,hw5,hmem5,hok5⟩:∃ A5 n5 c5 ok l5,e=.returned (.tuple #[.slice A5 n5 c5,.bool ok])∧LrAt B Z.t Z.m room l5 w5∧Went (LrF Z.t Z.m a.l) w3 (LrF Z.t Z.m l5) w5∧(∀ x∈l5,x∈a.l∨x.p=q)∧((ok=false∧l5=a.l)∨(ok=true∧∀ x,Lr.peek l5 x=none∨(x≠id∧Lr.peek l5 x=Lr.peek a.l x)∨(x=id∧∃ y,Lr.peek l5 x=some y∧y.p.E=q.E))):=by
   rcases hret with ⟨_,rfl,h6,h7⟩ | ⟨_,A5,n5,c5,k5,l1,rfl,h6,h7,h8,h9⟩
   ·exact⟨none,0,0,false,a.l,rfl,h6,Went.below h7 _,fun x hx=>.inl hx,.inl ⟨rfl,rfl⟩⟩
   ·refine⟨A5,n5,c5,true,_,rfl,h6,h7,fun x hx=>?_,.inr ⟨rfl,fun x=>?_⟩⟩
    ·rcases List.mem_cons.1 hx with rfl | hx
     ·exact .inr rfl
     ·have hn:=h6.one
      unfold Lr.ids at hn
      rw[List.map_cons,List.nodup_cons]at hn
      exact .inl (mem_less hn.2 h8 hx)
    ·by_cases hx:x=id
     ·exact .inr (.inr ⟨hx,⟨id,q,z,k5⟩,by rw[hx];unfold Lr.peek;rw[List.find?_cons,decide_eq_true rfl],rfl⟩)
     ·have hpe:Lr.peek (⟨id,q,z,k5⟩::l1) x=Lr.peek l1 x:=by unfold Lr.peek;rw[List.find?_cons,decide_eq_false (fun e=>hx e.symm)]
      rw[hpe]
      exact (h8 x).imp (fun h=>h) (fun h=>.inl ⟨hx,h⟩)
  have H3:=H1.out.below HB3.out
  obtain⟨hca,hwa⟩:=H3.turned h5 hw5 (fun x hx=>(hmem5 x hx).imp (fun h=>h) (fun h s hs k hk hf=>by
   rw[h]at hk
   have h1:=HQG.out k hk
   have h2:=(H1.out.sto s hs).lt hf
   have h3:=HB23.out
   omega))
  have HCA:=Lib.hid hca
  have HWA:=Lib.hid ((Went.below (below_then HZ1.out HB1.out HB3.out) (Z.foot a)).trans hwa)
  have HOK5:=Lib.hid hok5
  have HNW:Hid (Newer w a.l l5):=Lib.hid (fun x hx=>(hmem5 x hx).imp (fun h=>h) (fun h k hk=>by
   rw[h]at hk
   exact Nat.le_trans HQZ.out (HQG.out k hk)))
  refine hK.out _ _ ⟨hca.cells.2.1,hw5.blk (HK1.out.below HB3.out) (H3.mem.off (HK1.out.below HB3.out).tag (by decide) (by decide))⟩ ?_
  clear hK hS hret h5 hw5 hmem5 hok5 hca hwa H3
  refine HT.take 10 (.tuple #[.slice A5 n5 c5,.bool ok]) rfl (by kernel_rfl) (fun _ _ _ h=>h) (Or.inl ⟨by rfl,?_⟩) (?_:HT _ _ _ _ _ _ _ ⟨#[_,_,_,_,_,_,_,_,_,_,_,_,_,_,_,_,_,_,_,.tuple #[.slice A5 n5 c5,.bool ok],.pointer (some ⟨Z.c,0,none⟩),.pointer (some ⟨Z.c,0,none⟩),.pointer (some ⟨Z.c,1,none⟩),.pointer (some ⟨Z.t,0,none⟩),.string id,.agg #[.string p.E.k,.string p.E.v,.int .i64 p.E.s,.string p.E.r,.int .i64 p.E.m,.slice p.A p.E.fs.length p.c,.slice p.X p.E.body.length p.d,.int .i64 p.E.asked,.int .i64 p.E.got],.agg #[.string q.E.k,.string q.E.v,.int .i64 q.E.s,.string q.E.r,.int .i64 q.E.m,.slice q.A q.E.fs.length q.c,.slice q.X q.E.body.length q.d,.int .i64 q.E.asked,.int .i64 q.E.got],.slice A z c,.int .i64 z,.tuple #[.slice A5 n5 c5,.bool ok],_,_,_,_,_,_,_,_,_,_],[]⟩ _)
  ·intro u hu
   go_simp
  refine HT.take 11 (.slice A5 n5 c5) rfl (by kernel_rfl) (fun _ _ _ h=>h) (Or.inl ⟨by rfl,?_⟩) (?_:HT _ _ _ _ _ _ _ ⟨#[_,_,_,_,_,_,_,_,_,_,_,_,_,_,_,_,_,_,_,.tuple #[.slice A5 n5 c5,.bool ok],.pointer (some ⟨Z.c,0,none⟩),.pointer (some ⟨Z.c,0,none⟩),.pointer (some ⟨Z.c,1,none⟩),.pointer (some ⟨Z.t,0,none⟩),.string id,.agg #[.string p.E.k,.string p.E.v,.int .i64 p.E.s,.string p.E.r,.int .i64 p.E.m,.slice p.A p.E.fs.length p.c,.slice p.X p.E.body.length p.d,.int .i64 p.E.asked,.int .i64 p.E.got],.agg #[.string q.E.k,.string q.E.v,.int .i64 q.E.s,.string q.E.r,.int .i64 q.E.m,.slice q.A q.E.fs.length q.c,.slice q.X q.E.body.length q.d,.int .i64 q.E.asked,.int .i64 q.E.got],.slice A z c,.int .i64 z,.tuple #[.slice A5 n5 c5,.bool ok],.slice A5 n5 c5,_,_,_,_,_,_,_,_,_],[]⟩ _)
  ·intro u hu
   go_simp
  refine HT.take 12 (.bool ok) rfl (by kernel_rfl) (fun _ _ _ h=>h) (Or.inl ⟨by rfl,?_⟩) (?_:HT _ _ _ _ _ _ _ ⟨#[_,_,_,_,_,_,_,_,_,_,_,_,_,_,_,_,_,_,_,.tuple #[.slice A5 n5 c5,.bool ok],.pointer (some ⟨Z.c,0,none⟩),.pointer (some ⟨Z.c,0,none⟩),.pointer (some ⟨Z.c,1,none⟩),.pointer (some ⟨Z.t,0,none⟩),.string id,.agg #[.string p.E.k,.string p.E.v,.int .i64 p.E.s,.string p.E.r,.int .i64 p.E.m,.slice p.A p.E.fs.length p.c,.slice p.X p.E.body.length p.d,.int .i64 p.E.asked,.int .i64 p.E.got],.agg #[.string q.E.k,.string q.E.v,.int .i64 q.E.s,.string q.E.r,.int .i64 q.E.m,.slice q.A q.E.fs.length q.c,.slice q.X q.E.body.length q.d,.int .i64 q.E.asked,.int .i64 q.E.got],.slice A z c,.int .i64 z,.tuple #[.slice A5 n5 c5,.bool ok],.slice A5 n5 c5,.bool ok,_,_,_,_,_,_,_,_],[]⟩ _)
  ·intro u hu
   go_simp
  refine HT.take 13 (.slice A5 n5 c5) rfl (by kernel_rfl) (fun _ _ _ h=>h) (Or.inl ⟨by rfl,?_⟩) (?_:HT _ _ _ _ _ _ _ ⟨#[_,_,_,_,_,_,_,_,_,.slice A5 n5 c5,_,_,_,_,_,_,_,_,_,.tuple #[.slice A5 n5 c5,.bool ok],.pointer (some ⟨Z.c,0,none⟩),.pointer (some ⟨Z.c,0,none⟩),.pointer (some ⟨Z.c,1,none⟩),.pointer (some ⟨Z.t,0,none⟩),.string id,.agg #[.string p.E.k,.string p.E.v,.int .i64 p.E.s,.string p.E.r,.int .i64 p.E.m,.slice p.A p.E.fs.length p.c,.slice p.X p.E.body.length p.d,.int .i64 p.E.asked,.int .i64 p.E.got],.agg #[.string q.E.k,.string q.E.v,.int .i64 q.E.s,.string q.E.r,.int .i64 q.E.m,.slice q.A q.E.fs.length q.c,.slice q.X q.E.body.length q.d,.int .i64 q.E.asked,.int .i64 q.E.got],.slice A z c,.int .i64 z,.tuple #[.slice A5 n5 c5,.bool ok],.slice A5 n5 c5,.bool ok,_,_,_,_,_,_,_,_],[]⟩ _)
  ·intro u hu
   go_simp
  refine HT.tail _ rfl rfl (by kernel_rfl) (fun hS=>?_)
  clear hS hS0
  rcases HOK5.out with ⟨rfl,rfl⟩ | ⟨rfl,hlt⟩
  ·have HCD:=Lib.hid (lrDrop_any B Z.t Z.m room a.l id w5 HCA.out.mem hs)
   obtain⟨y0,y1,y2⟩:=HCA.out.cells
   clear HOK5
   go_wp2
   refine NoPanic.normal ?_
   go_wp2_with fail
   refine HCD.out.mono ?_
   rintro e w6 ⟨l6,b6,rfl,h6,hw6,hp6⟩
   obtain⟨q1,q2⟩:=HCA.out.turned h6 hw6 (fun x hx=>.inl (mem_less h6.one (fun y=>by
    rw[hp6]
    by_cases hy:y=id
    ·rw[if_pos hy];exact .inl rfl
    ·rw[if_neg hy];exact .inr rfl) hx))
   have hlay:LayTo w a.l l6 id p.E:=⟨fun x=>by
    rw[hp6]
    by_cases hx:x=id
    ·rw[if_pos hx];exact .inl rfl
    ·rw[if_neg hx];exact .inr (.inl ⟨hx,rfl⟩),fun x hx=>.inl (mem_less h6.one (fun y=>by
    rw[hp6]
    by_cases hy:y=id
    ·rw[if_pos hy];exact .inl rfl
    ·rw[if_neg hy];exact .inr rfl) hx)⟩
   have HQ1:=Lib.hid q1
   have HQ2:=Lib.hid (HWA.out.trans q2)
   have HLA:=Lib.hid hlay
   clear h6 hw6 hp6 q1 q2 hlay HCD HCA HWA y0 y1 y2
   go_wp2
   go_ret
   exact .inr ⟨HC.out,rfl,l6,HQ1.out,HQ2.out,HLA.out⟩
  ·have HLA:=Lib.hid hlt
   clear hlt HOK5
   go_wp2
   refine NoPanic.normal ?_
   go_wp2
   go_ret
   exact .inr ⟨HC.out,rfl,l5,HCA.out,HWA.out,by rw[← HQE.out];exact⟨HLA.out,HNW.out⟩⟩
end Go.Proofs.YthjeglnkgdpijaaGreatDoor
