/- The walk of cache's lay. A disk without faults: what is safe of its files, what they take of the room, what a loss of power leaves of it, and a disk that holds given files. Conditions: as each theorem states them. -/
import Derived.Test.YthjeglnkgdpijaaGreatDoorZ05
set_option maxHeartbeats 4000000
set_option maxRecDepth 100000
namespace Go.Proofs.YthjeglnkgdpijaaGreatDoor
open Go Go.RowKit Go.Maps
theorem aI9 (k v:ByteArray) (s:Int) (r:ByteArray) (m:Int) (fs:List FD) (body:List UInt8) (asked got:Int):(rQ k v s r m fs body asked got).length≤400000:=by
 unfold rQ
 split
 ·rename_i h
  have hok:=(of_decide_eq_true h).2
  obtain⟨h1,h2,h3,_⟩:=gQ hok
  have hd:∀ i,(aLJ k v (F.eQ s r m fs) body asked got i).length≤65536:=by
   intro i
   match i with
   | 0=>show (L k).length≤_;rw[← aS];omega
   | 1=>show (L v).length≤_;rw[← aS];omega
   | 2=>show (F.eQ s r m fs).length≤_;have:=aBF s r m fs;omega
   | 3=>show body.length≤_;omega
   | 4=>show (beN asked.toNat 8++beN got.toNat 8).length≤_;rw[bC,aP,aP];decide
   | n+5=>exact zF _
  have:=zH _ hd 5
  unfold aOI
  rw[bC,aP]
  omega
 ·exact zF _
theorem aNE {E:O.Ent} (h:S.gU E=0):1≤(S.gY E).length∧(S.gY E).length≤400000:=by
 refine⟨?_,aI9 _ _ _ _ _ _ _ _ _⟩
 rcases O.nK E.k E.v E.s E.r E.m E.fs E.body E.asked E.got with ⟨_,h2⟩ | ⟨h2,_⟩
 ·unfold S.gY
  cases hb:rQ E.k E.v E.s E.r E.m E.fs E.body E.asked E.got with
  | cons x r=>exact Nat.succ_le_succ (zF _)
  | nil =>
   rw[hb]at h2
   have h3:O.dec []=none:=by decide +kernel
   rw[h3]at h2
   cases h2
 ·exact absurd (show S.gU E=120 from h2) (by omega)
theorem iE {l l':List It} (hn:(Lr.ids l').Nodup) (hp:aF6 l l') {x:It} (hx:x∈l'):x∈l:=by
 obtain⟨j,hj,rfl⟩:=List.getElem_of_mem hx
 have h1:=Lr.aI5 hn hj
 rcases hp (l'[j]).id with h2 | h2
 ·rw[h1]at h2;cases h2
 ·rw[h1]at h2
  exact List.mem_of_find?_eq_some h2.symm
def aQX (w:World) (l l':List It):Prop:=∀ x∈l',x∈l∨∀ k,ownB x.p.A x.p.c=some k∨ownB x.p.X x.p.d=some k→w.heap.size≤k
def pV (w:World) (l l':List It) (id:ByteArray) (E:O.Ent):Prop:=(∀ x,Lr.peek l' x=none∨(x≠id∧Lr.peek l' x=Lr.peek l x)∨(x=id∧∃ y,Lr.peek l' x=some y∧y.p.E=E))∧aQX w l l'
def aQT (B room:Nat) (Z:CM) (a:CSt) (id:ByteArray) (E:O.Ent) (w:World) (e:Ending) (w':World):Prop :=
 (S.gU E≠0∧e=.returned (.int .i64 (S.gU E))∧Below w.heap.size w w') ∨
 (S.gU E=0∧e=.returned (.int .i64 0)∧∃ l',CAt B room Z { a with l:=l' } w'∧aO (Z.foot a) w (Z.foot { a with l:=l' }) w'∧pV w a.l l' id E)
theorem aJR (B room b:Nat) (Z:CM) (a:CSt) (id:ByteArray) (p:EP) (w:World) (h:CAt B room Z a w) (hp:gZ w b p) (hs:id.size≤1073741824) (hr:p.E.r.size≤1073741824) (hb:F.bulk p.E.fs≤1073741824) (hl:p.E.fs.length≤1099511627776∧p.E.body.length≤1099511627776) (ht:iY w) (hB:B≤w.heap.size) :
  Calls Tryz.prog 34 #[.pointer (some ⟨Z.c,0,none⟩),.string id,p.v] w (aQT B room Z a id p.E w):=by
 obtain⟨w0,hw0⟩:∃ w0,w.alloc (.cells #[.string p.E.k,.string p.E.v,.int .i64 p.E.s,.string p.E.r,.int .i64 p.E.m,.slice p.A p.E.fs.length p.c,.slice p.X p.E.body.length p.d,.int .i64 p.E.asked,.int .i64 p.E.got] 41)=w0:=⟨_,rfl⟩
 have hb0:Below w.heap.size w w0:=by rw[← hw0];exact (zB _ _).alloc (zA _) _
 have hk0:Blk w0 w.heap.size #[.string p.E.k,.string p.E.v,.int .i64 p.E.s,.string p.E.r,.int .i64 p.E.m,.slice p.A p.E.fs.length p.c,.slice p.X p.E.body.length p.d,.int .i64 p.E.asked,.int .i64 p.E.got] 41:=by rw[← hw0];exact Blk.new w _ _
 have hp0:=hp.below hb0
 have HEN:=aH (jL p.E.k p.E.v p.E.s p.E.r p.E.m p.A p.c p.E.fs p.X p.d p.E.body p.E.asked p.E.got w0 hr hb hp0.1.rd hp0.2.rd (ht.below hb0))
 rw[show xO p.E.k p.E.v p.E.s p.E.r p.E.m p.E.fs p.E.body.length p.E.asked p.E.got=S.gU p.E from rfl,show rQ p.E.k p.E.v p.E.s p.E.r p.E.m p.E.fs p.E.body p.E.asked p.E.got=S.gY p.E from rfl]at HEN
 obtain⟨x0,x1,x2,x3,x4,x5,x6,x7,x8⟩:=hk0.cells9
 have HB0:=aH hb0
 have HK0:=aH hk0
 have H0:=aH (h.below hb0)
 have HP0:=aH hp0
 have HEP:=aH (fun (hc:S.gU p.E=0)=>aNE hc)
 clear hb0 hk0 h hp hp0 hr hb ht
 unfold EP.v lW
 go_enter Tryz.func34,Tryz.ntmps34
 go_wp2_with fail
 clear x0 x1 x2 x3 x4 x5 x6 x7 x8 hw0
 refine HEN.out.mono ?_
 rintro e w1 ⟨A,c,rfl,hr1,hb1⟩
 clear HEN hr1
 have HB1:=aH (aA HB0.out.size HB0.out hb1)
 have HZ1:=aH (bD HB0.out.size hb1.size)
 have H1:=aH (H0.out.below hb1)
 have HK1:=aH (HK0.out.below hb1)
 have HP1:=aH (HP0.out.below hb1)
 clear hb1 H0 HK0 HP0 HB0
 by_cases hc:S.gU p.E=0
 rotate_left
 ·have hci:¬ ((S.gU p.E:Int)=0):=hc
  have HC:=aH hc
  clear hc
  go_wp2
  go_ret
  exact .inl ⟨HC.out,rfl,HB1.out⟩
 ·have HC:=aH hc
  have HZ:=aH (HEP.out hc)
  rw[hc]
  clear hc HEP
  obtain⟨z,hz⟩:∃ z,(S.gY p.E).length=z:=⟨_,rfl⟩
  rw[hz]at HZ ⊢
  have HCP:=aH (fun u (hu:Below w1.heap.size w1 u)=>yH p b u (HP1.out.below hu) hl.1 hl.2)
  go_upto_region 4 with fail
  have hb2:Below w1.heap.size w1 w1.drew:=(zB _ _).drew
  have hS0:w1.drew.cell? ⟨Z.c,1,none⟩=some (.pointer (some ⟨Z.t,0,none⟩))∧Blk w1.drew w.heap.size #[.string p.E.k,.string p.E.v,.int .i64 p.E.s,.string p.E.r,.int .i64 p.E.m,.slice p.A p.E.fs.length p.c,.slice p.X p.E.body.length p.d,.int .i64 p.E.asked,.int .i64 p.E.got] 41:=⟨(H1.out.below hb2).cells.2.1,HK1.out.below hb2⟩
  have HB2:=aH hb2
  clear hb2
  refine wp_region_noPanic ?_
  refine HT.begin (n:=14) (S:=(fun u=>u.cell? ⟨Z.c,1,none⟩=some (.pointer (some ⟨Z.t,0,none⟩))∧Blk u w.heap.size #[.string p.E.k,.string p.E.v,.int .i64 p.E.s,.string p.E.r,.int .i64 p.E.m,.slice p.A p.E.fs.length p.c,.slice p.X p.E.body.length p.d,.int .i64 p.E.asked,.int .i64 p.E.got] 41)) (by kernel_rfl) hS0 ?_
  generalize w1.drew=w2 at *
  refine HT.take 0 (.pointer (some ⟨Z.c,0,none⟩)) rfl (by kernel_rfl) (fun _ _ _ h=>h) (Or.inl ⟨by rfl,?_⟩) ?_
  ·intro u hu
   go_simp
  refine HT.take 1 (.pointer (some ⟨Z.c,0,none⟩)) rfl (by kernel_rfl) (fun _ _ _ h=>h) (Or.inl ⟨by rfl,?_⟩) ?_
  ·intro u hu
   go_simp
  refine HT.take 2 (.pointer (some ⟨Z.c,1,none⟩)) rfl (by kernel_rfl) (fun _ _ _ h=>h) (Or.inl ⟨by rfl,?_⟩) ?_
  ·intro u hu
   go_simp
  refine HT.take 3 (.pointer (some ⟨Z.t,0,none⟩)) rfl (by kernel_rfl) (fun _ _ _ h=>h) (Or.inl ⟨by rfl,?_⟩) ?_
  ·intro u hu
   have y1:=hu.1
   go_simp
  refine HT.take 4 (.string id) rfl (by kernel_rfl) (fun _ _ _ h=>h) (Or.inl ⟨by rfl,?_⟩) ?_
  ·intro u hu
   go_simp
  refine HT.take 5 (.agg #[.string p.E.k,.string p.E.v,.int .i64 p.E.s,.string p.E.r,.int .i64 p.E.m,.slice p.A p.E.fs.length p.c,.slice p.X p.E.body.length p.d,.int .i64 p.E.asked,.int .i64 p.E.got]) rfl (by kernel_rfl) (fun _ _ _ h=>h) (Or.inl ⟨by rfl,?_⟩) ?_
  ·intro u hu
   obtain⟨x0,x1,x2,x3,x4,x5,x6,x7,x8⟩:=hu.2.cells9
   go_simp
  refine HT.take 7 (.slice A z c) rfl (by kernel_rfl) (fun _ _ _ h=>h) (Or.inl ⟨by rfl,?_⟩) ?_
  ·intro u hu
   go_simp
  refine HT.take 8 (.int .i64 z) rfl (by kernel_rfl) (fun _ _ _ h=>h) (Or.inl ⟨by rfl,?_⟩) (?_:HT _ _ _ _ _ _ _ ⟨#[_,_,_,_,_,_,_,_,_,_,_,_,_,_,_,_,_,_,_,_,.pointer (some ⟨Z.c,0,none⟩),.pointer (some ⟨Z.c,0,none⟩),.pointer (some ⟨Z.c,1,none⟩),.pointer (some ⟨Z.t,0,none⟩),.string id,.agg #[.string p.E.k,.string p.E.v,.int .i64 p.E.s,.string p.E.r,.int .i64 p.E.m,.slice p.A p.E.fs.length p.c,.slice p.X p.E.body.length p.d,.int .i64 p.E.asked,.int .i64 p.E.got],_,.slice A z c,.int .i64 z,_,_,_,_,_,_,_,_,_,_,_],[]⟩ _)
  ·intro u hu
   go_simp
  refine HT.step 6 rfl (by kernel_rfl) (fun hS K hK=>?_)
  go_simp
  refine (HCP.out _ HB2.out).mono ?_
  rintro e w3 ⟨q,rfl,hqE,hqO,hb3⟩
  have hb3':=aA HB2.out.size HB2.out hb3
  have HB3:=aH hb3'
  have HQE:=aH hqE
  have HQZ:=aH (bD HZ1.out HB2.out.size)
  have HQG:=aH (fun k (hk:ownB q.A q.c=some k∨ownB q.X q.d=some k)=>(hk.elim (fun hk=>(hqO.1.lt k hk).1) (fun hk=>(hqO.2.lt k hk).1):w2.heap.size≤k))
  have HQO:=aH (hqO.mono (bD hB HQZ.out))
  have HB23:=aH HB2.out.size
  refine hK.out _ _ ⟨(H1.out.below hb3').cells.2.1,HK1.out.below hb3'⟩ ?_
  clear hK hS hb3 hb3' hqE hqO HCP HB2
  refine HT.step 9 rfl (by kernel_rfl) (fun hS K hK=>?_)
  go_simp
  refine (aJJ B Z.t Z.m room a.l id q z w3 (H1.out.below HB3.out).mem HQO.out hs HZ.out.1 (by have:=HZ.out.2;omega) (by rw[HQE.out];exact hl) (by have:=HB3.out.size;have:=HZ1.out;omega)).mono ?_
  rintro e w5 hret
  obtain⟨A5,n5,c5,ok,l5,rfl,h5,hw5,hmem5,hok5⟩:∃ A5 n5 c5 ok l5,e=.returned (.tuple #[.slice A5 n5 c5,.bool ok])∧fU B Z.t Z.m room l5 w5∧aO (LrF Z.t Z.m a.l) w3 (LrF Z.t Z.m l5) w5∧(∀ x∈l5,x∈a.l∨x.p=q)∧((ok=false∧l5=a.l)∨(ok=true∧∀ x,Lr.peek l5 x=none∨(x≠id∧Lr.peek l5 x=Lr.peek a.l x)∨(x=id∧∃ y,Lr.peek l5 x=some y∧y.p.E=q.E))):=by
   rcases hret with ⟨_,rfl,h6,h7⟩ | ⟨_,A5,n5,c5,k5,l1,rfl,h6,h7,h8,h9⟩
   ·exact⟨none,0,0,false,a.l,rfl,h6,aO.below h7 _,fun x hx=>.inl hx,.inl ⟨rfl,rfl⟩⟩
   ·refine⟨A5,n5,c5,true,_,rfl,h6,h7,fun x hx=>?_,.inr ⟨rfl,fun x=>?_⟩⟩
    ·rcases List.mem_cons.1 hx with rfl | hx
     ·exact .inr rfl
     ·have hn:=h6.one
      unfold Lr.ids at hn
      rw[List.map_cons,List.nodup_cons]at hn
      exact .inl (iE hn.2 h8 hx)
    ·by_cases hx:x=id
     ·exact .inr (.inr ⟨hx,⟨id,q,z,k5⟩,by rw[hx];unfold Lr.peek;rw[List.find?_cons,decide_eq_true rfl],rfl⟩)
     ·have hpe:Lr.peek (⟨id,q,z,k5⟩::l1) x=Lr.peek l1 x:=by unfold Lr.peek;rw[List.find?_cons,decide_eq_false (fun e=>hx e.symm)]
      rw[hpe]
      exact (h8 x).imp (fun h=>h) (fun h=>.inl ⟨hx,h⟩)
  have H3:=H1.out.below HB3.out
  obtain⟨hca,hwa⟩:=H3.turned h5 hw5 (fun x hx=>(hmem5 x hx).imp (fun h=>h) (fun h s hs k hk hf=>by
   rw[h]at hk
   have h1:=HQG.out k hk
   have h2:=(H1.out.sto s hs).lt hf
   have h3:=HB23.out
   omega))
  have HCA:=aH hca
  have HWA:=aH ((aO.below (aA HZ1.out HB1.out HB3.out) (Z.foot a)).trans hwa)
  have HOK5:=aH hok5
  have HNW:Hid (aQX w a.l l5):=aH (fun x hx=>(hmem5 x hx).imp (fun h=>h) (fun h k hk=>by
   rw[h]at hk
   exact bD HQZ.out (HQG.out k hk)))
  refine hK.out _ _ ⟨hca.cells.2.1,hw5.blk (HK1.out.below HB3.out) (H3.mem.off (HK1.out.below HB3.out).tag (by decide) (by decide))⟩ ?_
  clear hK hS hret h5 hw5 hmem5 hok5 hca hwa H3
  refine HT.take 10 (.tuple #[.slice A5 n5 c5,.bool ok]) rfl (by kernel_rfl) (fun _ _ _ h=>h) (Or.inl ⟨by rfl,?_⟩) ?_
  ·intro u hu
   go_simp
  refine HT.take 11 (.slice A5 n5 c5) rfl (by kernel_rfl) (fun _ _ _ h=>h) (Or.inl ⟨by rfl,?_⟩) ?_
  ·intro u hu
   go_simp
  refine HT.take 12 (.bool ok) rfl (by kernel_rfl) (fun _ _ _ h=>h) (Or.inl ⟨by rfl,?_⟩) ?_
  ·intro u hu
   go_simp
  refine HT.take 13 (.slice A5 n5 c5) rfl (by kernel_rfl) (fun _ _ _ h=>h) (Or.inl ⟨by rfl,?_⟩) (?_:HT _ _ _ _ _ _ _ ⟨#[_,_,_,_,_,_,_,_,_,.slice A5 n5 c5,_,_,_,_,_,_,_,_,_,.tuple #[.slice A5 n5 c5,.bool ok],.pointer (some ⟨Z.c,0,none⟩),.pointer (some ⟨Z.c,0,none⟩),.pointer (some ⟨Z.c,1,none⟩),.pointer (some ⟨Z.t,0,none⟩),.string id,.agg #[.string p.E.k,.string p.E.v,.int .i64 p.E.s,.string p.E.r,.int .i64 p.E.m,.slice p.A p.E.fs.length p.c,.slice p.X p.E.body.length p.d,.int .i64 p.E.asked,.int .i64 p.E.got],.agg #[.string q.E.k,.string q.E.v,.int .i64 q.E.s,.string q.E.r,.int .i64 q.E.m,.slice q.A q.E.fs.length q.c,.slice q.X q.E.body.length q.d,.int .i64 q.E.asked,.int .i64 q.E.got],.slice A z c,.int .i64 z,.tuple #[.slice A5 n5 c5,.bool ok],.slice A5 n5 c5,.bool ok,_,_,_,_,_,_,_,_],[]⟩ _)
  ·intro u hu
   go_simp
  refine HT.tail _ rfl rfl (by kernel_rfl) (fun hS=>?_)
  clear hS hS0
  rcases HOK5.out with ⟨rfl,rfl⟩ | ⟨rfl,hlt⟩
  ·have HCD:=aH (oO B Z.t Z.m room a.l id w5 HCA.out.mem hs)
   obtain⟨y0,y1,y2⟩:=HCA.out.cells
   clear HOK5
   go_wp2
   refine NoPanic.normal ?_
   go_wp2_with fail
   refine HCD.out.mono ?_
   rintro e w6 ⟨l6,b6,rfl,h6,hw6,hp6⟩
   obtain⟨q1,q2⟩:=HCA.out.turned h6 hw6 (fun x hx=>.inl (iE h6.one (fun y=>by
    rw[hp6]
    by_cases hy:y=id
    ·rw[if_pos hy];exact .inl rfl
    ·rw[if_neg hy];exact .inr rfl) hx))
   have hlay:pV w a.l l6 id p.E:=⟨fun x=>by
    rw[hp6]
    by_cases hx:x=id
    ·rw[if_pos hx];exact .inl rfl
    ·rw[if_neg hx];exact .inr (.inl ⟨hx,rfl⟩),fun x hx=>.inl (iE h6.one (fun y=>by
    rw[hp6]
    by_cases hy:y=id
    ·rw[if_pos hy];exact .inl rfl
    ·rw[if_neg hy];exact .inr rfl) hx)⟩
   have HQ1:=aH q1
   have HQ2:=aH (HWA.out.trans q2)
   have HLA:=aH hlay
   clear h6 hw6 hp6 q1 q2 hlay HCD HCA HWA y0 y1 y2
   go_wp2
   go_ret
   exact .inr ⟨HC.out,rfl,l6,HQ1.out,HQ2.out,HLA.out⟩
  ·have HLA:=aH hlt
   clear hlt HOK5
   go_wp2
   refine NoPanic.normal ?_
   go_wp2
   go_ret
   exact .inr ⟨HC.out,rfl,l5,HCA.out,HWA.out,by rw[← HQE.out];exact⟨HLA.out,HNW.out⟩⟩
end Go.Proofs.YthjeglnkgdpijaaGreatDoor
namespace Go.Proofs.YthjeglnkgdpijaaGreatDoor
namespace D
def Hard (ex:Option ByteArray) (d:Dsk):Prop:=∀ p∈d.now,ex=some p.1∨d.firm.getD p.2 0=d.size p.2
structure Cl (ex:Option ByteArray) (u:Nat) (d:Dsk):Prop where
 calm:Clm d
 hard:Hard ex d
 used:d.used≤u
 room:d.room=1073741824
section
variable {d:Dsk} {nm:ByteArray} {c:List UInt8} {ex:Option ByteArray} {u:Nat}
theorem Clm.tight (h:Clm d) (r:Nat) (hr:d.used≤r):Clm { d with room:=r } :=
 ⟨h.power,h.fails,⟨h.ok.lens,h.ok.upN,h.ok.upS,h.ok.inN,h.ok.inS,h.ok.inP,h.ok.fold,h.ok.firms⟩,h.one,Int.ofNat_le.2 hr⟩
theorem Clm.create_eq (h:Clm d) (hg:good nm=true) (hn:cont d nm=none):d.create nm=(({ D.tick d with data:=d.data++[[]],firm:=d.firm++[0] }:Dsk).alter (.put nm d.data.length),0):=by
 unfold Dsk.create
 rw[h.begin (kL hg)]
 show (if (0:Int)≠0 then _ else if (find d.now nm).isSome then _ else _)=_
 rw[if_neg (by decide),aCI hn]
 rfl
theorem Clm.append_eq (h:Clm d) (hg:good nm=true) {no:Nat} (hf:find d.now nm=some no) (b:List UInt8) (hr:(d.used:Int)+b.length≤d.room):d.append nm b=({ D.tick d with data:=d.data.set no (d.data.getD no []++b) },0):=by
 have hne:¬ (0 < b.length∧d.room < (d.used:Int)+b.length):=fun h2=>by omega
 exact (h.on (more:=[]) (kL hg) _ hf).trans (if_neg hne)
theorem Clm.sync_eq (h:Clm d) (hg:good nm=true) {no:Nat} (hf:find d.now nm=some no):d.sync nm=({ D.tick d with firm:=d.firm.set no (d.size no) },0):=h.on (more:=[]) (kL hg) _ hf
theorem Clm.syncNames_eq (h:Clm d):d.syncNames=({ D.tick d with safe:=d.now,pend:=[] },0):=by
 unfold Dsk.syncNames
 rw[h.begin (ns:=[]) rfl]
 rfl
theorem Clm.remove_eq (h:Clm d) (hg:good nm=true) {no:Nat} (hf:find d.now nm=some no):d.remove nm=((D.tick d).alter (.del nm),0):=h.on (more:=[]) (kL hg) _ hf
theorem Clm.rename_eq (h:Clm d) {to_:ByteArray} (hg:good nm=true) (hg2:good to_=true) (hne:nm≠to_) {no:Nat} (hf:find d.now nm=some no):d.rename nm to_=((D.tick d).alter (.ren nm to_ no),0):=by
 refine (h.on (more:=[to_]) (by simp [hg,hg2]) _ hf).trans ?_
 rw[if_neg hne]
theorem Cl.create (h:Cl ex u d) (hg:good nm=true) (hn:cont d nm=none):(d.create nm).2=0∧Cl ex u (d.create nm).1∧∀ x,cont (d.create nm).1 x=if x=nm then some [] else cont d x:=by
 obtain⟨e1,c1,k1⟩:=h.calm.create hg hn
 refine⟨e1,⟨c1,?_,?_,?_⟩,k1⟩
 ·rw[h.calm.create_eq hg hn]
  intro p hp
  rcases aX.1 hp with rfl | ⟨hp,_⟩
  ·right
   show (d.firm++[0]).getD d.data.length 0=((d.data++[([]:List UInt8)]).getD d.data.length []).length
   rw[← h.calm.ok.lens]
   simp [List.getD,h.calm.ok.lens]
  ·have hi:=h.calm.ok.inN p hp
   have hi2:p.2 < d.firm.length:=by rw[h.calm.ok.lens];exact hi
   have e1:(d.firm++[(0:Nat)]).getD p.2 0=d.firm.getD p.2 0:=by simp [List.getD,List.getElem?_append_left hi2]
   have e2:(d.data++[([]:List UInt8)]).getD p.2 []=d.data.getD p.2 []:=by simp [List.getD,List.getElem?_append_left hi]
   show _∨(d.firm++[(0:Nat)]).getD p.2 0=((d.data++[([]:List UInt8)]).getD p.2 []).length
   rw[e1,e2]
   exact h.hard p hp
 ·have ht:=h.calm.tight d.used (zA _)
  have:=(ht.create hg (show cont _ nm=none from hn)).2.1.room
  rw[ht.create_eq hg hn]at this
  rw[h.calm.create_eq hg hn]
  exact bD (Int.ofNat_le.1 this) h.used
 ·rw[h.calm.create_eq hg hn]
  exact h.room
theorem Cl.append (h:Cl none u d) (hg:good nm=true) (hc:cont d nm=some c) (b:List UInt8) (hr:u+b.length≤1073741824) :
  (d.append nm b).2=0∧Cl (some nm) (u+b.length) (d.append nm b).1∧∀ x,cont (d.append nm b).1 x=if x=nm then some (c++b) else cont d x:=by
 obtain⟨no,hf,hd⟩:=dV hc
 have hu:=h.used
 have hroom:=h.room
 have e:=h.calm.append_eq hg hf b (by omega)
 rcases h.calm.append hg hc b with ⟨e1,_,_⟩ | ⟨e1,c1,k1⟩
 ·rw[e]at e1
  exact absurd e1 (by show ¬ (0:Int)=92;decide)
 refine⟨e1,⟨c1,?_,?_,?_⟩,k1⟩
 ·rw[e]
  intro p hp
  by_cases hx:p.1=nm
  ·left;rw[hx]
  ·right
   have hne:no≠p.2:=fun e=>hx (congrArg Prod.fst (h.calm.one _ (aI hf) p hp e)).symm
   show d.firm.getD p.2 0=((d.data.set no (d.data.getD no []++b)).getD p.2 []).length
   rw[show (d.data.set no (d.data.getD no []++b)).getD p.2 []=d.data.getD p.2 [] by simp [List.getD,List.getElem?_set_ne hne]]
   rcases h.hard p hp with h1 | h1
   ·cases h1
   ·exact h1
 ·have ht:=h.calm.tight (d.used+b.length) (Nat.le_add_right _ _)
  have e2:=ht.append_eq hg hf b (show (d.used:Int)+b.length≤((d.used+b.length:Nat):Int) by omega)
  rcases ht.append hg (show cont _ nm=some c from hc) b with ⟨e3,_,_⟩ | ⟨_,c3,_⟩
  ·rw[e2]at e3
   exact absurd e3 (by show ¬ (0:Int)=92;decide)
  ·have:=c3.room
   rw[e2]at this
   rw[e]
   have:=Int.ofNat_le.1 this
   exact bD this (Nat.add_le_add_right hu _)
 ·rw[e]
  exact hroom
theorem Cl.sync (h:Cl ex u d) (hg:good nm=true) (hc:cont d nm=some c) (hx:ex=none∨ex=some nm):(d.sync nm).2=0∧Cl none u (d.sync nm).1∧∀ x,cont (d.sync nm).1 x=cont d x:=by
 obtain⟨no,hf,hd⟩:=dV hc
 obtain⟨e1,c1,k1⟩:=h.calm.sync hg hc
 have e:=h.calm.sync_eq hg hf
 refine⟨e1,⟨c1,?_,?_,?_⟩,k1⟩
 ·rw[e]
  intro p hp
  right
  show (d.firm.set no (d.size no)).getD p.2 0=d.size p.2
  have hi:no < d.firm.length:=by rw[h.calm.ok.lens];exact h.calm.ok.inN _ (aI hf)
  by_cases hpn:no=p.2
  ·rw[← hpn]
   simp [List.getD,hi]
  ·rw[show (d.firm.set no (d.size no)).getD p.2 0=d.firm.getD p.2 0 by simp [List.getD,List.getElem?_set_ne hpn]]
   rcases h.hard p hp with h1 | h1
   ·rcases hx with hx | hx
    ·rw[hx]at h1;cases h1
    ·rw[hx]at h1
     have h2:nm=p.1:=Option.some.inj h1
     have h3:=dM h.calm.ok.upN hp
     rw[← h2,hf]at h3
     exact absurd (Option.some.inj h3) hpn
   ·exact h1
 ·rw[e];exact h.used
 ·rw[e];exact h.room
theorem Cl.syncNames (h:Cl ex u d):d.syncNames.2=0∧Cl ex u d.syncNames.1∧∀ x,cont d.syncNames.1 x=cont d x:=by
 obtain⟨e1,c1,k1⟩:=h.calm.syncNames
 refine⟨e1,⟨c1,?_,?_,?_⟩,k1⟩
 ·rw[h.calm.syncNames_eq];exact h.hard
 ·rw[h.calm.syncNames_eq];exact h.used
 ·rw[h.calm.syncNames_eq];exact h.room
theorem Cl.remove (h:Cl ex u d) (hg:good nm=true) (hc:cont d nm=some c):(d.remove nm).2=0∧Cl ex u (d.remove nm).1∧∀ x,cont (d.remove nm).1 x=if x=nm then none else cont d x:=by
 obtain⟨no,hf,hd⟩:=dV hc
 obtain⟨e1,c1,k1⟩:=h.calm.remove hg hc
 have e:=h.calm.remove_eq hg hf
 refine⟨e1,⟨c1,?_,?_,?_⟩,k1⟩
 ·rw[e]
  exact fun p hp=>h.hard p (aW.1 hp).1
 ·have:=sN (fun p=>d.size p.2) nm d.now
  rw[e]
  exact bD this h.used
 ·rw[e];exact h.room
theorem Cl.rename (h:Cl none u d) {to_:ByteArray} (hg:good nm=true) (hg2:good to_=true) (hne:nm≠to_) (hc:cont d nm=some c):(d.rename nm to_).2=0∧Cl none u (d.rename nm to_).1∧∀ x,cont (d.rename nm to_).1 x=if x=to_ then some c else if x=nm then none else cont d x:=by
 obtain⟨no,hf,hd⟩:=dV hc
 obtain⟨e1,c1,k1⟩:=h.calm.rename hg hg2 hne hc
 have e:=h.calm.rename_eq hg hg2 hne hf
 refine⟨e1,⟨c1,?_,?_,?_⟩,k1⟩
 ·rw[e]
  intro p hp
  rcases aX.1 hp with rfl | ⟨hp,_⟩
  ·rcases h.hard _ (aI hf) with h1 | h1
   ·cases h1
   ·exact .inr h1
  ·exact h.hard p (aW.1 hp).1
 ·have ht:=h.calm.tight d.used (zA _)
  have:=(ht.rename hg hg2 hne (show cont _ nm=some c from hc)).2.1.room
  rw[ht.rename_eq hg hg2 hne hf]at this
  rw[e]
  exact bD (Int.ofNat_le.1 this) h.used
 ·rw[e];exact h.room
theorem Cl.mono {v:Nat} (h:Cl ex u d) (hv:u≤v):Cl ex v d:=⟨h.calm,h.hard,bD h.used hv,h.room⟩
end
def aG0:Nat→List ByteArray→NM
 | _,[]=>[]
 | k,x::r=>(x,k)::aG0 (k+1) r
def uD (fs:List (ByteArray × List UInt8)) (room:Int) (fails:List Int) (power:Int):Dsk :=
 ⟨aG0 0 (fs.map (·.1)),aG0 0 (fs.map (·.1)),[],fs.map (·.2),fs.map (·.2.length),room,fails,power,0⟩
theorem nC:∀ {l:List ByteArray} {k:Nat} {p:ByteArray × Nat},p∈aG0 k l→p.1∈l∧k≤p.2∧p.2 < k+l.length
 | [],_,_,h=>by cases h
 | x::r,k,p,h=>by
  rcases List.mem_cons.1 h with rfl | h
  ·exact⟨by simp,zA _,by simp only[List.length_cons];omega⟩
  ·obtain⟨h1,h2,h3⟩:=nC h
   exact⟨List.mem_cons_of_mem _ h1,by omega,by simp only[List.length_cons];omega⟩
theorem aJA:∀ {l:List ByteArray} {k:Nat},l.Pairwise (fun a b=>ltB a b=true)→Up (aG0 k l)
 | [],_,_=>List.Pairwise.nil
 | x::r,k,h=>by
  obtain⟨h1,h2⟩:=List.pairwise_cons.1 h
  exact List.pairwise_cons.2 ⟨fun p hp=>h1 _ (nC hp).1,aJA h2⟩
theorem aFE:∀ {l:List ByteArray} {k:Nat},∀ p∈aG0 k l,∀ q∈aG0 k l,p.2=q.2→p=q
 | [],_,p,hp,_,_,_=>by cases hp
 | x::r,k,p,hp,q,hq,e=>by
  rcases List.mem_cons.1 hp with rfl | hp
  ·rcases List.mem_cons.1 hq with rfl | hq
   ·rfl
   ·have:=(nC hq).2.1
    change k=q.2 at e
    omega
  ·rcases List.mem_cons.1 hq with rfl | hq
   ·have:=(nC hp).2.1
    change p.2=k at e
    omega
   ·exact aFE p hp q hq e
theorem aBT (x:ByteArray):∀ (l:List (ByteArray × List UInt8)) (pre:List (List UInt8)),(find (aG0 pre.length (l.map (·.1))) x).map (fun no=>(pre++l.map (·.2)).getD no [])=(l.find? fun p=>decide (p.1=x)).map (·.2)
 | [],_=>rfl
 | p::r,pre=>by
  unfold find
  rw[List.map_cons,List.map_cons,aG0,List.find?_cons,List.find?_cons]
  cases h:decide (p.1=x) with
  | true=>simp [List.getD]
  | false =>
   have ih:=aBT x r (pre++[p.2])
   unfold find at ih
   rw[bC,List.length_singleton,List.append_assoc,List.singleton_append]at ih
   exact ih
theorem aFD:∀ (l:List (ByteArray × List UInt8)) (pre:List (List UInt8)),((aG0 pre.length (l.map (·.1))).map fun p=>((pre++l.map (·.2)).getD p.2 []).length).sum=(l.map (·.2.length)).sum
 | [],_=>rfl
 | p::r,pre=>by
  have ih:=aFD r (pre++[p.2])
  rw[bC,List.length_singleton,List.append_assoc,List.singleton_append]at ih
  rw[List.map_cons,List.map_cons,aG0,List.map_cons,List.sum_cons,ih,List.map_cons,List.sum_cons]
  congr 1
  simp [List.getD]
theorem Cl.left {u:Nat} {d:Dsk} (h:Cl none u d) {k:Int} (hp:(d.pend.length:Int)≤k):d.left k []=d.now.map fun p=>(p.1,d.data.getD p.2 []):=by
 unfold Dsk.left
 have h1:d.namesLeft k=d.now:=by
  unfold Dsk.namesLeft
  rw[List.take_of_length_le (by omega),← h.calm.ok.fold]
 rw[h1]
 apply List.map_congr_left
 intro p hp
 have:d.keepN [] p.2=d.size p.2:=by
  unfold Dsk.keepN
  rcases h.hard p hp with h2 | h2
  ·cases h2
  ·rw[h2];simp
 rw[this]
 unfold Dsk.size
 rw[List.take_length]
theorem aMO (f:Nat→List UInt8) (x:ByteArray) (l:NM):((l.map fun p=>(p.1,f p.2)).find? fun p=>decide (p.1=x)).map (·.2)=(find l x).map f:=by
 unfold find
 induction l with
 | nil=>rfl
 | cons p r ih =>
  rw[List.map_cons,List.find?_cons,List.find?_cons]
  cases h:decide (p.1=x) with
  | true=>rfl
  | false=>exact ih
theorem Cl.again {u:Nat} {d:Dsk} (h:Cl none u d) (hu:u≤1073741824) {k:Int} (hp:(d.pend.length:Int)≤k):Cl none u (uD (d.left k []) 1073741824 [] (-1))∧∀ x,cont (uD (d.left k []) 1073741824 [] (-1)) x=cont d x:=by
 rw[h.left hp]
 have hn:((d.now.map fun p=>(p.1,d.data.getD p.2 [])).map (·.1))=d.now.map (·.1):=by rw[List.map_map];rfl
 have hc:∀ x,cont (uD (d.now.map fun p=>(p.1,d.data.getD p.2 [])) 1073741824 [] (-1)) x=cont d x:=fun x =>
  (aBT x (d.now.map fun p:ByteArray × Nat=>(p.1,d.data.getD p.2 [])) []).trans (aMO (fun no=>d.data.getD no []) x d.now)
 have hup:Up (aG0 0 ((d.now.map fun p=>(p.1,d.data.getD p.2 [])).map (·.1))):=by
  rw[hn]
  exact aJA (List.pairwise_map.2 h.calm.ok.upN)
 have hin:∀ p∈aG0 0 ((d.now.map fun p=>(p.1,d.data.getD p.2 [])).map (·.1)),p.2 < ((d.now.map fun p=>(p.1,d.data.getD p.2 [])).map (·.2)).length:=fun p hp=>by
  have:=(nC hp).2.2
  simp only[List.length_map]at this ⊢
  omega
 have hfs:∀ no,no < ((d.now.map fun p=>(p.1,d.data.getD p.2 [])).map (·.2)).length→((d.now.map fun p=>(p.1,d.data.getD p.2 [])).map (·.2.length)).getD no 0=(((d.now.map fun p=>(p.1,d.data.getD p.2 [])).map (·.2)).getD no []).length:=fun no hno=>by
  simp only[List.length_map]at hno
  simp [List.getD,hno]
 have hus:(uD (d.now.map fun p=>(p.1,d.data.getD p.2 [])) 1073741824 [] (-1)).used=d.used:=by
  refine (aFD (d.now.map fun p:ByteArray × Nat=>(p.1,d.data.getD p.2 [])) []).trans ?_
  rw[List.map_map]
  rfl
 refine⟨⟨⟨rfl,rfl,⟨by simp [uD],hup,hup,hin,hin,(fun _ h=>by cases h),rfl,fun no hno=>Nat.le_of_eq (hfs no hno)⟩,aFE,?_⟩,fun p hp=>.inr (hfs p.2 (hin p hp)),by rw[hus];exact h.used,rfl⟩,hc⟩
 have:=h.used
 rw[hus]
 show (d.used:Int)≤1073741824
 omega
end D
end Go.Proofs.YthjeglnkgdpijaaGreatDoor
