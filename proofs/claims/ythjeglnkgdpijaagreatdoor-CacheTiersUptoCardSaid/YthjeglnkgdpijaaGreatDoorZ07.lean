/- The walk of cache's lay. The walk of disk.New without files, with faults: a disk of no file. The walk of vary.Matches. Conditions: as each theorem states them. -/
import Derived.Test.YthjeglnkgdpijaaGreatDoorZ06
set_option maxHeartbeats 4000000
set_option maxRecDepth 100000
namespace Go.Proofs.YthjeglnkgdpijaaGreatDoor
open Go Go.RowKit Go.Maps
theorem aIC (k v:ByteArray) (s:Int) (r:ByteArray) (m:Int) (fs:List FD) (body:List UInt8) (asked got:Int):(sW k v s r m fs body asked got).length≤400000:=by
 unfold sW
 split
 ·rename_i h
  have hok:=(of_decide_eq_true h).2
  obtain⟨h1,h2,h3,_⟩:=fU hok
  have hd:∀ i,(aKI k v (F.dS s r m fs) body asked got i).length≤65536:=by
   intro i
   match i with
   | 0=>show (L k).length≤_;rw[← aQ];omega
   | 1=>show (L v).length≤_;rw[← aQ];omega
   | 2=>show (F.dS s r m fs).length≤_;have:=aAV s r m fs;omega
   | 3=>show body.length≤_;omega
   | 4=>show (beN asked.toNat 8++beN got.toNat 8).length≤_;rw[bC,aS,aS];decide
   | n+5=>exact zF _
  have:=yJ _ hd 5
  unfold aM9
  rw[bC,aS]
  omega
 ·exact zF _
theorem aMA {E:O.Ent} (h:S.iG E=0):1≤(S.gY E).length∧(S.gY E).length≤400000:=by
 refine⟨?_,aIC _ _ _ _ _ _ _ _ _⟩
 rcases O.qR E.k E.v E.s E.r E.m E.fs E.body E.asked E.got with ⟨_,h2⟩ | ⟨h2,_⟩
 ·unfold S.gY
  cases hb:sW E.k E.v E.s E.r E.m E.fs E.body E.asked E.got with
  | cons x r=>exact Nat.succ_le_succ (zF _)
  | nil =>
   rw[hb]at h2
   have h3:O.dec []=none:=by decide +kernel
   rw[h3]at h2
   cases h2
 ·exact absurd (show S.iG E=120 from h2) (by omega)
theorem gI {l l':List It} (hn:(Lr.ids l').Nodup) (hp:aFA l l') {x:It} (hx:x∈l'):x∈l:=by
 obtain⟨j,hj,rfl⟩:=List.getElem_of_mem hx
 have h1:=Lr.aH9 hn hj
 rcases hp (l'[j]).id with h2 | h2
 ·rw[h1]at h2;cases h2
 ·rw[h1]at h2
  exact List.mem_of_find?_eq_some h2.symm
def aPM (w:World) (l l':List It):Prop:=∀ x∈l',x∈l∨∀ k,ownB x.p.A x.p.c=some k∨ownB x.p.X x.p.d=some k→w.heap.size≤k
def zW (w:World) (l l':List It) (id:ByteArray) (E:O.Ent):Prop:=(∀ x,Lr.peek l' x=none∨(x≠id∧Lr.peek l' x=Lr.peek l x)∨(x=id∧∃ y,Lr.peek l' x=some y∧y.p.E=E))∧aPM w l l'
def aPI (B room:Nat) (Z:CM) (a:CSt) (id:ByteArray) (E:O.Ent) (w:World) (e:Ending) (w':World):Prop :=
 (S.iG E≠0∧e=.returned (.int .i64 (S.iG E))∧Below w.heap.size w w') ∨
 (S.iG E=0∧e=.returned (.int .i64 0)∧∃ l',CAt B room Z { a with l:=l' } w'∧aO (Z.foot a) w (Z.foot { a with l:=l' }) w'∧zW w a.l l' id E)
theorem aIT (B room b:Nat) (Z:CM) (a:CSt) (id:ByteArray) (p:EP) (w:World) (h:CAt B room Z a w) (hp:gB w b p) (hs:id.size≤1073741824) (hr:p.E.r.size≤1073741824) (hb:F.bulk p.E.fs≤1073741824) (hl:p.E.fs.length≤1099511627776∧p.E.body.length≤1099511627776) (ht:iJ w) (hB:B≤w.heap.size) :
  Calls Tryz.prog 34 #[.pointer (some ⟨Z.c,0,none⟩),.string id,p.v] w (aPI B room Z a id p.E w):=by
 obtain⟨w0,hw0⟩:∃ w0,w.alloc (.cells #[.string p.E.k,.string p.E.v,.int .i64 p.E.s,.string p.E.r,.int .i64 p.E.m,.slice p.A p.E.fs.length p.c,.slice p.X p.E.body.length p.d,.int .i64 p.E.asked,.int .i64 p.E.got] 41)=w0:=⟨_,rfl⟩
 have hb0:Below w.heap.size w w0:=by rw[← hw0];exact (zB _ _).alloc (zA _) _
 have hk0:Blk w0 w.heap.size #[.string p.E.k,.string p.E.v,.int .i64 p.E.s,.string p.E.r,.int .i64 p.E.m,.slice p.A p.E.fs.length p.c,.slice p.X p.E.body.length p.d,.int .i64 p.E.asked,.int .i64 p.E.got] 41:=by rw[← hw0];exact Blk.new w _ _
 have hp0:=hp.below hb0
 have HEN:=aH (iZ p.E.k p.E.v p.E.s p.E.r p.E.m p.A p.c p.E.fs p.X p.d p.E.body p.E.asked p.E.got w0 hr hb hp0.1.rd hp0.2.rd (ht.below hb0))
 rw[show yO p.E.k p.E.v p.E.s p.E.r p.E.m p.E.fs p.E.body.length p.E.asked p.E.got=S.iG p.E from rfl,show sW p.E.k p.E.v p.E.s p.E.r p.E.m p.E.fs p.E.body p.E.asked p.E.got=S.gY p.E from rfl]at HEN
 obtain⟨x0,x1,x2,x3,x4,x5,x6,x7,x8⟩:=hk0.cells9
 have HB0:=aH hb0
 have HK0:=aH hk0
 have H0:=aH (h.below hb0)
 have HP0:=aH hp0
 have HEP:=aH (fun (hc:S.iG p.E=0)=>aMA hc)
 clear hb0 hk0 h hp hp0 hr hb ht
 unfold EP.v kK
 go_enter Tryz.func34,Tryz.ntmps34
 go_wp2_with fail
 clear x0 x1 x2 x3 x4 x5 x6 x7 x8 hw0
 refine HEN.out.mono ?_
 rintro e w1 ⟨A,c,rfl,hr1,hb1⟩
 clear HEN hr1
 have HB1:=aH (aA HB0.out.size HB0.out hb1)
 have HZ1:=aH (bD HB0.out.size hb1.size)
 have H1:=aH (H0.out.below hb1)
 have HK1:=aH (HK0.out.below hb1)
 have HP1:=aH (HP0.out.below hb1)
 clear hb1 H0 HK0 HP0 HB0
 by_cases hc:S.iG p.E=0
 rotate_left
 ·have hci:¬ ((S.iG p.E:Int)=0):=hc
  have HC:=aH hc
  clear hc
  go_wp2
  go_ret
  exact .inl ⟨HC.out,rfl,HB1.out⟩
 ·have HC:=aH hc
  have HZ:=aH (HEP.out hc)
  rw[hc]
  clear hc HEP
  obtain⟨z,hz⟩:∃ z,(S.gY p.E).length=z:=⟨_,rfl⟩
  rw[hz]at HZ ⊢
  have HCP:=aH (fun u (hu:Below w1.heap.size w1 u)=>xH p b u (HP1.out.below hu) hl.1 hl.2)
  go_upto_region 4 with fail
  have hb2:Below w1.heap.size w1 w1.drew:=(zB _ _).drew
  have hS0:w1.drew.cell? ⟨Z.c,1,none⟩=some (.pointer (some ⟨Z.t,0,none⟩))∧Blk w1.drew w.heap.size #[.string p.E.k,.string p.E.v,.int .i64 p.E.s,.string p.E.r,.int .i64 p.E.m,.slice p.A p.E.fs.length p.c,.slice p.X p.E.body.length p.d,.int .i64 p.E.asked,.int .i64 p.E.got] 41:=⟨(H1.out.below hb2).cells.2.1,HK1.out.below hb2⟩
  have HB2:=aH hb2
  clear hb2
  refine wp_region_noPanic ?_
  refine HT.begin (n:=14) (S:=(fun u=>u.cell? ⟨Z.c,1,none⟩=some (.pointer (some ⟨Z.t,0,none⟩))∧Blk u w.heap.size #[.string p.E.k,.string p.E.v,.int .i64 p.E.s,.string p.E.r,.int .i64 p.E.m,.slice p.A p.E.fs.length p.c,.slice p.X p.E.body.length p.d,.int .i64 p.E.asked,.int .i64 p.E.got] 41)) (by kernel_rfl) hS0 ?_
  generalize w1.drew=w2 at *
  refine HT.take 0 (.pointer (some ⟨Z.c,0,none⟩)) rfl (by kernel_rfl) (fun _ _ _ h=>h) (Or.inl ⟨by rfl,?_⟩) ?_
  ·intro u hu
   go_simp
  refine HT.take 1 (.pointer (some ⟨Z.c,0,none⟩)) rfl (by kernel_rfl) (fun _ _ _ h=>h) (Or.inl ⟨by rfl,?_⟩) ?_
  ·intro u hu
   go_simp
  refine HT.take 2 (.pointer (some ⟨Z.c,1,none⟩)) rfl (by kernel_rfl) (fun _ _ _ h=>h) (Or.inl ⟨by rfl,?_⟩) ?_
  ·intro u hu
   go_simp
  refine HT.take 3 (.pointer (some ⟨Z.t,0,none⟩)) rfl (by kernel_rfl) (fun _ _ _ h=>h) (Or.inl ⟨by rfl,?_⟩) ?_
  ·intro u hu
   have y1:=hu.1
   go_simp
  refine HT.take 4 (.string id) rfl (by kernel_rfl) (fun _ _ _ h=>h) (Or.inl ⟨by rfl,?_⟩) ?_
  ·intro u hu
   go_simp
  refine HT.take 5 (.agg #[.string p.E.k,.string p.E.v,.int .i64 p.E.s,.string p.E.r,.int .i64 p.E.m,.slice p.A p.E.fs.length p.c,.slice p.X p.E.body.length p.d,.int .i64 p.E.asked,.int .i64 p.E.got]) rfl (by kernel_rfl) (fun _ _ _ h=>h) (Or.inl ⟨by rfl,?_⟩) ?_
  ·intro u hu
   obtain⟨x0,x1,x2,x3,x4,x5,x6,x7,x8⟩:=hu.2.cells9
   go_simp
  refine HT.take 7 (.slice A z c) rfl (by kernel_rfl) (fun _ _ _ h=>h) (Or.inl ⟨by rfl,?_⟩) ?_
  ·intro u hu
   go_simp
  refine HT.take 8 (.int .i64 z) rfl (by kernel_rfl) (fun _ _ _ h=>h) (Or.inl ⟨by rfl,?_⟩) (?_:HT _ _ _ _ _ _ _ ⟨#[_,_,_,_,_,_,_,_,_,_,_,_,_,_,_,_,_,_,_,_,.pointer (some ⟨Z.c,0,none⟩),.pointer (some ⟨Z.c,0,none⟩),.pointer (some ⟨Z.c,1,none⟩),.pointer (some ⟨Z.t,0,none⟩),.string id,.agg #[.string p.E.k,.string p.E.v,.int .i64 p.E.s,.string p.E.r,.int .i64 p.E.m,.slice p.A p.E.fs.length p.c,.slice p.X p.E.body.length p.d,.int .i64 p.E.asked,.int .i64 p.E.got],_,.slice A z c,.int .i64 z,_,_,_,_,_,_,_,_,_,_,_],[]⟩ _)
  ·intro u hu
   go_simp
  refine HT.step 6 rfl (by kernel_rfl) (fun hS K hK=>?_)
  go_simp
  refine (HCP.out _ HB2.out).mono ?_
  rintro e w3 ⟨q,rfl,hqE,hqO,hb3⟩
  have hb3':=aA HB2.out.size HB2.out hb3
  have HB3:=aH hb3'
  have HQE:=aH hqE
  have HQZ:=aH (bD HZ1.out HB2.out.size)
  have HQG:=aH (fun k (hk:ownB q.A q.c=some k∨ownB q.X q.d=some k)=>(hk.elim (fun hk=>(hqO.1.lt k hk).1) (fun hk=>(hqO.2.lt k hk).1):w2.heap.size≤k))
  have HQO:=aH (hqO.mono (bD hB HQZ.out))
  have HB23:=aH HB2.out.size
  refine hK.out _ _ ⟨(H1.out.below hb3').cells.2.1,HK1.out.below hb3'⟩ ?_
  clear hK hS hb3 hb3' hqE hqO HCP HB2
  refine HT.step 9 rfl (by kernel_rfl) (fun hS K hK=>?_)
  go_simp
  refine (aIL B Z.t Z.m room a.l id q z w3 (H1.out.below HB3.out).mem HQO.out hs HZ.out.1 (by have:=HZ.out.2;omega) (by rw[HQE.out];exact hl) (by have:=HB3.out.size;have:=HZ1.out;omega)).mono ?_
  rintro e w5 hret
  obtain⟨A5,n5,c5,ok,l5,rfl,h5,hw5,hmem5,hok5⟩:∃ A5 n5 c5 ok l5,e=.returned (.tuple #[.slice A5 n5 c5,.bool ok])∧fG B Z.t Z.m room l5 w5∧aO (LrF Z.t Z.m a.l) w3 (LrF Z.t Z.m l5) w5∧(∀ x∈l5,x∈a.l∨x.p=q)∧((ok=false∧l5=a.l)∨(ok=true∧∀ x,Lr.peek l5 x=none∨(x≠id∧Lr.peek l5 x=Lr.peek a.l x)∨(x=id∧∃ y,Lr.peek l5 x=some y∧y.p.E=q.E))):=by
   rcases hret with ⟨_,rfl,h6,h7⟩ | ⟨_,A5,n5,c5,k5,l1,rfl,h6,h7,h8,h9⟩
   ·exact⟨none,0,0,false,a.l,rfl,h6,aO.below h7 _,fun x hx=>.inl hx,.inl ⟨rfl,rfl⟩⟩
   ·refine⟨A5,n5,c5,true,_,rfl,h6,h7,fun x hx=>?_,.inr ⟨rfl,fun x=>?_⟩⟩
    ·rcases List.mem_cons.1 hx with rfl | hx
     ·exact .inr rfl
     ·have hn:=h6.one
      unfold Lr.ids at hn
      rw[List.map_cons,List.nodup_cons]at hn
      exact .inl (gI hn.2 h8 hx)
    ·by_cases hx:x=id
     ·exact .inr (.inr ⟨hx,⟨id,q,z,k5⟩,by rw[hx];unfold Lr.peek;rw[List.find?_cons,decide_eq_true rfl],rfl⟩)
     ·have hpe:Lr.peek (⟨id,q,z,k5⟩::l1) x=Lr.peek l1 x:=by unfold Lr.peek;rw[List.find?_cons,decide_eq_false (fun e=>hx e.symm)]
      rw[hpe]
      exact (h8 x).imp (fun h=>h) (fun h=>.inl ⟨hx,h⟩)
  have H3:=H1.out.below HB3.out
  obtain⟨hca,hwa⟩:=H3.turned h5 hw5 (fun x hx=>(hmem5 x hx).imp (fun h=>h) (fun h s hs k hk hf=>by
   rw[h]at hk
   have h1:=HQG.out k hk
   have h2:=(H1.out.sto s hs).lt hf
   have h3:=HB23.out
   omega))
  have HCA:=aH hca
  have HWA:=aH ((aO.below (aA HZ1.out HB1.out HB3.out) (Z.foot a)).trans hwa)
  have HOK5:=aH hok5
  have HNW:Hid (aPM w a.l l5):=aH (fun x hx=>(hmem5 x hx).imp (fun h=>h) (fun h k hk=>by
   rw[h]at hk
   exact bD HQZ.out (HQG.out k hk)))
  refine hK.out _ _ ⟨hca.cells.2.1,hw5.blk (HK1.out.below HB3.out) (H3.mem.off (HK1.out.below HB3.out).tag (by decide) (by decide))⟩ ?_
  clear hK hS hret h5 hw5 hmem5 hok5 hca hwa H3
  refine HT.take 10 (.tuple #[.slice A5 n5 c5,.bool ok]) rfl (by kernel_rfl) (fun _ _ _ h=>h) (Or.inl ⟨by rfl,?_⟩) ?_
  ·intro u hu
   go_simp
  refine HT.take 11 (.slice A5 n5 c5) rfl (by kernel_rfl) (fun _ _ _ h=>h) (Or.inl ⟨by rfl,?_⟩) ?_
  ·intro u hu
   go_simp
  refine HT.take 12 (.bool ok) rfl (by kernel_rfl) (fun _ _ _ h=>h) (Or.inl ⟨by rfl,?_⟩) ?_
  ·intro u hu
   go_simp
  refine HT.take 13 (.slice A5 n5 c5) rfl (by kernel_rfl) (fun _ _ _ h=>h) (Or.inl ⟨by rfl,?_⟩) (?_:HT _ _ _ _ _ _ _ ⟨#[_,_,_,_,_,_,_,_,_,.slice A5 n5 c5,_,_,_,_,_,_,_,_,_,.tuple #[.slice A5 n5 c5,.bool ok],.pointer (some ⟨Z.c,0,none⟩),.pointer (some ⟨Z.c,0,none⟩),.pointer (some ⟨Z.c,1,none⟩),.pointer (some ⟨Z.t,0,none⟩),.string id,.agg #[.string p.E.k,.string p.E.v,.int .i64 p.E.s,.string p.E.r,.int .i64 p.E.m,.slice p.A p.E.fs.length p.c,.slice p.X p.E.body.length p.d,.int .i64 p.E.asked,.int .i64 p.E.got],.agg #[.string q.E.k,.string q.E.v,.int .i64 q.E.s,.string q.E.r,.int .i64 q.E.m,.slice q.A q.E.fs.length q.c,.slice q.X q.E.body.length q.d,.int .i64 q.E.asked,.int .i64 q.E.got],.slice A z c,.int .i64 z,.tuple #[.slice A5 n5 c5,.bool ok],.slice A5 n5 c5,.bool ok,_,_,_,_,_,_,_,_],[]⟩ _)
  ·intro u hu
   go_simp
  refine HT.tail _ rfl rfl (by kernel_rfl) (fun hS=>?_)
  clear hS hS0
  rcases HOK5.out with ⟨rfl,rfl⟩ | ⟨rfl,hlt⟩
  ·have HCD:=aH (nV B Z.t Z.m room a.l id w5 HCA.out.mem hs)
   obtain⟨y0,y1,y2⟩:=HCA.out.cells
   clear HOK5
   go_wp2
   refine NoPanic.normal ?_
   go_wp2_with fail
   refine HCD.out.mono ?_
   rintro e w6 ⟨l6,b6,rfl,h6,hw6,hp6⟩
   obtain⟨q1,q2⟩:=HCA.out.turned h6 hw6 (fun x hx=>.inl (gI h6.one (fun y=>by
    rw[hp6]
    by_cases hy:y=id
    ·rw[if_pos hy];exact .inl rfl
    ·rw[if_neg hy];exact .inr rfl) hx))
   have hlay:zW w a.l l6 id p.E:=⟨fun x=>by
    rw[hp6]
    by_cases hx:x=id
    ·rw[if_pos hx];exact .inl rfl
    ·rw[if_neg hx];exact .inr (.inl ⟨hx,rfl⟩),fun x hx=>.inl (gI h6.one (fun y=>by
    rw[hp6]
    by_cases hy:y=id
    ·rw[if_pos hy];exact .inl rfl
    ·rw[if_neg hy];exact .inr rfl) hx)⟩
   have HQ1:=aH q1
   have HQ2:=aH (HWA.out.trans q2)
   have HLA:=aH hlay
   clear h6 hw6 hp6 q1 q2 hlay HCD HCA HWA y0 y1 y2
   go_wp2
   go_ret
   exact .inr ⟨HC.out,rfl,l6,HQ1.out,HQ2.out,HLA.out⟩
  ·have HLA:=aH hlt
   clear hlt HOK5
   go_wp2
   refine NoPanic.normal ?_
   go_wp2
   go_ret
   exact .inr ⟨HC.out,rfl,l5,HCA.out,HWA.out,by rw[← HQE.out];exact⟨HLA.out,HNW.out⟩⟩
theorem aGX (A:Option Addr) (n c:Nat) (zs:List Int) (w:World) (hn:n≤1099511627776) (hx:Rd w A n 1 (fH zs)) (hnil:A=none→n=0∧c=0) :
  Calls Tryz.prog 47 #[.slice A n c] w (dN w 3 1 n (fH zs)):=by
 cases A with
 | none =>
  obtain⟨rfl,rfl⟩:=hnil rfl
  have hfs:fH zs=[]:=List.eq_nil_of_length_eq_zero (by simpa using hx.1)
  rw[hfs]
  exact (aBZ w).mono (fun e w' h=>⟨none,0,h.1,Row.none_ _ _ _ _,by rw[h.2];exact zB _ _⟩)
 | some ad =>
  have he:=fun w=>Lib.run_eql_slice_nil (P:=Tryz.prog) w 23 _ (some ad) n c (h:=Tryz.underlying23)
  clear hnil
  go_enter Tryz.func47,Tryz.ntmps47
  go_wp2_with (at_builtin;refine appI _ rfl (.tmp 5) (.tmp 6) rfl w.heap.size _ 0 0 [] rfl (Row.empty _ _ _ _ _) (some ad) n c zs rfl (hx.alloc _) (by omega) (by simp) ?_;intro A1 c1 w1 hr1 ha1;simp only[Nat.zero_add,List.nil_append]at hr1)
  go_ret
  exact⟨A1,c1,by simp,hr1,((zB _ _).alloc (zA _) _).trans (ha1.below (Row.empty _ _ 3 1 _) (by simp))⟩
def D.bare (room:Int) (fails:List Int) (power:Int):D.Dsk:=⟨[],[],[],[],[],room,fails,power,0⟩
theorem bU.bare (w w1:World) (room power:Int) (fails:List Int) (FA:Option Addr) (fc:Nat) (a b d:Nat) (ha:w.heap.size≤a) (hB:w.heap.size≤b) (hd:w.heap.size≤d) (hab:a≠b)
  (hN:w1.ownsMap Tryz.prog 9 D.iM a 0 (.map [])) (hS:w1.ownsMap Tryz.prog 9 D.iM b 0 (.map [])) (hF:Row w1 w.heap.size 3 1 FA fails.length fc (fH fails))
  (hk:Blk w1 d #[.map (some a),.map (some b),.slice none 0 0,.int .i64 0,.int .i64 room,.slice FA fails.length fc,.int .i64 power,.int .i64 0] 95) :
  bU w.heap.size ⟨d,a,b,none,0,[],fun _=>0,fun _=>none,fun _=>0,FA,fc⟩ (D.bare room fails power) w1 :=
 ⟨hk,hN,hS,hab,Row.none_ _ _ _ _,trivial,hF,fun _ hn=>absurd hn (Nat.not_lt_zero _),fun _ _ hi=>absurd hi (Nat.not_lt_zero _),⟨hd,ha,hB⟩⟩
def aKA (w:World) (room:Int) (fails:List Int) (power:Int) (e:Ending) (w':World):Prop :=
 (¬ (0≤room∧room≤1073741824)∧e=.returned (.tuple #[.pointer none,.int .i64 131])∧Below w.heap.size w w') ∨
 (0≤room∧room≤1073741824∧∃ M,e=.returned (.tuple #[.pointer (some ⟨M.d,0,none⟩),.int .i64 0])∧bU w.heap.size M (D.bare room fails power) w'∧Below w.heap.size w w')
theorem aLI (FS:Option Addr) (fs:Nat) (A:Option Addr) (c:Nat) (fails:List Int) (room power:Int) (w:World) (hn:fails.length≤1099511627776) (hx:Rd w A fails.length 1 (fH fails)) (hnil:A=none→fails.length=0∧c=0) :
  Calls Tryz.prog 23 #[.slice FS 0 fs,.int .i64 room,.slice A fails.length c,.int .i64 power] w (aKA w room fails power):=by
 by_cases h0:0≤room
 rotate_left
 ·have h0i:room < 0:=by omega
  go_enter Tryz.func23,Tryz.ntmps23
  go_wp2
  go_ret2
  exact .inl ⟨fun h=>by omega,rfl,zB _ _⟩
 by_cases h1:room≤1073741824
 rotate_left
 ·have h1i:room > 1073741824:=by omega
  have h0i:¬ room < 0:=by omega
  go_enter Tryz.func23,Tryz.ntmps23
  go_wp2
  go_ret2
  exact .inl ⟨fun h=>by omega,rfl,zB _ _⟩
 have h0i:¬ room < 0:=by omega
 have h1i:¬ room > 1073741824:=by omega
 have hmm:=@run_makeMap Tryz.prog
 have HCN:=aH (fun u (hu:Below w.heap.size w u)=>aGX A fails.length c fails u hn (hx.below hu) hnil)
 obtain⟨fn,hfn⟩:∃ fn,fails.length=fn:=⟨_,rfl⟩
 rw[hfn]at HCN ⊢
 have HFN:=aH hfn
 clear hfn hn hx hnil
 obtain⟨M0,hM0⟩:∃ M0,w.alloc (.map #[] 0)=M0:=⟨_,rfl⟩
 have hs0:M0.heap.size=w.heap.size+1:=by rw[← hM0];exact bJ ..
 have HN:=aH ((World.ownsMap_made w Tryz.prog 9 D.iM))
 rw[hM0]at HN
 have hb0:Below w.heap.size w M0:=by rw[← hM0];exact (zB _ _).alloc (zA _) _
 have HB0:=aH hb0
 have HS0:=aH hs0
 clear hb0 hs0
 go_enter Tryz.func23,Tryz.ntmps23
 go_wp2_with fail
 clear hmm hM0
 refine (HCN.out M0 HB0.out).mono ?_
 rintro e w1 ⟨FA,fcc,rfl,hrF,hbF⟩
 have HBF:=aH hbF
 have HRF:=aH (hrF.mono HB0.out.size)
 clear hbF hrF HCN
 obtain⟨D0,hD0⟩:∃ D0,D0=w1.alloc (.cells #[.map (some w.heap.size),.map none,.slice none 0 0,.int .i64 0,.int .i64 room,.slice FA fn fcc,.int .i64 power,.int .i64 0] 95):=⟨_,rfl⟩
 have HK:=aH (Blk.new w1 #[.map (some w.heap.size),.map none,.slice none 0 0,.int .i64 0,.int .i64 room,.slice FA fn fcc,.int .i64 power,.int .i64 0] 95)
 rw[← hD0]at HK
 have hbd:Below w1.heap.size w1 D0:=by rw[hD0];exact (zB _ _).alloc (zA _) _
 have hb2:=aA HBF.out.size HBF.out hbd
 have HB1:=aH (aA HB0.out.size HB0.out hb2)
 have HN1:Hid (D0.ownsMap Tryz.prog 9 D.iM w.heap.size 0 (.map [])):=aH (HN.out.kept (show M0.grownBy D0 none from⟨hb2.os,hb2.tape,hb2.output,hb2.size,fun k hk _=>hb2.block k hk⟩) (by simp))
 have HRD:=aH (HRF.out.below hbd)
 have HCL:=aH (xJ ⟨0,0,0,none,0,[],fun _=>0,fun _=>none,fun _=>0,none,0⟩ [] w.heap.size D0 HN1.out)
 have HZ:Hid (w.heap.size+1≤w1.heap.size):=aH (by have:=HS0.out;have:=HBF.out.size;omega)
 clear HN hb2 hbd
 go_upto_region 4 with fail
 simp only[← hD0]
 obtain⟨bd,hbd⟩:∃ bd,w1.heap.size=bd:=⟨_,rfl⟩
 rw[hbd]at HK HZ ⊢
 have z0:D0.cell? ⟨bd,0,none⟩=some (.map (some w.heap.size)):=HK.out.cell 0 rfl
 clear hD0 hbd HBF HRF
 go_wp2
 go_loopw [29] (fun i wr=>i=.int .i64 0∧D0=wr) (fun _ _=>0)
 case atStart=>exact⟨rfl,rfl⟩
 case round =>
 obtain⟨rfl,rfl⟩:=hrel
 go_wp2_with fail
 clear z0
 refine HCL.out.mono ?_
 rintro e w2 ⟨rfl,hm2,hb2,hlt⟩
 have HK2:=aH (HK.out.below hb2)
 have z1:w2.cell? ⟨bd,1,none⟩=some (.map none):=HK2.out.cell 1 rfl
 have f1:=HK2.out.free 1
 have HB2:=aH (aA HB1.out.size HB1.out hb2)
 have hge:w.heap.size < D0.heap.size:=HN1.out.lt
 have hg1:=aT w2 bd 1 (.map (some D0.heap.size))
 have hT:=HK2.out.tag
 have HN2:=aH ((HN1.out.kept (show D0.grownBy w2 none from⟨hb2.os,hb2.tape,hb2.output,hb2.size,fun k hk _=>hb2.block k hk⟩) (by simp)).kept hg1 (fun e=>absurd (show bd=w.heap.size by simpa using e.symm) (by have:=HZ.out;omega)))
 have HS2:=aH (hm2.kept hg1 (fun e=>hT.map (aF hm2) (by simpa using e.symm)))
 have HR2:=aH ((HRD.out.below hb2).keptG hg1 (fun k hk e=>((HRD.out.below hb2).tag hk).ne hT (by decide) (by simpa using e.symm)))
 have HK3:=aH (HK2.out.set 1 (.map (some D0.heap.size)))
 have HB3:=aH (aJ HB2.out (b:=bd) (by have:=HZ.out;omega) 1 (.map (some D0.heap.size)))
 clear hm2 hb2 hg1 HN1 HCL HK HB1 HRD
 go_wp2
 go_ret2
 refine .inr ⟨h0,h1,_,rfl,bU.bare w _ room power fails FA fcc w.heap.size D0.heap.size bd (zA _) (Nat.le_of_lt hge) (by have:=HZ.out;omega) (by omega) HN2.out HS2.out (by rw[HFN.out];exact HR2.out) ?_,HB3.out⟩
 rw[HFN.out]
 exact HK3.out
end Go.Proofs.YthjeglnkgdpijaaGreatDoor
namespace Go.Proofs.YthjeglnkgdpijaaGreatDoor
open Go Go.RowKit
def V.matches (E:O.Ent) (ask:List FD):Bool:=match V.names E.fs with
 | none=>false
 | some l=>decide (B (V.key l ask)=E.v)
structure V.Fits (fs ask:List FD):Prop where
 n:fs.length≤1099511627776
 f:pU fs
 t:(F.tokens fs V.vary).length≤1099511627776
 ny:ask.length≤1099511627776
 fa:pU ask
 l:∀ l,V.names fs=some l→l.length≤1099511627776∧(∀ x∈l,x.size≤1099511627776∧(V.elems ask x).length≤1099511627776)∧(V.key l ask).length≤70368744177664
theorem aC8 (p:EP) (Y:Option Addr) (cy:Nat) (ask:List FD) (w:World) (h:ERd w p) (hy:Rd w Y ask.length 2 (aI ask)) (hs:V.Fits p.E.fs ask) :
  Calls Tryz.prog 15 #[p.v,.slice Y ask.length cy] w (pR w (V.matches p.E ask)):=by
 obtain⟨w0,hw0⟩:∃ w0,w.alloc (.cells #[.string p.E.k,.string p.E.v,.int .i64 p.E.s,.string p.E.r,.int .i64 p.E.m,.slice p.A p.E.fs.length p.c,.slice p.X p.E.body.length p.d,.int .i64 p.E.asked,.int .i64 p.E.got] 41)=w0:=⟨_,rfl⟩
 have hb0:Below w.heap.size w w0:=by rw[← hw0];exact (zB _ _).alloc (zA _) _
 have hk0:=Blk.new w #[.string p.E.k,.string p.E.v,.int .i64 p.E.s,.string p.E.r,.int .i64 p.E.m,.slice p.A p.E.fs.length p.c,.slice p.X p.E.body.length p.d,.int .i64 p.E.asked,.int .i64 p.E.got] 41
 rw[hw0]at hk0
 have HN:=aH (aIH p.A p.E.fs.length p.c p.E.fs w0 hs.n rfl hs.f hs.t (h.1.below hb0))
 obtain⟨x0,x1,x2,x3,x4,x5,x6,x7,x8⟩:=hk0.cells9
 have HB0:=aH hb0
 have HK0:=aH hk0
 have HY:=aH (hy.below hb0)
 have HS:=aH hs
 clear hb0 hk0 h hy hs
 unfold EP.v kK
 go_enter Tryz.func15,Tryz.ntmps15
 go_wp2_with fail
 clear x0 x1 x2 x3 x4 x5 x6 x7 x8 hw0
 refine HN.out.mono ?_
 rintro e w1 ⟨hb1,hm⟩
 have HB1:=aH (aA HB0.out.size HB0.out hb1)
 have HK1:=aH (HK0.out.below hb1)
 have HY1:=aH (HY.out.below hb1)
 have HZ0:=aH hb1.size
 cases hv:V.names p.E.fs with
 | none =>
  rw[hv]at hm
  have hm2:e=_:=hm
  subst hm2
  have HV:Hid (V.matches p.E ask=false):=aH (by unfold V.matches;rw[hv])
  clear hm hv hb1 HN HB0 HK0 HY HS
  go_upto_region 2 with fail
  have hS0:Below w1.heap.size w1 w1.drew:=(zB _ _).drew
  refine wp_region_noPanic ?_
  refine HT.begin (n:=8) (S:=(fun u=>Below w1.heap.size w1 u)) (by kernel_rfl) hS0 ?_
  generalize w1.drew=w2 at *
  refine HT.take 0 (.bool false) rfl (by kernel_rfl) (fun _ _ _ h=>h) (Or.inl ⟨by rfl,?_⟩) ?_
  ·intro u hu
   go_simp
  refine HT.take 1 (.bool false) rfl (by kernel_rfl) (fun _ _ _ h=>h) (Or.inl ⟨by rfl,?_⟩) ?_
  ·intro u hu
   go_simp
  refine HT.take 2 undef rfl (by kernel_rfl) (fun _ _ _ h=>h) (Or.inr ⟨by rfl,rfl⟩) ?_
  refine HT.take 3 undef rfl (by kernel_rfl) (fun _ _ _ h=>h) (Or.inr ⟨by rfl,rfl⟩) ?_
  refine HT.take 4 undef rfl (by kernel_rfl) (fun _ _ _ h=>h) (Or.inr ⟨by rfl,rfl⟩) ?_
  refine HT.take 5 undef rfl (by kernel_rfl) (fun _ _ _ h=>h) (Or.inr ⟨by rfl,rfl⟩) ?_
  refine HT.take 6 undef rfl (by kernel_rfl) (fun _ _ _ h=>h) (Or.inr ⟨by rfl,rfl⟩) ?_
  refine HT.take 7 undef rfl (by kernel_rfl) (fun _ _ _ h=>h) (Or.inr ⟨by rfl,rfl⟩) (?_:HT _ _ _ _ _ _ _ ⟨#[_,_,_,_,_,_,_,_,_,_,_,_,_,_,.bool false,.bool false,undef,undef,undef,undef,undef,undef,_],[]⟩ _)
  refine HT.tail _ rfl rfl (by kernel_rfl) (fun hS=>?_)
  have HB2:=aH (aA (bD HB1.out.size (zA _)) HB1.out hS)
  clear hS hS0
  go_wp2
  refine NoPanic.normal ?_
  go_wp2
  go_ret
  exact⟨aP HV.out.symm,HB2.out⟩
 | some l =>
  rw[hv]at hm
  obtain⟨A,c,rfl,hr⟩:=hm
  obtain⟨hl1,hl2,hl3⟩:=HS.out.l l hv
  have HKY:=aH (fun u (hu:Below w1.heap.size w1 u)=>aOT A Y l.length c ask.length cy l ask u (hr.rd.below hu) (HY1.out.below hu) hl1 HS.out.ny rfl HS.out.fa (fun x hx=>(hl2 x hx).1) (fun x hx=>(hl2 x hx).2) hl3)
  obtain⟨kb,hkb⟩:∃ kb,B (V.key l ask)=kb:=⟨_,rfl⟩
  rw[hkb]at HKY
  obtain⟨bq,hbq⟩:∃ bq,decide (kb=p.E.v)=bq:=⟨_,rfl⟩
  have HV:Hid (V.matches p.E ask=bq):=aH (by unfold V.matches;rw[hv];show decide (B (V.key l ask)=p.E.v)=bq;rw[hkb,hbq])
  obtain⟨vb,hvb⟩:∃ vb,p.E.v=vb:=⟨_,rfl⟩
  have hcmp:(kb.toList==vb.toList)=bq:=by rw[← hbq,hvb,eF]
  rw[hvb]at HK1
  clear hv hb1 HN HB0 HK0 HY HS hr hl1 hl2 hl3 hkb hbq hvb
  go_upto_region 2 with fail
  have hS0:Below w1.heap.size w1 w1.drew:=(zB _ _).drew
  refine wp_region_noPanic ?_
  refine HT.begin (n:=8) (S:=(fun u=>Below w1.heap.size w1 u)) (by kernel_rfl) hS0 ?_
  generalize w1.drew=w2 at *
  refine HT.take 0 (.bool true) rfl (by kernel_rfl) (fun _ _ _ h=>h) (Or.inl ⟨by rfl,?_⟩) ?_
  ·intro u hu
   go_simp
  refine HT.take 1 (.bool true) rfl (by kernel_rfl) (fun _ _ _ h=>h) (Or.inl ⟨by rfl,?_⟩) ?_
  ·intro u hu
   go_simp
  refine HT.take 2 (.slice A l.length c) rfl (by kernel_rfl) (fun _ _ _ h=>h) (Or.inl ⟨by rfl,?_⟩) ?_
  ·intro u hu
   go_simp
  refine HT.take 3 (.slice Y ask.length cy) rfl (by kernel_rfl) (fun _ _ _ h=>h) (Or.inl ⟨by rfl,?_⟩) ?_
  ·intro u hu
   go_simp
  refine HT.take 5 (.pointer (some ⟨w.heap.size,1,none⟩)) rfl (by kernel_rfl) (fun _ _ _ h=>h) (Or.inl ⟨by rfl,?_⟩) ?_
  ·intro u hu
   go_simp
  refine HT.take 6 (.string vb) rfl (by kernel_rfl) (fun _ _ _ h=>h) (Or.inl ⟨by rfl,?_⟩) (?_:HT _ _ _ _ _ _ _ ⟨#[_,_,_,_,_,_,_,_,_,_,_,_,_,_,.bool true,.bool true,.slice A l.length c,.slice Y ask.length cy,_,.pointer (some ⟨w.heap.size,1,none⟩),.string vb,_,_],[]⟩ _)
  ·intro u hu
   have y1:=(HK1.out.below hu).cell 1 rfl
   go_simp
  refine HT.step 4 rfl (by kernel_rfl) (fun hS K hK=>?_)
  go_simp
  refine (HKY.out _ hS).mono ?_
  rintro e w3 ⟨rfl,hb3⟩
  refine hK.out _ _ (aA hS.size hS hb3) ?_
  clear hK hS hb3
  refine HT.take 7 (.bool bq) rfl (by kernel_rfl) (fun _ _ _ h=>h) (Or.inl ⟨by rfl,?_⟩) (?_:HT _ _ _ _ _ _ _ ⟨#[_,_,_,_,_,_,_,_,_,_,_,_,_,_,.bool true,.bool true,.slice A l.length c,.slice Y ask.length cy,.string kb,.pointer (some ⟨w.heap.size,1,none⟩),.string vb,.bool bq,_],[]⟩ _)
  ·intro u hu
   go_simp
  refine HT.tail _ rfl rfl (by kernel_rfl) (fun hS=>?_)
  have HB2:=aH (aA HB1.out.size HB1.out hS)
  clear hS hS0
  go_wp2
  refine NoPanic.normal ?_
  go_wp2
  go_ret
  exact⟨aP HV.out.symm,HB2.out⟩
end Go.Proofs.YthjeglnkgdpijaaGreatDoor
