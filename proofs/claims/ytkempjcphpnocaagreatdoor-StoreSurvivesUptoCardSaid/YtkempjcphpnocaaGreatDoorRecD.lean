/- The walk of rec.Decode. Condition: at most 2^40 bytes. -/
import Derived.Test.YtkempjcphpnocaaGreatDoorZ19
namespace Go.Proofs.YtkempjcphpnocaaGreatDoor
open Go Go.RowKit Go.Maps
def RetRec (w:World) (x:R.Rc × Nat × Int) (e:Ending) (w':World):Prop:=e=.returned (.tuple #[recV x.1,.int .i64 x.2.1,.int .i64 x.2.2])∧Below w.heap.size w w'
set_option maxRecDepth 100000 in
set_option maxHeartbeats 2000000 in
theorem rdec_any (A:Option Addr) (n c:Nat) (bs:List UInt8) (w:World) (hl:bs.length=n) (hnc:n≤c) (hn:n≤1099511627776) (hx:Rd w A n 1 (bcells bs)):Calls Tryz.prog 120 #[.slice A n c] w (RetRec w (R.dec bs)):=by
 subst hl
 by_cases h0:bs.length=0
 ·rw[h0,show R.dec bs=(R.Rc.zero,0,0) by unfold R.dec;rw[if_pos h0]]
  exact rdec0_any A c w
 have HX:=Lib.hid hx
 obtain⟨x,l,rfl⟩:∃ x l,bs=x::l:=by
  cases bs with
  | nil=>exact absurd rfl h0
  | cons x l=>exact⟨x,l,rfl⟩
 obtain⟨b,o,rfl,hb,hc⟩:=hx.2 (by simp)
 have y0:w.cell? ⟨b,o,none⟩=some (.int .u8 x.toNat):=hc 0 _ rfl
 have hxl:x.toNat < 256:=x.toNat_lt
 have HK:=Lib.hid (Blk.new w #[.int .i64 0,.int .i64 0,.int .i64 0,.string ⟨#[]⟩] 89)
 have HB:=Lib.hid ((Below.refl w.heap.size w).alloc (Nat.le_refl _) (.cells #[.int .i64 0,.int .i64 0,.int .i64 0,.string ⟨#[]⟩] 89))
 obtain⟨n,hn1⟩:∃ n,(x::l).length=n:=⟨_,rfl⟩
 have h0i:¬ (n:Int)=0:=by rw[← hn1];omega
 have h0b:((n:Int)==0)=false:=beq_eq_false_iff_ne.2 h0i
 clear hx hc
 by_cases h1:x=193∨x=194
 rotate_left
 ·have hG:R.dec (x::l)=(R.Rc.zero,0,100):=by
   unfold R.dec
   rw[if_neg h0,if_pos (by simp only[List.headD_cons];exact⟨fun h=>h1 (.inl h),fun h=>h1 (.inr h)⟩)]
  have hx1:¬ (x.toNat:Int) - 192=1:=fun h=>h1 (.inl (by apply UInt8.toNat_inj.1;show x.toNat=193;omega))
  have hx2:¬ (x.toNat:Int) - 192=2:=fun h=>h1 (.inr (by apply UInt8.toNat_inj.1;show x.toNat=194;omega))
  have hxb:(((x.toNat:Int) - 192) != 1)=true:=by simpa using hx1
  have hxb2:(((x.toNat:Int) - 192) != 2)=true:=by simpa using hx2
  rw[hG,hn1]
  rw[hn1]at hn hnc
  go_enter Tryz.func120,Tryz.ntmps120
  go_wp2
  obtain⟨z0,z1,z2,z3⟩:=HK.out.cells4
  (try simp only[Exit.inBlock,Exit.then])
  refine bodyPost_ret (v:=.tuple #[recV R.Rc.zero,.int .i64 0,.int .i64 100]) (by simp [results,Tryz.results120,go_sem,z0,z1,z2,z3,recV,R.Rc.zero]) rfl ?_
  exact⟨rfl,HB.out⟩
 have hop:(x.toNat:Int) - 192=1∨(x.toNat:Int) - 192=2:=by
  rcases h1 with rfl | rfl
  ·exact .inl rfl
  ·exact .inr rfl
 have hne:¬ ((x::l).headD 0≠193∧(x::l).headD 0≠194):=by
  simp only[List.headD_cons]
  rcases h1 with h | h
  ·exact fun hh=>hh.1 h
  ·exact fun hh=>hh.2 h
 obtain⟨op,hopx⟩:∃ op,(x.toNat:Int) - 192=op:=⟨_,rfl⟩
 rw[hopx]at hop
 have hopb:((op != 1)&&(op != 2))=false:=by rcases hop with rfl | rfl<;>rfl
 by_cases h3:(x::l).length < 3
 ·have hG:R.dec (x::l)=(R.Rc.zero,0,0):=by
   unfold R.dec
   rw[if_neg h0,if_neg hne,if_pos h3]
  have h3i:(n:Int) < 3:=by rw[← hn1];omega
  rw[hG,hn1]
  rw[hn1]at hn hnc
  go_enter Tryz.func120,Tryz.ntmps120
  rcases hop with rfl | rfl
  ·go_wp2
   obtain⟨z0,z1,z2,z3⟩:=HK.out.cells4
   (try simp only[Exit.inBlock,Exit.then])
   refine bodyPost_ret (v:=.tuple #[recV R.Rc.zero,.int .i64 0,.int .i64 0]) (by simp [results,Tryz.results120,go_sem,z0,z1,z2,z3,recV,R.Rc.zero]) rfl ?_
   exact⟨rfl,HB.out⟩
  ·go_wp2
   obtain⟨z0,z1,z2,z3⟩:=HK.out.cells4
   (try simp only[Exit.inBlock,Exit.then])
   refine bodyPost_ret (v:=.tuple #[recV R.Rc.zero,.int .i64 0,.int .i64 0]) (by simp [results,Tryz.results120,go_sem,z0,z1,z2,z3,recV,R.Rc.zero]) rfl ?_
   exact⟨rfl,HB.out⟩
 obtain⟨N,hN⟩:∃ N,O.val (((x::l).drop 1).take 2)=N:=⟨_,rfl⟩
 have hNlt:N < 65536:=by
  rw[← hN]
  have:=O.val_lt (((x::l).drop 1).take 2)
  have h2:(((x::l).drop 1).take 2).length=2:=by rw[List.length_take,List.length_drop];omega
  rw[h2]at this
  exact this
 have hlen2:(((x::l).drop 1).take 2).length=2:=by rw[List.length_take,List.length_drop];omega
 have HG1:=Lib.hid (fun (u:World) (hu:Below w.heap.size w u)=>get_be (some ⟨b,o+1,none⟩) (c - 1) (((x::l).drop 1).take 2) u (by omega) (by rw[hlen2];exact ((HX.out.below hu).from_ (k:=1) (by omega)).upto (by omega)))
 rw[hN,hlen2]at HG1
 have hw:wrap64 (N:Int)=N:=by
  unfold wrap64
  omega
 rw[hw]at HG1
 have h3i:¬ (n:Int) < 3:=by rw[← hn1];omega
 have hn3:3≤n:=by omega
 obtain⟨W0,hW0⟩:∃ W0,w.alloc (.cells #[.int .i64 0,.int .i64 0,.int .i64 0,.string ⟨#[]⟩] 89)=W0:=⟨_,rfl⟩
 rw[hW0]at HK HB
 obtain⟨G,hG⟩:∃ G,R.dec (x::l)=G:=⟨_,rfl⟩
 have HGG:Hid (G=R.dec (x::l)):=Lib.hid hG.symm
 rw[hG,hn1]
 rw[hn1]at hn hnc HX
 have y1:W0.cell? ⟨b,o,none⟩=some (.int .u8 x.toNat):=(HB.out.cell (p:=⟨b,o,none⟩) hb).trans y0
 have HNN:=Lib.hid hN
 have HN1:=Lib.hid hn1
 clear hG y0 hN hn1 hw hlen2 h0i h0b
 have h0i:¬ (n:Int)=0:=by omega
 go_enter Tryz.func120,Tryz.ntmps120
 go_upto_region 4 with fail
 go_cut [18,19,20,21,22] (fun _ _ _ _ s22 wx=>s22=.bool false∧wx=W0)
 case first =>
  rcases hop with rfl | rfl
  ·go_wp2_with fail
   go_meet
   exact⟨rfl,rfl⟩
  ·go_wp2_with fail
   go_meet
   exact⟨rfl,rfl⟩
 case rest =>
  obtain⟨rfl,rfl⟩:=hcut
  go_wp2_with fail
  refine (HG1.out _ HB.out).mono ?_
  rintro e w1 ⟨rfl,rfl⟩
  by_cases h4:4096 < N
  ·have hG:G=(R.Rc.zero,0,100):=by
    rw[HGG.out]
    unfold R.dec
    rw[if_neg h0,if_neg hne,if_neg h3,HNN.out,if_pos h4]
   have h4i:(11+(N:Int)) - 11 > 4096:=by omega
   have h4j:(N:Int) > 4096:=by omega
   obtain⟨f0,f1,f2,f3⟩:=HK.out.free4
   obtain⟨q0,q1,q2,q3⟩:=HK.out.cells4
   go_wp2
   clear f0 f1 f2 f3 q0 q1 q2 q3
   obtain⟨z0,z1,z2,z3⟩:=(HK.out.set4 (.int .i64 0) (.int .i64 0) (.int .i64 0) (.string ⟨#[]⟩)).cells4
   (try simp only[Exit.inBlock,Exit.then])
   refine bodyPost_ret (v:=.tuple #[recV R.Rc.zero,.int .i64 0,.int .i64 100]) (by simp [results,Tryz.results120,go_sem,z0,z1,z2,z3,recV,R.Rc.zero]) rfl ?_
   rw[hG]
   exact⟨rfl,below_four HB.out (Nat.le_refl _) _ _ _ _⟩
  have h4i:¬ (11+(N:Int)) - 11 > 4096:=by omega
  have h4j:¬ (N:Int) > 4096:=by omega
  by_cases h5:n < N+15
  ·have hG:G=(R.Rc.zero,0,0):=by
    rw[HGG.out]
    unfold R.dec
    rw[if_neg h0,if_neg hne,if_neg h3,HNN.out,if_neg h4,if_pos (by rw[HN1.out];exact h5)]
   have h5i:(n:Int) < 11+N+4:=by omega
   obtain⟨f0,f1,f2,f3⟩:=HK.out.free4
   obtain⟨q0,q1,q2,q3⟩:=HK.out.cells4
   go_wp2
   clear f0 f1 f2 f3 q0 q1 q2 q3
   obtain⟨z0,z1,z2,z3⟩:=(HK.out.set4 (.int .i64 0) (.int .i64 0) (.int .i64 0) (.string ⟨#[]⟩)).cells4
   (try simp only[Exit.inBlock,Exit.then])
   refine bodyPost_ret (v:=.tuple #[recV R.Rc.zero,.int .i64 0,.int .i64 0]) (by simp [results,Tryz.results120,go_sem,z0,z1,z2,z3,recV,R.Rc.zero]) rfl ?_
   rw[hG]
   exact⟨rfl,below_four HB.out (Nat.le_refl _) _ _ _ _⟩
  have h5i:¬ (n:Int) < 11+N+4:=by omega
  go_upto_region 13 with fail
  obtain⟨m,hm⟩:∃ m:Nat,11+N=m:=⟨_,rfl⟩
  have hmi:(11+(N:Int))=(m:Int):=by omega
  rw[hmi]
  have HM:=Lib.hid hm
  have hm1:m+4≤n:=by omega
  have hS0:Below wc.heap.size wc wc.drew:=(Below.refl _ _).drew
  have hxn:(x::l).length=n:=HN1.out
  have hv4:(((x::l).drop m).take 4).length=4:=by rw[List.length_take,List.length_drop];omega
  have hvm:((x::l).take m).length=m:=by rw[List.length_take];omega
  obtain⟨V,hV⟩:∃ V,O.val (((x::l).drop m).take 4)=V:=⟨_,rfl⟩
  obtain⟨SM,hSM⟩:∃ SM,sumN ((x::l).take m)=SM:=⟨_,rfl⟩
  have hVlt:V < 4294967296:=by
   rw[← hV]
   have:=O.val_lt (((x::l).drop m).take 4)
   rw[hv4]at this
   exact this
  have hww:wrap64 (V:Int)=V:=by
   unfold wrap64
   omega
  have HGV:=Lib.hid (fun (u:World) (hu:Below wc.heap.size wc u)=>get_be (some ⟨b,o+m,none⟩) (c - m) (((x::l).drop m).take 4) u (by omega) (by rw[hv4];exact ((HX.out.below (below_then HB.out.size HB.out hu)).from_ (k:=m) (by omega)).upto (by omega)))
  rw[hV,hv4,hww]at HGV
  have HSM:=Lib.hid (fun (u:World) (hu:Below wc.heap.size wc u)=>sum_any (some ⟨b,o,none⟩) c ((x::l).take m) u (by omega) (by rw[hvm];exact (HX.out.below (below_then HB.out.size HB.out hu)).upto (by omega)))
  rw[hSM,hvm]at HSM
  have HV:=Lib.hid hV
  have HSS:=Lib.hid hSM
  clear hV hSM hww hv4 hvm hxn hm hmi
  refine wp_region_noPanic ?_
  refine HT.begin (n:=10) (S:=(fun u=>Below wc.heap.size wc u)) (by kernel_rfl) hS0 ?_
  generalize wc.drew=wd at *
  refine HT.take 0 (.slice (some ⟨b,o,none⟩) n c) rfl (by kernel_rfl) (fun _ _ _ h=>h) (Or.inl ⟨by rfl,?_⟩) (?_:HT _ _ _ _ _ _ _ ⟨#[_,_,_,_,_,_,_,_,_,_,_,_,_,_,_,_,_,_,_,_,_,_,_,_,_,_,_,_,_,_,_,_,_,_,_,_,_,_,_,_,_,_,.slice (some ⟨b,o,none⟩) n c,_,_,_,_,_,_,_,_,_,_,_,_,_,_,_,_,_,_,_,_,_,_,_,_,_,_],[]⟩ _)
  ·intro u hu
   go_simp
  refine HT.take 1 (.int .i64 m) rfl (by kernel_rfl) (fun _ _ _ h=>h) (Or.inl ⟨by rfl,?_⟩) (?_:HT _ _ _ _ _ _ _ ⟨#[_,_,_,_,_,_,_,_,_,_,_,_,_,_,_,_,_,_,_,_,_,_,_,_,_,_,_,_,_,_,_,_,_,_,_,_,_,_,_,_,_,_,.slice (some ⟨b,o,none⟩) n c,.int .i64 m,_,_,_,_,_,_,_,_,_,_,_,_,_,_,_,_,_,_,_,_,_,_,_,_,_],[]⟩ _)
  ·intro u hu
   go_simp
  refine HT.take 2 (.int .i64 m) rfl (by kernel_rfl) (fun _ _ _ h=>h) (Or.inl ⟨by rfl,?_⟩) (?_:HT _ _ _ _ _ _ _ ⟨#[_,_,_,_,_,_,_,_,_,_,_,_,_,_,_,_,_,_,_,_,_,_,_,_,_,_,_,_,_,_,_,_,_,_,_,_,_,_,_,_,_,_,.slice (some ⟨b,o,none⟩) n c,.int .i64 m,.int .i64 m,_,_,_,_,_,_,_,_,_,_,_,_,_,_,_,_,_,_,_,_,_,_,_,_],[]⟩ _)
  ·intro u hu
   go_simp
  refine HT.take 3 (.int .i64 ((m+4:Nat):Int)) rfl (by kernel_rfl) (fun _ _ _ h=>h) (Or.inl ⟨by rfl,?_⟩) (?_:HT _ _ _ _ _ _ _ ⟨#[_,_,_,_,_,_,_,_,_,_,_,_,_,_,_,_,_,_,_,_,_,_,_,_,_,_,_,_,_,_,_,_,_,_,_,_,_,_,_,_,_,_,.slice (some ⟨b,o,none⟩) n c,.int .i64 m,.int .i64 m,.int .i64 ((m+4:Nat):Int),_,_,_,_,_,_,_,_,_,_,_,_,_,_,_,_,_,_,_,_,_,_,_],[]⟩ _)
  ·intro u hu
   go_simp
   exact IntWalk.i64_in _ (by omega)
  refine HT.take 4 (.slice (some ⟨b,o+m,none⟩) 4 (c - m)) rfl (by kernel_rfl) (fun _ _ _ h=>h) (Or.inl ⟨by rfl,?_⟩) (?_:HT _ _ _ _ _ _ _ ⟨#[_,_,_,_,_,_,_,_,_,_,_,_,_,_,_,_,_,_,_,_,_,_,_,_,_,_,_,_,_,_,_,_,_,_,_,_,_,_,_,_,_,_,.slice (some ⟨b,o,none⟩) n c,.int .i64 m,.int .i64 m,.int .i64 ((m+4:Nat):Int),.slice (some ⟨b,o+m,none⟩) 4 (c - m),_,_,_,_,_,_,_,_,_,_,_,_,_,_,_,_,_,_,_,_,_,_],[]⟩ _)
  ·intro u hu
   have a1:¬ c=m:=by omega
   have a2:m+4≤c:=by omega
   have a3:((m:Int)+4)≤c:=by omega
   have a4:m≤((m:Int)+4).toNat:=by omega
   have a5:((m:Int)+4).toNat - m=4:=by omega
   have a6:0≤(m:Int)+4:=by omega
   go_simp
  refine HT.take 6 (.slice (some ⟨b,o,none⟩) n c) rfl (by kernel_rfl) (fun _ _ _ h=>h) (Or.inl ⟨by rfl,?_⟩) (?_:HT _ _ _ _ _ _ _ ⟨#[_,_,_,_,_,_,_,_,_,_,_,_,_,_,_,_,_,_,_,_,_,_,_,_,_,_,_,_,_,_,_,_,_,_,_,_,_,_,_,_,_,_,.slice (some ⟨b,o,none⟩) n c,.int .i64 m,.int .i64 m,.int .i64 ((m+4:Nat):Int),.slice (some ⟨b,o+m,none⟩) 4 (c - m),_,.slice (some ⟨b,o,none⟩) n c,_,_,_,_,_,_,_,_,_,_,_,_,_,_,_,_,_,_,_,_],[]⟩ _)
  ·intro u hu
   go_simp
  refine HT.take 7 (.int .i64 m) rfl (by kernel_rfl) (fun _ _ _ h=>h) (Or.inl ⟨by rfl,?_⟩) (?_:HT _ _ _ _ _ _ _ ⟨#[_,_,_,_,_,_,_,_,_,_,_,_,_,_,_,_,_,_,_,_,_,_,_,_,_,_,_,_,_,_,_,_,_,_,_,_,_,_,_,_,_,_,.slice (some ⟨b,o,none⟩) n c,.int .i64 m,.int .i64 m,.int .i64 ((m+4:Nat):Int),.slice (some ⟨b,o+m,none⟩) 4 (c - m),_,.slice (some ⟨b,o,none⟩) n c,.int .i64 m,_,_,_,_,_,_,_,_,_,_,_,_,_,_,_,_,_,_,_],[]⟩ _)
  ·intro u hu
   go_simp
  refine HT.take 8 (.slice (some ⟨b,o,none⟩) m c) rfl (by kernel_rfl) (fun _ _ _ h=>h) (Or.inl ⟨by rfl,?_⟩) (?_:HT _ _ _ _ _ _ _ ⟨#[_,_,_,_,_,_,_,_,_,_,_,_,_,_,_,_,_,_,_,_,_,_,_,_,_,_,_,_,_,_,_,_,_,_,_,_,_,_,_,_,_,_,.slice (some ⟨b,o,none⟩) n c,.int .i64 m,.int .i64 m,.int .i64 ((m+4:Nat):Int),.slice (some ⟨b,o+m,none⟩) 4 (c - m),_,.slice (some ⟨b,o,none⟩) n c,.int .i64 m,.slice (some ⟨b,o,none⟩) m c,_,_,_,_,_,_,_,_,_,_,_,_,_,_,_,_,_,_],[]⟩ _)
  ·intro u hu
   have a1:m≤c:=by omega
   have a2:¬ c < m:=by omega
   go_simp
  refine HT.step 5 rfl (by kernel_rfl) (fun hS K hK=>?_)
  go_simp
  refine (HGV.out _ hS).mono ?_
  rintro e w15 ⟨rfl,rfl⟩
  refine hK.out _ _ hS ?_
  clear hK hS
  refine HT.step 9 rfl (by kernel_rfl) (fun hS K hK=>?_)
  go_simp
  refine (HSM.out _ hS).mono ?_
  rintro e w15 ⟨rfl,hb15⟩
  refine hK.out _ _ (below_then hS.size hS hb15) ?_
  clear hK hb15 hS
  refine HT.tail _ rfl rfl (by kernel_rfl) (fun hS=>?_)
  have HB15:=Lib.hid hS
  clear hS hS0
  go_wp2_with fail
  refine NoPanic.normal ?_
  have HK15:=Lib.hid (HK.out.below HB15.out)
  have HB16:=Lib.hid (below_then HB.out.size HB.out HB15.out)
  by_cases hVS:V=SM
  rotate_left
  ·have hG:G=(R.Rc.zero,0,100):=by
    rw[HGG.out]
    unfold R.dec
    rw[if_neg h0,if_neg hne,if_neg h3,HNN.out,if_neg h4,if_neg (by rw[HN1.out];exact h5),show N+11=m by have:=HM.out;omega,HV.out,HSS.out,if_pos hVS]
   have hVb:((V:Int) != (SM:Int))=true:=bne_iff_ne.2 (fun h=>hVS (Int.ofNat.inj h))
   obtain⟨f0,f1,f2,f3⟩:=HK15.out.free4
   obtain⟨q0,q1,q2,q3⟩:=HK15.out.cells4
   go_wp2
   clear f0 f1 f2 f3 q0 q1 q2 q3
   obtain⟨z0,z1,z2,z3⟩:=(HK15.out.set4 (.int .i64 0) (.int .i64 0) (.int .i64 0) (.string ⟨#[]⟩)).cells4
   (try simp only[Exit.inBlock,Exit.then])
   refine bodyPost_ret (v:=.tuple #[recV R.Rc.zero,.int .i64 0,.int .i64 100]) (by simp [results,Tryz.results120,go_sem,z0,z1,z2,z3,recV,R.Rc.zero]) rfl ?_
   rw[hG]
   exact⟨rfl,below_four HB16.out (Nat.le_refl _) _ _ _ _⟩
  subst hVS
  have hVb:((V:Int) != (V:Int))=false:=by simp
  go_upto_region 15 with fail
  have hS0:Below w15.heap.size w15 w15.drew:=(Below.refl _ _).drew
  obtain⟨SQ,hSQ⟩:∃ SQ,O.val (((x::l).drop 3).take 4)=SQ:=⟨_,rfl⟩
  obtain⟨NO,hNO⟩:∃ NO,O.val (((x::l).drop 7).take 4)=NO:=⟨_,rfl⟩
  obtain⟨ID,hID⟩:∃ ID,B (((x::l).drop 11).take N)=ID:=⟨_,rfl⟩
  have hxn:(x::l).length=n:=HN1.out
  have hmN:11+N=m:=HM.out
  have hl3:(((x::l).drop 3).take 4).length=4:=by rw[List.length_take,List.length_drop];omega
  have hl7:(((x::l).drop 7).take 4).length=4:=by rw[List.length_take,List.length_drop];omega
  have hl11:(((x::l).drop 11).take N).length=N:=by rw[List.length_take,List.length_drop];omega
  have hSQlt:SQ < 4294967296:=by
   rw[← hSQ]
   have:=O.val_lt (((x::l).drop 3).take 4)
   rw[hl3]at this
   exact this
  have hNOlt:NO < 4294967296:=by
   rw[← hNO]
   have:=O.val_lt (((x::l).drop 7).take 4)
   rw[hl7]at this
   exact this
  have hw3:wrap64 (SQ:Int)=SQ:=by
   unfold wrap64
   omega
  have hw7:wrap64 (NO:Int)=NO:=by
   unfold wrap64
   omega
  have HG3:=Lib.hid (fun (u:World) (hu:Below w15.heap.size w15 u)=>get_be (some ⟨b,o+3,none⟩) (c - 3) (((x::l).drop 3).take 4) u (by omega) (by rw[hl3];exact ((HX.out.below (below_then HB16.out.size HB16.out hu)).from_ (k:=3) (by omega)).upto (by omega)))
  rw[hSQ,hl3,hw3]at HG3
  have HG7:=Lib.hid (fun (u:World) (hu:Below w15.heap.size w15 u)=>get_be (some ⟨b,o+7,none⟩) (c - 7) (((x::l).drop 7).take 4) u (by omega) (by rw[hl7];exact ((HX.out.below (below_then HB16.out.size HB16.out hu)).from_ (k:=7) (by omega)).upto (by omega)))
  rw[hNO,hl7,hw7]at HG7
  have HCV:=Lib.hid (fun (u:World) (hu:Below w15.heap.size w15 u)=>conv_bs (l:=((x::l).drop 11).take N) (((HX.out.below (below_then HB16.out.size HB16.out hu)).from_ (k:=11) (by omega)).upto (show N≤n - 11 by omega)) (c - 11))
  rw[hID]at HCV
  have HGF:Hid (G=(⟨(SQ:Nat),op,(NO:Nat),ID⟩,N+15,0)):=Lib.hid (by
   rw[HGG.out]
   unfold R.dec
   rw[if_neg h0,if_neg hne,if_neg h3,HNN.out,if_neg h4,if_neg (by rw[HN1.out];exact h5),show N+11=m by omega,HV.out,HSS.out,if_neg (by simp),hSQ,hNO,hID,List.headD_cons,hopx])
  clear hSQ hNO hID hxn hmN hl3 hl7 hl11 hw3 hw7 hSQlt hNOlt HV HSS hVlt HGV HSM
  rw[hVb]
  refine wp_region_noPanic ?_
  refine HT.begin (n:=13) (S:=(fun u=>Below w15.heap.size w15 u)) (by kernel_rfl) hS0 ?_
  generalize w15.drew=wd at *
  refine HT.take 0 (.int .i64 op) rfl (by kernel_rfl) (fun _ _ _ h=>h) (Or.inl ⟨by rfl,?_⟩) (?_:HT _ _ _ _ _ _ _ ⟨#[_,_,_,_,_,_,_,_,_,_,_,_,_,_,_,_,_,_,_,_,_,_,_,_,_,_,_,_,_,_,_,_,_,_,_,_,_,_,_,_,_,_,_,_,_,_,_,_,_,_,_,_,_,_,.int .i64 op,_,_,_,_,_,_,_,_,_,_,_,_,_,_],[]⟩ _)
  ·intro u hu
   go_simp
  refine HT.take 1 (.slice (some ⟨b,o,none⟩) n c) rfl (by kernel_rfl) (fun _ _ _ h=>h) (Or.inl ⟨by rfl,?_⟩) (?_:HT _ _ _ _ _ _ _ ⟨#[_,_,_,_,_,_,_,_,_,_,_,_,_,_,_,_,_,_,_,_,_,_,_,_,_,_,_,_,_,_,_,_,_,_,_,_,_,_,_,_,_,_,_,_,_,_,_,_,_,_,_,_,_,_,.int .i64 op,.slice (some ⟨b,o,none⟩) n c,_,_,_,_,_,_,_,_,_,_,_,_,_],[]⟩ _)
  ·intro u hu
   go_simp
  refine HT.take 2 (.slice (some ⟨b,o+3,none⟩) 4 (c - 3)) rfl (by kernel_rfl) (fun _ _ _ h=>h) (Or.inl ⟨by rfl,?_⟩) (?_:HT _ _ _ _ _ _ _ ⟨#[_,_,_,_,_,_,_,_,_,_,_,_,_,_,_,_,_,_,_,_,_,_,_,_,_,_,_,_,_,_,_,_,_,_,_,_,_,_,_,_,_,_,_,_,_,_,_,_,_,_,_,_,_,_,.int .i64 op,.slice (some ⟨b,o,none⟩) n c,.slice (some ⟨b,o+3,none⟩) 4 (c - 3),_,_,_,_,_,_,_,_,_,_,_,_],[]⟩ _)
  ·intro u hu
   have a1:¬ c=3:=by omega
   have a2:7≤c:=by omega
   have a3:¬ (c:Int) < 7:=by omega
   have a4:(7:Int)≤c:=by omega
   go_simp
  refine HT.take 4 (.slice (some ⟨b,o,none⟩) n c) rfl (by kernel_rfl) (fun _ _ _ h=>h) (Or.inl ⟨by rfl,?_⟩) (?_:HT _ _ _ _ _ _ _ ⟨#[_,_,_,_,_,_,_,_,_,_,_,_,_,_,_,_,_,_,_,_,_,_,_,_,_,_,_,_,_,_,_,_,_,_,_,_,_,_,_,_,_,_,_,_,_,_,_,_,_,_,_,_,_,_,.int .i64 op,.slice (some ⟨b,o,none⟩) n c,.slice (some ⟨b,o+3,none⟩) 4 (c - 3),_,.slice (some ⟨b,o,none⟩) n c,_,_,_,_,_,_,_,_,_,_],[]⟩ _)
  ·intro u hu
   go_simp
  refine HT.take 5 (.slice (some ⟨b,o+7,none⟩) 4 (c - 7)) rfl (by kernel_rfl) (fun _ _ _ h=>h) (Or.inl ⟨by rfl,?_⟩) (?_:HT _ _ _ _ _ _ _ ⟨#[_,_,_,_,_,_,_,_,_,_,_,_,_,_,_,_,_,_,_,_,_,_,_,_,_,_,_,_,_,_,_,_,_,_,_,_,_,_,_,_,_,_,_,_,_,_,_,_,_,_,_,_,_,_,.int .i64 op,.slice (some ⟨b,o,none⟩) n c,.slice (some ⟨b,o+3,none⟩) 4 (c - 3),_,.slice (some ⟨b,o,none⟩) n c,.slice (some ⟨b,o+7,none⟩) 4 (c - 7),_,_,_,_,_,_,_,_,_],[]⟩ _)
  ·intro u hu
   have a1:¬ c=7:=by omega
   have a2:11≤c:=by omega
   have a3:¬ (c:Int) < 11:=by omega
   have a4:(11:Int)≤c:=by omega
   go_simp
  refine HT.take 7 (.slice (some ⟨b,o,none⟩) n c) rfl (by kernel_rfl) (fun _ _ _ h=>h) (Or.inl ⟨by rfl,?_⟩) (?_:HT _ _ _ _ _ _ _ ⟨#[_,_,_,_,_,_,_,_,_,_,_,_,_,_,_,_,_,_,_,_,_,_,_,_,_,_,_,_,_,_,_,_,_,_,_,_,_,_,_,_,_,_,_,_,_,_,_,_,_,_,_,_,_,_,.int .i64 op,.slice (some ⟨b,o,none⟩) n c,.slice (some ⟨b,o+3,none⟩) 4 (c - 3),_,.slice (some ⟨b,o,none⟩) n c,.slice (some ⟨b,o+7,none⟩) 4 (c - 7),_,.slice (some ⟨b,o,none⟩) n c,_,_,_,_,_,_,_],[]⟩ _)
  ·intro u hu
   go_simp
  refine HT.take 8 (.int .i64 m) rfl (by kernel_rfl) (fun _ _ _ h=>h) (Or.inl ⟨by rfl,?_⟩) (?_:HT _ _ _ _ _ _ _ ⟨#[_,_,_,_,_,_,_,_,_,_,_,_,_,_,_,_,_,_,_,_,_,_,_,_,_,_,_,_,_,_,_,_,_,_,_,_,_,_,_,_,_,_,_,_,_,_,_,_,_,_,_,_,_,_,.int .i64 op,.slice (some ⟨b,o,none⟩) n c,.slice (some ⟨b,o+3,none⟩) 4 (c - 3),_,.slice (some ⟨b,o,none⟩) n c,.slice (some ⟨b,o+7,none⟩) 4 (c - 7),_,.slice (some ⟨b,o,none⟩) n c,.int .i64 m,_,_,_,_,_,_],[]⟩ _)
  ·intro u hu
   go_simp
  refine HT.take 9 (.slice (some ⟨b,o+11,none⟩) N (c - 11)) rfl (by kernel_rfl) (fun _ _ _ h=>h) (Or.inl ⟨by rfl,?_⟩) (?_:HT _ _ _ _ _ _ _ ⟨#[_,_,_,_,_,_,_,_,_,_,_,_,_,_,_,_,_,_,_,_,_,_,_,_,_,_,_,_,_,_,_,_,_,_,_,_,_,_,_,_,_,_,_,_,_,_,_,_,_,_,_,_,_,_,.int .i64 op,.slice (some ⟨b,o,none⟩) n c,.slice (some ⟨b,o+3,none⟩) 4 (c - 3),_,.slice (some ⟨b,o,none⟩) n c,.slice (some ⟨b,o+7,none⟩) 4 (c - 7),_,.slice (some ⟨b,o,none⟩) n c,.int .i64 m,.slice (some ⟨b,o+11,none⟩) N (c - 11),_,_,_,_,_],[]⟩ _)
  ·intro u hu
   have a1:¬ c=11:=by omega
   have a2:m≤c:=by omega
   have a3:11≤m:=by have:=HM.out;omega
   have a4:m - 11=N:=by have:=HM.out;omega
   have a5:(11:Int)≤m:=by omega
   have a6:(m:Int)≤c:=by omega
   go_simp
  refine HT.take 10 (.string ID) rfl (by kernel_rfl) (fun _ _ _ h=>h) (Or.inl ⟨by rfl,?_⟩) (?_:HT _ _ _ _ _ _ _ ⟨#[_,_,_,_,_,_,_,_,_,_,_,_,_,_,_,_,_,_,_,_,_,_,_,_,_,_,_,_,_,_,_,_,_,_,_,_,_,_,_,_,_,_,_,_,_,_,_,_,_,_,_,_,_,_,.int .i64 op,.slice (some ⟨b,o,none⟩) n c,.slice (some ⟨b,o+3,none⟩) 4 (c - 3),_,.slice (some ⟨b,o,none⟩) n c,.slice (some ⟨b,o+7,none⟩) 4 (c - 7),_,.slice (some ⟨b,o,none⟩) n c,.int .i64 m,.slice (some ⟨b,o+11,none⟩) N (c - 11),.string ID,_,_,_,_],[]⟩ _)
  ·intro u hu
   have hcv:=HCV.out _ hu
   go_simp
  refine HT.blockP (f0:=1) [3,6,12] [11] (fun j v u=>match j with | 3=>v=.int .i64 SQ | 6=>v=.int .i64 NO | 12=>PtrBlk w15.heap.size #[.int .i64 0,.int .i64 0,.int .i64 0,.string ⟨#[]⟩] 89 v u | 11=>v=.agg #[.int .i64 SQ,.int .i64 op,.int .i64 NO,.string ID] | _=>True) (fun vs=>⟨#[_,_,_,_,_,_,_,vs 12,_,_,_,_,_,_,_,_,_,_,_,_,_,_,_,_,_,_,_,_,_,_,_,_,_,_,_,_,_,_,_,_,_,_,_,_,_,_,_,_,_,_,_,_,_,_,.int .i64 op,.slice (some ⟨b,o,none⟩) n c,.slice (some ⟨b,o+3,none⟩) 4 (c - 3),vs 3,.slice (some ⟨b,o,none⟩) n c,.slice (some ⟨b,o+7,none⟩) 4 (c - 7),vs 6,.slice (some ⟨b,o,none⟩) n c,.int .i64 m,.slice (some ⟨b,o+11,none⟩) N (c - 11),.string ID,vs 11,_,_,_],[]⟩) (fun _=>rfl) (by kernel_rfl) (fun _ _ _ _ _ _ _ h=>h) (fun u u' hb h=>below_then h.size h hb) (fun j v u u' hb h=>by revert h;split<;>intro h<;>first | exact h | exact PtrBlk.below h hb | trivial) (List.forall_mem_cons.2 ⟨⟨_,rfl,?_⟩,List.forall_mem_cons.2 ⟨⟨_,rfl,?_⟩,List.forall_mem_cons.2 ⟨⟨_,rfl,?_⟩,fun _ h=>by cases h⟩⟩⟩) (List.forall_mem_cons.2 ⟨⟨_,rfl,?_⟩,fun _ h=>by cases h⟩) ?_
  ·intro vs u hS hd K hK
   go_simp
   refine (HG3.out u hS).mono ?_
   rintro e w5 ⟨rfl,rfl⟩
   exact hK.out (.int .i64 SQ) _ rfl (Below.refl _ _)
  ·intro vs u hS hd K hK
   go_simp
   refine (HG7.out u hS).mono ?_
   rintro e w5 ⟨rfl,rfl⟩
   exact hK.out (.int .i64 NO) _ rfl (Below.refl _ _)
  ·intro vs u hS hd K hK
   go_simp
   exact hK.out (.pointer (some ⟨u.heap.size,0,none⟩)) _ ⟨_,rfl,hS.size,Blk.new u _ _⟩ ((Below.refl _ _).alloc (Nat.le_refl _) _)
  ·intro vs u hS hd
   have e3:vs 3=.int .i64 SQ:=hd 3 (by simp) (by kernel_rfl)
   have e6:vs 6=.int .i64 NO:=hd 6 (by simp) (by kernel_rfl)
   refine⟨.agg #[.int .i64 SQ,.int .i64 op,.int .i64 NO,.string ID],rfl,Or.inl ⟨by rfl,?_⟩⟩
   intro u2 hu2
   go_simp
  intro vs u hS hR
  have hv57:=hR 3 (by simp)
  generalize vs 3=v57 at *
  have hv60:=hR 6 (by simp)
  generalize vs 6=v60 at *
  have hv7:=hR 12 (by simp)
  generalize vs 12=v7 at *
  have hv65:=hR 11 (by simp)
  generalize vs 11=v65 at *
  clear hR
  refine (?_:HT _ _ _ _ _ _ _ ⟨#[_,_,_,_,_,_,_,v7,_,_,_,_,_,_,_,_,_,_,_,_,_,_,_,_,_,_,_,_,_,_,_,_,_,_,_,_,_,_,_,_,_,_,_,_,_,_,_,_,_,_,_,_,_,_,.int .i64 op,.slice (some ⟨b,o,none⟩) n c,.slice (some ⟨b,o+3,none⟩) 4 (c - 3),v57,.slice (some ⟨b,o,none⟩) n c,.slice (some ⟨b,o+7,none⟩) 4 (c - 7),v60,.slice (some ⟨b,o,none⟩) n c,.int .i64 m,.slice (some ⟨b,o+11,none⟩) N (c - 11),.string ID,v65,_,_,_],[]⟩ _)
  obtain rfl:v57=.int .i64 SQ:=hv57
  obtain rfl:v60=.int .i64 NO:=hv60
  obtain rfl:v65=.agg #[.int .i64 SQ,.int .i64 op,.int .i64 NO,.string ID]:=hv65
  obtain⟨k7,rfl,hk7,hkb⟩:=hv7
  refine HT.tail _ rfl rfl (by kernel_rfl) (fun hS=>?_)
  have HU:=Lib.hid (below_four (below_then HB16.out.size HB16.out hS) (Nat.le_trans HB16.out.size hk7) (.int .i64 SQ) (.int .i64 op) (.int .i64 NO) (.string ID))
  have hsz:w.heap.size < w15.heap.size:=HK15.out.lt
  have HK7:=Lib.hid (hkb.set4 (.int .i64 SQ) (.int .i64 op) (.int .i64 NO) (.string ID))
  have HKO:=Lib.hid ((HK15.out.below hS).far4 (show k7≠w.heap.size by omega) (.int .i64 SQ) (.int .i64 op) (.int .i64 NO) (.string ID))
  obtain⟨q0,q1,q2,q3⟩:=hkb.cells4
  obtain⟨f0,f1,f2,f3⟩:=hkb.free4
  clear hS hS0 HG3 HG7 HCV hkb
  go_wp2_with fail
  refine NoPanic.normal ?_
  clear q0 q1 q2 q3 f0 f1 f2 f3
  obtain⟨q0,q1,q2,q3⟩:=HK7.out.cells4
  obtain⟨f0,f1,f2,f3⟩:=HKO.out.free4
  obtain⟨g0,g1,g2,g3⟩:=HKO.out.cells4
  have HZ:=Lib.hid (HKO.out.set4 (.int .i64 SQ) (.int .i64 op) (.int .i64 NO) (.string ID))
  have HV:=Lib.hid (below_four HU.out (Nat.le_refl _) (.int .i64 SQ) (.int .i64 op) (.int .i64 NO) (.string ID))
  go_wp2
  clear q0 q1 q2 q3 f0 f1 f2 f3 g0 g1 g2 g3
  obtain⟨z0,z1,z2,z3⟩:=HZ.out.cells4
  (try simp only[Exit.inBlock,Exit.then])
  refine bodyPost_ret (v:=.tuple #[recV ⟨SQ,op,NO,ID⟩,.int .i64 ((N+15:Nat):Int),.int .i64 0]) (by simp [results,Tryz.results120,go_sem,z0,z1,z2,z3,recV];have:=HM.out;omega) rfl ?_
  rw[HGF.out]
  exact⟨rfl,HV.out⟩
end Go.Proofs.YtkempjcphpnocaaGreatDoor
