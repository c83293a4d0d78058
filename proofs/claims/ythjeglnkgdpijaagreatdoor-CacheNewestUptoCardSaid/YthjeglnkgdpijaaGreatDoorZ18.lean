/- The walk of the disk's Append (printed by gen/disk3.py). Conditions: names, files and data of at most 2^40 bytes, at most 2^40 steps, names, files; the sum of the sizes within 2^60. The walks of rec's word and Encode. Conditions: an Id of at most 2^31 bytes. -/
import Derived.Test.YthjeglnkgdpijaaGreatDoorZ15
set_option maxHeartbeats 4000000
set_option maxRecDepth 100000
namespace Go.Proofs.YthjeglnkgdpijaaGreatDoor
open Go Go.RowKit Go.Maps
theorem append_any (B:Nat) (M:DM) (s:D.Dsk) (nm:ByteArray) (A:Option Addr) (n c:Nat) (l:List UInt8) (w:World) (h:DkAt B M s w) (hs:s.Sml) (ok:s.Ok) (hu:s.used≤1152921504606846976) (hrm:0≤s.room∧s.room≤1152921504606846976) (hn:nm.size≤1099511627776)
  (hl:l.length=n) (hln:n≤1099511627776) (hx:Rd w A n 1 (bcells l)) (hA:0 < n→∀ a,A=some a→¬ M.foot s a.block) :
  Calls Tryz.prog 105 #[.pointer (some ⟨M.d,0,none⟩),.string nm,.slice A n c] w (RetStep B M s w (s.append nm l)):=by
 have HON:=Lib.hid (on_any B M s nm none 0 0 0 [] w (fun u hg=>h.below (grown_below hg)) ⟨hs.n0,hs.n⟩ hs.fails (by omega) rfl (fun x hx=>by rw[List.mem_singleton.1 hx];exact hn) (Row.none_ _ _ _ _) (Nat.zero_le _))
 obtain⟨G,hG⟩:∃ G,s.append nm l=G:=⟨_,rfl⟩
 have HG:Hid (G=match s.look nm [] with | (s1,_,some no)=>(if 0 < l.length∧s1.room < (s1.used:Int)+l.length then (s1,92) else (s1.wrote no l,0)) | (s1,e,none)=>(s1,e)):=Lib.hid (by rw[← hG];exact D.Dsk.on_look ..)
 rw[hG]
 have HX:=Lib.hid hx
 have HA:=Lib.hid hA
 clear hG h hx hA
 go_enter Tryz.func105,Tryz.ntmps105
 go_wp2_with fail
 refine HON.out.mono ?_
 rintro e w2 ⟨rfl,u,hg,hd2,hs2⟩
 have hst:=(Stepped.below (grown_below hg):Stepped M s w M s u).trans hs2
 have HX2:=Lib.hid (hst.rd HX.out HA.out)
 have HS2:=Lib.hid hst
 clear hg hs2 HON HX HA hst
 rcases s.look_or nm [] with ⟨k,e,hlk,he⟩ | ⟨k,no,hlk,hf⟩
 ·rw[hlk]at hd2 HS2 HG
  rw[hlk]
  have HD2:=Lib.hid hd2
  have heb:(e==0)=false:=beq_eq_false_iff_ne.2 he
  clear hd2 hlk
  go_wp2
  go_ret
  exact⟨by rw[HG.out];rfl,M,by rw[HG.out];exact HD2.out,by rw[HG.out];exact HS2.out⟩
 rw[hlk]at hd2 HS2 HG
 rw[hlk]
 have hno:=D.find_lt ok hf
 have okn:({ s with n:=k }:D.Dsk).Ok:=⟨ok.lens,ok.upN,ok.upS,ok.inN,ok.inS,ok.inP,ok.fold,ok.firms⟩
 have hsz:=hs.size no
 have HG2:Hid (G=if 0 < l.length∧s.room < (s.used:Int)+l.length then (({ s with n:=k }:D.Dsk),(92:Int)) else (({ s with n:=k }:D.Dsk).wrote no l,0)):=HG
 clear HG hlk hf
 dsimp only[D.ptrOf]
 have hss:∀ no,({ s with n:=k }:D.Dsk).size no≤1099511627776:=hs.size
 have hno2:no < ({ s with n:=k }:D.Dsk).data.length:=hno
 have hsz2:({ s with n:=k }:D.Dsk).size no≤1099511627776:=hs.size no
 have hu2:({ s with n:=k }:D.Dsk).used≤1152921504606846976:=hu
 have HG3:Hid (G=if 0 < l.length∧({ s with n:=k }:D.Dsk).room < ((({ s with n:=k }:D.Dsk).used:Nat):Int)+l.length then (({ s with n:=k }:D.Dsk),(92:Int)) else (({ s with n:=k }:D.Dsk).wrote no l,0)):=HG2
 have hrm2:0≤({ s with n:=k }:D.Dsk).room∧({ s with n:=k }:D.Dsk).room≤1152921504606846976:=hrm
 clear HG2 hsz hno hu hrm
 generalize ({ s with n:=k }:D.Dsk)=T at *
 have HD2:=Lib.hid hd2
 have HOK:=Lib.hid okn
 have HSS:=Lib.hid hss
 clear hd2 okn hss
 by_cases h0:n=0
 ·have hl0:l=[]:=List.eq_nil_of_length_eq_zero (by omega)
  subst hl0
  subst h0
  rw[if_neg (by simp)]at HG3
  go_upto_region 4 with fail
  go_region
  have HD3:=Lib.hid (HD2.out.below (Below.refl _ _).drew)
  have HS3:Hid (Stepped M s w M T w2.drew):=Lib.hid (HS2.out.trans (Stepped.below (Below.refl _ _).drew))
  have HX3:Hid (Rd w2.drew A 0 1 (bcells [])):=Lib.hid HX2.out.drew
  clear HD2 HS2 HX2
  generalize w2.drew=w3 at *
  have z1:w3.cell? ⟨M.fa no,1,none⟩=some (.slice (M.da no) (T.size no) (M.dc no)):=(HD3.out.files no hno2).blk.cell 1 rfl
  have hB3:B≤w3.heap.size:=HD3.out.base
  go_wp2_with (at_builtin;refine appB _ rfl _ _ rfl B (M.da no) (T.size no) (M.dc no) (T.data.getD no []) rfl (HD3.out.files no hno2).row _ 0 _ [] rfl HX3.out (by omega) hB3 ?_;intro A1 c1 w4 hr4 ha4;have hF4:=(HD3.out.files no hno2).blk.keptG ha4.grown (fun e=>((HD3.out.files no hno2).row.tag e).ne (HD3.out.files no hno2).blk.tag (by decide) rfl);have f4:=hF4.free 1;have g4:w4.cell? ⟨M.fa no,1,none⟩=some (.slice (M.da no) (T.size no) (M.dc no)):=hF4.cell 1 rfl)
  go_ret
  exact⟨by rw[HG3.out];rfl,_,by rw[HG3.out];exact HD3.out.wrote hno2 ha4 hr4,by rw[HG3.out];exact HS3.out.trans (Stepped.wrote hno2 ha4)⟩
 have hnp:0 < n:=Nat.pos_of_ne_zero h0
 have hnpi:(n:Int) > 0:=by omega
 have hS0:DkAt B M T w2.drew∧Below w2.heap.size w2 w2.drew:=⟨HD2.out.below (Below.refl _ _).drew,(Below.refl _ _).drew⟩
 have hsum:((T.used:Int)+n)≤4611686018427387904:=by omega
 have hwr:IntKind.i64.wrap ((T.used:Int)+n)=(T.used:Int)+n:=by rw[IntKind.wrap_i64];omega
 by_cases hfull:T.room < (T.used:Int)+n
 ·rw[if_pos (by rw[hl];exact⟨hnp,hfull⟩)]at HG3
  have hfi:((T.used:Int)+n > T.room):=by omega
  go_upto_region 4 with fail
  refine wp_region_noPanic ?_
  refine HT.begin (n:=14) (S:=(fun u=>DkAt B M T u∧Below w2.heap.size w2 u)) (by kernel_rfl) hS0 ?_
  generalize w2.drew=wd at *
  refine HT.take 0 (.slice A n c) rfl (by kernel_rfl) (fun _ _ _ h=>h) (Or.inl ⟨by rfl,?_⟩) (?_:HT _ _ _ _ _ _ _ ⟨#[_,_,_,_,_,_,_,_,_,_,_,_,_,_,_,_,_,_,.slice A n c,_,_,_,_,_,_,_,_,_,_,_,_,_,_,_,_,_,_,_,_,_,_,_],[]⟩ _)
  ·intro u hu
   go_simp
  refine HT.take 1 (.int .i64 n) rfl (by kernel_rfl) (fun _ _ _ h=>h) (Or.inl ⟨by rfl,?_⟩) (?_:HT _ _ _ _ _ _ _ ⟨#[_,_,_,_,_,_,_,_,_,_,_,_,_,_,_,_,_,_,.slice A n c,.int .i64 n,_,_,_,_,_,_,_,_,_,_,_,_,_,_,_,_,_,_,_,_,_,_],[]⟩ _)
  ·intro u hu
   go_simp
  refine HT.take 2 (.bool true) rfl (by kernel_rfl) (fun _ _ _ h=>h) (Or.inl ⟨by rfl,?_⟩) (?_:HT _ _ _ _ _ _ _ ⟨#[_,_,_,_,_,_,_,_,_,_,_,_,_,_,_,_,_,_,.slice A n c,.int .i64 n,.bool true,_,_,_,_,_,_,_,_,_,_,_,_,_,_,_,_,_,_,_,_,_],[]⟩ _)
  ·intro u hu
   go_simp
  refine HT.take 3 (.bool true) rfl (by kernel_rfl) (fun _ _ _ h=>h) (Or.inl ⟨by rfl,?_⟩) (?_:HT _ _ _ _ _ _ _ ⟨#[_,_,_,_,_,_,_,_,_,_,_,_,_,_,_,_,_,_,.slice A n c,.int .i64 n,.bool true,.bool true,_,_,_,_,_,_,_,_,_,_,_,_,_,_,_,_,_,_,_,_],[]⟩ _)
  ·intro u hu
   go_simp
  refine HT.take 4 (.pointer (some ⟨M.d,0,none⟩)) rfl (by kernel_rfl) (fun _ _ _ h=>h) (Or.inl ⟨by rfl,?_⟩) (?_:HT _ _ _ _ _ _ _ ⟨#[_,_,_,_,_,_,_,_,_,_,_,_,_,_,_,_,_,_,.slice A n c,.int .i64 n,.bool true,.bool true,.pointer (some ⟨M.d,0,none⟩),_,_,_,_,_,_,_,_,_,_,_,_,_,_,_,_,_,_,_],[]⟩ _)
  ·intro u hu
   go_simp
  refine HT.take 6 (.slice A n c) rfl (by kernel_rfl) (fun _ _ _ h=>h) (Or.inl ⟨by rfl,?_⟩) (?_:HT _ _ _ _ _ _ _ ⟨#[_,_,_,_,_,_,_,_,_,_,_,_,_,_,_,_,_,_,.slice A n c,.int .i64 n,.bool true,.bool true,.pointer (some ⟨M.d,0,none⟩),_,.slice A n c,_,_,_,_,_,_,_,_,_,_,_,_,_,_,_,_,_],[]⟩ _)
  ·intro u hu
   go_simp
  refine HT.take 7 (.int .i64 n) rfl (by kernel_rfl) (fun _ _ _ h=>h) (Or.inl ⟨by rfl,?_⟩) (?_:HT _ _ _ _ _ _ _ ⟨#[_,_,_,_,_,_,_,_,_,_,_,_,_,_,_,_,_,_,.slice A n c,.int .i64 n,.bool true,.bool true,.pointer (some ⟨M.d,0,none⟩),_,.slice A n c,.int .i64 n,_,_,_,_,_,_,_,_,_,_,_,_,_,_,_,_],[]⟩ _)
  ·intro u hu
   go_simp
  refine HT.take 9 (.pointer (some ⟨M.d,0,none⟩)) rfl (by kernel_rfl) (fun _ _ _ h=>h) (Or.inl ⟨by rfl,?_⟩) (?_:HT _ _ _ _ _ _ _ ⟨#[_,_,_,_,_,_,_,_,_,_,_,_,_,_,_,_,_,_,.slice A n c,.int .i64 n,.bool true,.bool true,.pointer (some ⟨M.d,0,none⟩),_,.slice A n c,.int .i64 n,_,.pointer (some ⟨M.d,0,none⟩),_,_,_,_,_,_,_,_,_,_,_,_,_,_],[]⟩ _)
  ·intro u hu
   go_simp
  refine HT.take 10 (.pointer (some ⟨M.d,0,none⟩)) rfl (by kernel_rfl) (fun _ _ _ h=>h) (Or.inl ⟨by rfl,?_⟩) (?_:HT _ _ _ _ _ _ _ ⟨#[_,_,_,_,_,_,_,_,_,_,_,_,_,_,_,_,_,_,.slice A n c,.int .i64 n,.bool true,.bool true,.pointer (some ⟨M.d,0,none⟩),_,.slice A n c,.int .i64 n,_,.pointer (some ⟨M.d,0,none⟩),.pointer (some ⟨M.d,0,none⟩),_,_,_,_,_,_,_,_,_,_,_,_,_],[]⟩ _)
  ·intro u hu
   go_simp
  refine HT.take 11 (.pointer (some ⟨M.d,4,none⟩)) rfl (by kernel_rfl) (fun _ _ _ h=>h) (Or.inl ⟨by rfl,?_⟩) (?_:HT _ _ _ _ _ _ _ ⟨#[_,_,_,_,_,_,_,_,_,_,_,_,_,_,_,_,_,_,.slice A n c,.int .i64 n,.bool true,.bool true,.pointer (some ⟨M.d,0,none⟩),_,.slice A n c,.int .i64 n,_,.pointer (some ⟨M.d,0,none⟩),.pointer (some ⟨M.d,0,none⟩),.pointer (some ⟨M.d,4,none⟩),_,_,_,_,_,_,_,_,_,_,_,_],[]⟩ _)
  ·intro u hu
   go_simp
  refine HT.take 12 (.int .i64 T.room) rfl (by kernel_rfl) (fun _ _ _ h=>h) (Or.inl ⟨by rfl,?_⟩) (?_:HT _ _ _ _ _ _ _ ⟨#[_,_,_,_,_,_,_,_,_,_,_,_,_,_,_,_,_,_,.slice A n c,.int .i64 n,.bool true,.bool true,.pointer (some ⟨M.d,0,none⟩),_,.slice A n c,.int .i64 n,_,.pointer (some ⟨M.d,0,none⟩),.pointer (some ⟨M.d,0,none⟩),.pointer (some ⟨M.d,4,none⟩),.int .i64 T.room,_,_,_,_,_,_,_,_,_,_,_],[]⟩ _)
  ·intro u hu
   obtain⟨y0,y1,y2,y3,y4,y5,y6,y7⟩:=hu.1.cells
   go_simp
  refine HT.step 5 rfl (by kernel_rfl) (fun hS K hK=>?_)
  go_simp
  refine (used_any B M T _ hS.1 HSS.out HOK.out hu2).mono ?_
  rintro e w5 ⟨rfl,hb⟩
  refine hK.out _ _ ⟨hS.1.below hb,below_then hS.2.size hS.2 hb⟩ ?_
  clear hK hS hb
  refine HT.take 8 (.int .i64 ((T.used:Int)+n)) rfl (by kernel_rfl) (fun _ _ _ h=>h) (Or.inl ⟨by rfl,?_⟩) (?_:HT _ _ _ _ _ _ _ ⟨#[_,_,_,_,_,_,_,_,_,_,_,_,_,_,_,_,_,_,.slice A n c,.int .i64 n,.bool true,.bool true,.pointer (some ⟨M.d,0,none⟩),.int .i64 T.used,.slice A n c,.int .i64 n,.int .i64 ((T.used:Int)+n),.pointer (some ⟨M.d,0,none⟩),.pointer (some ⟨M.d,0,none⟩),.pointer (some ⟨M.d,4,none⟩),.int .i64 T.room,_,_,_,_,_,_,_,_,_,_,_],[]⟩ _)
  ·intro u hu
   go_simp
  refine HT.take 13 (.bool true) rfl (by kernel_rfl) (fun _ _ _ h=>h) (Or.inl ⟨by rfl,?_⟩) (?_:HT _ _ _ _ _ _ _ ⟨#[_,_,_,_,_,_,_,_,_,_,_,_,_,_,_,_,_,_,.slice A n c,.int .i64 n,.bool true,.bool true,.pointer (some ⟨M.d,0,none⟩),.int .i64 T.used,.slice A n c,.int .i64 n,.int .i64 ((T.used:Int)+n),.pointer (some ⟨M.d,0,none⟩),.pointer (some ⟨M.d,0,none⟩),.pointer (some ⟨M.d,4,none⟩),.int .i64 T.room,.bool true,_,_,_,_,_,_,_,_,_,_],[]⟩ _)
  ·intro u hu
   go_simp
  refine HT.tail _ rfl rfl (by kernel_rfl) (fun hS=>?_)
  have HD3:=Lib.hid hS.1
  have HBB:=Lib.hid hS.2
  clear hS hS0
  go_wp2
  refine NoPanic.normal ?_
  go_wp2
  go_ret
  exact⟨by rw[HG3.out];rfl,M,by rw[HG3.out];exact HD3.out,by rw[HG3.out];exact HS2.out.trans (Stepped.below HBB.out)⟩
 ·rw[if_neg (by rw[hl];exact fun h=>hfull h.2)]at HG3
  have hfi:¬ ((T.used:Int)+n > T.room):=by omega
  go_upto_region 4 with fail
  refine wp_region_noPanic ?_
  refine HT.begin (n:=14) (S:=(fun u=>DkAt B M T u∧Below w2.heap.size w2 u)) (by kernel_rfl) hS0 ?_
  generalize w2.drew=wd at *
  refine HT.take 0 (.slice A n c) rfl (by kernel_rfl) (fun _ _ _ h=>h) (Or.inl ⟨by rfl,?_⟩) (?_:HT _ _ _ _ _ _ _ ⟨#[_,_,_,_,_,_,_,_,_,_,_,_,_,_,_,_,_,_,.slice A n c,_,_,_,_,_,_,_,_,_,_,_,_,_,_,_,_,_,_,_,_,_,_,_],[]⟩ _)
  ·intro u hu
   go_simp
  refine HT.take 1 (.int .i64 n) rfl (by kernel_rfl) (fun _ _ _ h=>h) (Or.inl ⟨by rfl,?_⟩) (?_:HT _ _ _ _ _ _ _ ⟨#[_,_,_,_,_,_,_,_,_,_,_,_,_,_,_,_,_,_,.slice A n c,.int .i64 n,_,_,_,_,_,_,_,_,_,_,_,_,_,_,_,_,_,_,_,_,_,_],[]⟩ _)
  ·intro u hu
   go_simp
  refine HT.take 2 (.bool true) rfl (by kernel_rfl) (fun _ _ _ h=>h) (Or.inl ⟨by rfl,?_⟩) (?_:HT _ _ _ _ _ _ _ ⟨#[_,_,_,_,_,_,_,_,_,_,_,_,_,_,_,_,_,_,.slice A n c,.int .i64 n,.bool true,_,_,_,_,_,_,_,_,_,_,_,_,_,_,_,_,_,_,_,_,_],[]⟩ _)
  ·intro u hu
   go_simp
  refine HT.take 3 (.bool true) rfl (by kernel_rfl) (fun _ _ _ h=>h) (Or.inl ⟨by rfl,?_⟩) (?_:HT _ _ _ _ _ _ _ ⟨#[_,_,_,_,_,_,_,_,_,_,_,_,_,_,_,_,_,_,.slice A n c,.int .i64 n,.bool true,.bool true,_,_,_,_,_,_,_,_,_,_,_,_,_,_,_,_,_,_,_,_],[]⟩ _)
  ·intro u hu
   go_simp
  refine HT.take 4 (.pointer (some ⟨M.d,0,none⟩)) rfl (by kernel_rfl) (fun _ _ _ h=>h) (Or.inl ⟨by rfl,?_⟩) (?_:HT _ _ _ _ _ _ _ ⟨#[_,_,_,_,_,_,_,_,_,_,_,_,_,_,_,_,_,_,.slice A n c,.int .i64 n,.bool true,.bool true,.pointer (some ⟨M.d,0,none⟩),_,_,_,_,_,_,_,_,_,_,_,_,_,_,_,_,_,_,_],[]⟩ _)
  ·intro u hu
   go_simp
  refine HT.take 6 (.slice A n c) rfl (by kernel_rfl) (fun _ _ _ h=>h) (Or.inl ⟨by rfl,?_⟩) (?_:HT _ _ _ _ _ _ _ ⟨#[_,_,_,_,_,_,_,_,_,_,_,_,_,_,_,_,_,_,.slice A n c,.int .i64 n,.bool true,.bool true,.pointer (some ⟨M.d,0,none⟩),_,.slice A n c,_,_,_,_,_,_,_,_,_,_,_,_,_,_,_,_,_],[]⟩ _)
  ·intro u hu
   go_simp
  refine HT.take 7 (.int .i64 n) rfl (by kernel_rfl) (fun _ _ _ h=>h) (Or.inl ⟨by rfl,?_⟩) (?_:HT _ _ _ _ _ _ _ ⟨#[_,_,_,_,_,_,_,_,_,_,_,_,_,_,_,_,_,_,.slice A n c,.int .i64 n,.bool true,.bool true,.pointer (some ⟨M.d,0,none⟩),_,.slice A n c,.int .i64 n,_,_,_,_,_,_,_,_,_,_,_,_,_,_,_,_],[]⟩ _)
  ·intro u hu
   go_simp
  refine HT.take 9 (.pointer (some ⟨M.d,0,none⟩)) rfl (by kernel_rfl) (fun _ _ _ h=>h) (Or.inl ⟨by rfl,?_⟩) (?_:HT _ _ _ _ _ _ _ ⟨#[_,_,_,_,_,_,_,_,_,_,_,_,_,_,_,_,_,_,.slice A n c,.int .i64 n,.bool true,.bool true,.pointer (some ⟨M.d,0,none⟩),_,.slice A n c,.int .i64 n,_,.pointer (some ⟨M.d,0,none⟩),_,_,_,_,_,_,_,_,_,_,_,_,_,_],[]⟩ _)
  ·intro u hu
   go_simp
  refine HT.take 10 (.pointer (some ⟨M.d,0,none⟩)) rfl (by kernel_rfl) (fun _ _ _ h=>h) (Or.inl ⟨by rfl,?_⟩) (?_:HT _ _ _ _ _ _ _ ⟨#[_,_,_,_,_,_,_,_,_,_,_,_,_,_,_,_,_,_,.slice A n c,.int .i64 n,.bool true,.bool true,.pointer (some ⟨M.d,0,none⟩),_,.slice A n c,.int .i64 n,_,.pointer (some ⟨M.d,0,none⟩),.pointer (some ⟨M.d,0,none⟩),_,_,_,_,_,_,_,_,_,_,_,_,_],[]⟩ _)
  ·intro u hu
   go_simp
  refine HT.take 11 (.pointer (some ⟨M.d,4,none⟩)) rfl (by kernel_rfl) (fun _ _ _ h=>h) (Or.inl ⟨by rfl,?_⟩) (?_:HT _ _ _ _ _ _ _ ⟨#[_,_,_,_,_,_,_,_,_,_,_,_,_,_,_,_,_,_,.slice A n c,.int .i64 n,.bool true,.bool true,.pointer (some ⟨M.d,0,none⟩),_,.slice A n c,.int .i64 n,_,.pointer (some ⟨M.d,0,none⟩),.pointer (some ⟨M.d,0,none⟩),.pointer (some ⟨M.d,4,none⟩),_,_,_,_,_,_,_,_,_,_,_,_],[]⟩ _)
  ·intro u hu
   go_simp
  refine HT.take 12 (.int .i64 T.room) rfl (by kernel_rfl) (fun _ _ _ h=>h) (Or.inl ⟨by rfl,?_⟩) (?_:HT _ _ _ _ _ _ _ ⟨#[_,_,_,_,_,_,_,_,_,_,_,_,_,_,_,_,_,_,.slice A n c,.int .i64 n,.bool true,.bool true,.pointer (some ⟨M.d,0,none⟩),_,.slice A n c,.int .i64 n,_,.pointer (some ⟨M.d,0,none⟩),.pointer (some ⟨M.d,0,none⟩),.pointer (some ⟨M.d,4,none⟩),.int .i64 T.room,_,_,_,_,_,_,_,_,_,_,_],[]⟩ _)
  ·intro u hu
   obtain⟨y0,y1,y2,y3,y4,y5,y6,y7⟩:=hu.1.cells
   go_simp
  refine HT.step 5 rfl (by kernel_rfl) (fun hS K hK=>?_)
  go_simp
  refine (used_any B M T _ hS.1 HSS.out HOK.out hu2).mono ?_
  rintro e w5 ⟨rfl,hb⟩
  refine hK.out _ _ ⟨hS.1.below hb,below_then hS.2.size hS.2 hb⟩ ?_
  clear hK hS hb
  refine HT.take 8 (.int .i64 ((T.used:Int)+n)) rfl (by kernel_rfl) (fun _ _ _ h=>h) (Or.inl ⟨by rfl,?_⟩) (?_:HT _ _ _ _ _ _ _ ⟨#[_,_,_,_,_,_,_,_,_,_,_,_,_,_,_,_,_,_,.slice A n c,.int .i64 n,.bool true,.bool true,.pointer (some ⟨M.d,0,none⟩),.int .i64 T.used,.slice A n c,.int .i64 n,.int .i64 ((T.used:Int)+n),.pointer (some ⟨M.d,0,none⟩),.pointer (some ⟨M.d,0,none⟩),.pointer (some ⟨M.d,4,none⟩),.int .i64 T.room,_,_,_,_,_,_,_,_,_,_,_],[]⟩ _)
  ·intro u hu
   go_simp
  refine HT.take 13 (.bool false) rfl (by kernel_rfl) (fun _ _ _ h=>h) (Or.inl ⟨by rfl,?_⟩) (?_:HT _ _ _ _ _ _ _ ⟨#[_,_,_,_,_,_,_,_,_,_,_,_,_,_,_,_,_,_,.slice A n c,.int .i64 n,.bool true,.bool true,.pointer (some ⟨M.d,0,none⟩),.int .i64 T.used,.slice A n c,.int .i64 n,.int .i64 ((T.used:Int)+n),.pointer (some ⟨M.d,0,none⟩),.pointer (some ⟨M.d,0,none⟩),.pointer (some ⟨M.d,4,none⟩),.int .i64 T.room,.bool false,_,_,_,_,_,_,_,_,_,_],[]⟩ _)
  ·intro u hu
   go_simp
  refine HT.tail _ rfl rfl (by kernel_rfl) (fun hS=>?_)
  have HD3:=Lib.hid hS.1
  have HBB:=Lib.hid hS.2
  clear hS hS0
  go_wp2
  refine NoPanic.normal ?_
  have HS3:=Lib.hid (HS2.out.trans (Stepped.below HBB.out))
  have HX3:=Lib.hid (HX2.out.below HBB.out)
  clear HD2 HS2 HX2
  obtain⟨w3,rfl⟩:∃ w3:World,w3=w5:=⟨_,rfl⟩
  subst hl
  have z1:w3.cell? ⟨M.fa no,1,none⟩=some (.slice (M.da no) (T.size no) (M.dc no)):=(HD3.out.files no hno2).blk.cell 1 rfl
  have hB3:B≤w3.heap.size:=HD3.out.base
  go_wp2_with (at_builtin;refine appB _ rfl _ _ rfl B (M.da no) (T.size no) (M.dc no) (T.data.getD no []) rfl (HD3.out.files no hno2).row _ l.length _ l rfl HX3.out (by omega) hB3 ?_;intro A1 c1 w4 hr4 ha4;have hF4:=(HD3.out.files no hno2).blk.keptG ha4.grown (fun e=>((HD3.out.files no hno2).row.tag e).ne (HD3.out.files no hno2).blk.tag (by decide) rfl);have f4:=hF4.free 1;have g4:w4.cell? ⟨M.fa no,1,none⟩=some (.slice (M.da no) (T.size no) (M.dc no)):=hF4.cell 1 rfl)
  go_ret
  exact⟨by rw[HG3.out];rfl,_,by rw[HG3.out];exact HD3.out.wrote hno2 ha4 hr4,by rw[HG3.out];exact HS3.out.trans (Stepped.wrote hno2 ha4)⟩
end Go.Proofs.YthjeglnkgdpijaaGreatDoor
namespace Go.Proofs.YthjeglnkgdpijaaGreatDoor
open Go.RowKit
theorem word_any (v:Int) (w:World):Calls Tryz.prog 139 #[.int .i64 v] w (RetB w (R.word v)):=by
 by_cases h0:0≤v
 ·by_cases h1:v≤4294967295
  ·rw[show R.word v=true from decide_eq_true ⟨h0,h1⟩]
   go_enter Tryz.func139,Tryz.ntmps139
   go_wp2
   go_ret
   exact⟨rfl,Below.refl _ _⟩
  ·rw[show R.word v=false from decide_eq_false fun h=>h1 h.2]
   go_enter Tryz.func139,Tryz.ntmps139
   go_wp2
   go_ret
   exact⟨rfl,Below.refl _ _⟩
 ·rw[show R.word v=false from decide_eq_false fun h=>h0 h.1]
  go_enter Tryz.func139,Tryz.ntmps139
  go_wp2
  go_ret
  exact⟨rfl,Below.refl _ _⟩
namespace R
theorem code_op {r:Rc} (h:¬ (r.op=1∨r.op=2)):code r=100:=by
 unfold code
 rw[if_neg]
 simp at h ⊢
 intro h1 h2
 exact absurd (h1.elim h.1 h.2) id
theorem code_seq {r:Rc} (h:word r.seq=false):code r=100:=by
 unfold code
 rw[if_neg (by rw[h];simp)]
theorem code_no {r:Rc} (h:word r.no=false):code r=100:=by
 unfold code
 rw[if_neg (by rw[h];simp)]
theorem code_id {r:Rc} (h1:r.op=1∨r.op=2) (h2:word r.seq=true) (h3:word r.no=true):code r=if r.id.size≤4096 then 0 else 101:=by
 unfold code
 rw[if_pos (by rw[h2,h3];rcases h1 with h | h<;>simp [h])]
theorem enc_bad {r:Rc} (h:code r≠0):enc r=[]:=if_neg h
theorem enc_good {r:Rc} (h:code r=0):enc r=body r++beN (sumN (body r)) 4:=if_pos h
theorem enc_len (r:Rc) (h:code r=0):(enc r).length=r.id.size+15:=by
 rw[enc_good h]
 unfold body
 simp only[List.length_append,List.length_cons,beN_len]
 have:(L r.id).length=r.id.size:=(L_size r.id).symm
 omega
end R
theorem rowB (u:World) (x:UInt8) (B:Nat) (hB:B≤u.heap.size):Row (u.alloc (.cells #[.int .u8 x.toNat] 5)) B 5 1 (some ⟨u.heap.size,0,none⟩) 1 1 (bcells [x]) :=
 .inl ⟨rfl,.inr ⟨u.heap.size,1,_,rfl,hB,heap_alloc_new u _,Nat.le_refl _,by decide,rfl,rfl⟩⟩
theorem rencode_any (r:R.Rc) (w:World) (hid:r.id.size≤2147483648) :
  Calls Tryz.prog 102 #[.agg #[.int .i64 r.seq,.int .i64 r.op,.int .i64 r.no,.string r.id]] w (RetBE w (R.enc r) (R.code r)):=by
 have HK:=Lib.hid (Blk.new w #[.int .i64 r.seq,.int .i64 r.op,.int .i64 r.no,.string r.id] 111)
 have HB:=Lib.hid ((Below.refl w.heap.size w).alloc (Nat.le_refl _) (.cells #[.int .i64 r.seq,.int .i64 r.op,.int .i64 r.no,.string r.id] 111))
 have HZ:Hid ((w.alloc (.cells #[.int .i64 r.seq,.int .i64 r.op,.int .i64 r.no,.string r.id] 111)).heap.size=w.heap.size+1):=Lib.hid (World.size_alloc ..)
 obtain⟨E,hE⟩:∃ E,R.enc r=E:=⟨_,rfl⟩
 obtain⟨C,hC⟩:∃ C,R.code r=C:=⟨_,rfl⟩
 have c1:=@R.code_op r
 have c2:=@R.code_seq r
 have c3:=@R.code_no r
 have c4:=@R.code_id r
 have e1:=@R.enc_bad r
 have e2:=@R.enc_good r
 have hbody:R.body r=UInt8.ofNat (192+r.op.toNat)::(beN r.id.size 2++(beN r.seq.toNat 4++(beN r.no.toNat 4++L r.id))):=rfl
 have hWS:R.word r.seq=true→0≤r.seq∧r.seq≤4294967295:=fun h=>of_decide_eq_true h
 have hWN:R.word r.no=true→0≤r.no∧r.no≤4294967295:=fun h=>of_decide_eq_true h
 rw[hE]at e1 e2 ⊢
 rw[hC]at c1 c2 c3 c4 e1 e2 ⊢
 generalize R.body r=bd at *
 obtain⟨seq,op,no,id⟩:=r
 dsimp only at *
 have HW:=Lib.hid (fun (v:Int) (u:World)=>word_any v u)
 have F1:=Lib.hid c1
 have F2:=Lib.hid c2
 have F3:=Lib.hid c3
 have F4:=Lib.hid c4
 have F5:=Lib.hid e1
 have F6:=Lib.hid e2
 have F7:=Lib.hid hbody
 have F8:=Lib.hid hWS
 have F9:=Lib.hid hWN
 clear c1 c2 c3 c4 e1 e2 hbody hWS hWN hE hC
 go_enter Tryz.func102,Tryz.ntmps102
 go_upto_region 1 with fail
 generalize w.alloc (.cells #[.int .i64 seq,.int .i64 op,.int .i64 no,.string id] 111)=w0 at *
 obtain⟨z0,z1,z2,z3⟩:=HK.out.cells4
 by_cases hop:op=1∨op=2
 rotate_left
 ·have o1:(op != 1)=true:=bne_iff_ne.2 (fun h=>hop (.inl h))
  have o2:(op != 2)=true:=bne_iff_ne.2 (fun h=>hop (.inr h))
  have hc:=F1.out hop
  have he:=F5.out (by rw[hc];decide)
  go_wp2
  go_ret2
  exact RetBE.none_ HB.out he hc
 have HP:=Lib.hid (fun (base:Nat) (A:Option Addr) (c n v k:Nat) (bs:List UInt8) (u:World) (hl:bs.length=n) (hn:n≤1099511627776) (hk:k≤8) (hv:v < 9223372036854775808) (hr:CRow u base A n c bs) (hb:base≤u.heap.size)=>(by
  subst hl
  exact put_be base A c v k bs u hn hk hv hr hb:Calls Tryz.prog 120 #[.slice A n c,.int .i64 v,.int .i64 k] u (fun e w'=>∃ A' c',e=.returned (.slice A' (n+k) c')∧CRow w' base A' (n+k) c' (bs++beN v k)∧App u w' A c A' c')))
 rcases hop with rfl | rfl
 ·go_wp2_with fail
  clear z0 z1 z2 z3
  refine (HW.out _ _).mono ?_
  rintro e w1 ⟨rfl,hb1⟩
  have HB1:=Lib.hid (below_then HB.out.size HB.out hb1)
  have HK1:=Lib.hid (HK.out.below hb1)
  have HZ1:Hid (w.heap.size+1≤w1.heap.size):=Lib.hid (by have:=hb1.size;have:=HZ.out;omega)
  clear hb1 HB HK
  obtain⟨z0,z1,z2,z3⟩:=HK1.out.cells4
  cases hs:R.word seq
  ·have hc:=F2.out hs
   have he:=F5.out (by rw[hc];decide)
   go_wp2
   go_ret2
   exact RetBE.none_ HB1.out he hc
  have hsq:=F8.out hs
  go_wp2_with fail
  clear z0 z1 z2 z3
  refine (HW.out _ _).mono ?_
  rintro e w2 ⟨rfl,hb2⟩
  have HB2:=Lib.hid (below_then HB1.out.size HB1.out hb2)
  have HK2:=Lib.hid (HK1.out.below hb2)
  have HZ2:Hid (w.heap.size+1≤w2.heap.size):=Lib.hid (by have:=hb2.size;have:=HZ1.out;omega)
  clear hb2 HB1 HK1
  obtain⟨z0,z1,z2,z3⟩:=HK2.out.cells4
  cases hn:R.word no
  ·have hc:=F3.out hn
   have he:=F5.out (by rw[hc];decide)
   go_wp2
   go_ret2
   exact RetBE.none_ HB2.out he hc
  have hnq:=F9.out hn
  have hcd:=F4.out (by decide) hs hn
  clear hs hn F1 F2 F3 F4 F8 F9 HW HZ1
  by_cases hi:id.size≤4096
  rotate_left
  ·rw[if_neg hi]at hcd
   have he:=F5.out (by rw[hcd];decide)
   have hi2:¬ (id.size:Int)≤4096:=by omega
   go_wp2
   go_ret2
   exact RetBE.none_ HB2.out he hcd
  rw[if_pos hi]at hcd
  have hE:=F6.out hcd
  have hi2:(id.size:Int)≤4096:=by omega
  obtain⟨sq,rfl⟩:∃ a:Nat,seq=a:=⟨seq.toNat,by omega⟩
  obtain⟨nn,rfl⟩:∃ a:Nat,no=a:=⟨no.toNat,by omega⟩
  have HEN:=Lib.hid hE
  have HC0:=Lib.hid hcd
  have F7':=F7.out
  simp only[Int.toNat_natCast]at F7'
  have HF7:=Lib.hid F7'
  clear hE hcd F5 F6 F7 F7'
  have hsq2:sq < 9223372036854775808:=by omega
  have hnn2:nn < 9223372036854775808:=by omega
  clear hsq hnq
  have HR3:Hid (CRow (w2.alloc (.cells #[.int .u8 193] 5)) w2.heap.size (some ⟨w2.heap.size,0,none⟩) 1 1 [UInt8.ofNat 193]):=Lib.hid ((rowB w2 (UInt8.ofNat 193) w2.heap.size (Nat.le_refl _)).crow)
  have hz3:(w2.alloc (.cells #[.int .u8 193] 5)).heap.size=w2.heap.size+1:=World.size_alloc ..
  have HB3:=Lib.hid (HB2.out.alloc (Nat.le_trans (Nat.le_succ _) HZ2.out) (.cells #[.int .u8 193] 5))
  have HK3:=Lib.hid (HK2.out.alloc (.cells #[.int .u8 193] 5))
  obtain⟨B0,hB0⟩:∃ B0,B0=w2.heap.size:=⟨_,rfl⟩
  have hk0:w.heap.size < B0:=by have:=HZ2.out;omega
  clear HB2 HK2
  obtain⟨u0,u1,u2,u3⟩:=HK3.out.cells4
  go_wp2_with fail
  clear z0 z1 z2 z3 u0 u1 u2 u3
  simp only[← hB0]at *
  have HZ3:Hid (B0≤(w2.alloc (.cells #[.int .u8 193] 5)).heap.size):=Lib.hid (by rw[hz3];omega)
  refine (HP.out B0 (some ⟨B0,0,none⟩) 1 1 id.size 2 [UInt8.ofNat 193] _ rfl (by decide) (by decide) (by omega) HR3.out HZ3.out).mono ?_
  rintro e w4 ⟨A4,c4,rfl,hr4,ha4⟩
  have hb4:=ha4.belowC HR3.out HZ3.out
  have HK4:=Lib.hid (HK3.out.under hb4 hk0)
  have HB4:=Lib.hid (HB3.out.trans (hb4.mono (Nat.le_of_lt hk0)))
  have HZ4:Hid (B0≤w4.heap.size):=Lib.hid (Nat.le_trans HZ3.out hb4.size)
  have HR4:=Lib.hid hr4
  clear hr4 ha4 hb4 HK3 HB3 HZ3 HR3
  obtain⟨z0,z1,z2,z3⟩:=HK4.out.cells4
  go_wp2_with fail
  clear z0 z1 z2 z3
  refine (HP.out B0 A4 c4 3 sq 4 _ _ (by simp [beN_len]) (by decide) (by decide) hsq2 HR4.out HZ4.out).mono ?_
  rintro e w5 ⟨A5,c5,rfl,hr5,ha5⟩
  have hb5:=ha5.belowC HR4.out HZ4.out
  have HK5:=Lib.hid (HK4.out.under hb5 hk0)
  have HB5:=Lib.hid (HB4.out.trans (hb5.mono (Nat.le_of_lt hk0)))
  have HZ5:Hid (B0≤w5.heap.size):=Lib.hid (Nat.le_trans HZ4.out hb5.size)
  have HR5:=Lib.hid hr5
  clear hr5 ha5 hb5 HK4 HB4 HZ4 HR4
  obtain⟨z0,z1,z2,z3⟩:=HK5.out.cells4
  go_wp2_with fail
  clear z0 z1 z2 z3
  refine (HP.out B0 A5 c5 7 nn 4 _ _ (by simp [beN_len]) (by decide) (by decide) hnn2 HR5.out HZ5.out).mono ?_
  rintro e w6 ⟨A6,c6,rfl,hr6,ha6⟩
  have hb6:=ha6.belowC HR5.out HZ5.out
  have HK6:=Lib.hid (HK5.out.under hb6 hk0)
  have HB6:=Lib.hid (HB5.out.trans (hb6.mono (Nat.le_of_lt hk0)))
  have HZ6:Hid (B0≤w6.heap.size):=Lib.hid (Nat.le_trans HZ5.out hb6.size)
  obtain⟨g,hg,hc0⟩:∃ g,A6=some ⟨g,0,none⟩∧c6≠0:=by
   have h1:=hr6.2.1
   rcases hr6.2.2 with h | ⟨g,h,_⟩
   ·exact absurd h (by omega)
   ·exact⟨g,h,by omega⟩
  subst hg
  have HR6:=Lib.hid hr6
  clear hr6 ha6 hb6 HK5 HB5 HZ5 HR5
  obtain⟨z0,z1,z2,z3⟩:=HK6.out.cells4
  go_wp2_with (at_builtin;refine appStr _ rfl _ _ rfl B0 g 11 c6 _ rfl hc0 HR6.out id rfl (by omega) HZ6.out ?_;intro A7 c7 w7 hr7 ha7;have hb7:=ha7.belowC HR6.out HZ6.out;have HB7:=Lib.hid (HB6.out.trans (hb7.mono (Nat.le_of_lt hk0)));have HZ7:Hid (B0≤w7.heap.size):=Lib.hid (Nat.le_trans HZ6.out hb7.size);have HR7:=Lib.hid hr7;clear hr7 ha7 hb7 HR6 HK6 HB6 HZ6 z0 z1 z2 z3)
  obtain⟨BD,hBD⟩:∃ BD,UInt8.ofNat 193::(beN id.size 2++(beN sq 4++(beN nn 4++L id)))=BD:=⟨_,rfl⟩
  have hbl:BD.length=11+id.size:=by
   rw[← hBD]
   have:(L id).length=id.size:=(L_size id).symm
   simp only[List.length_cons,List.length_append,beN_len]
   omega
  have HR8:Hid (CRow w7 B0 A7 (11+id.size) c7 BD):=by
   rw[← hBD]
   have:=HR7.out
   simp only[List.append_assoc,List.cons_append,List.nil_append]at this
   exact Lib.hid this
  have HSU:=Lib.hid (fun (A:Option Addr) (c n:Nat) (u:World) (hl:BD.length=n) (hr:Rd u A n 1 (bcells BD))=>(by
   subst hl
   exact sum_any A c BD u (by omega) hr:Calls Tryz.prog 121 #[.slice A n c] u (fun e w'=>e=.returned (.int .i64 (sumN BD))∧Below u.heap.size u w')))
  have HBL:=Lib.hid hbl
  have HSL:=Lib.hid (sumN_lt BD)
  have HEB:Hid (E=BD++beN (sumN BD) 4):=Lib.hid (by rw[HEN.out,HF7.out,← hBD];rfl)
  clear hBD hbl HR7 HEN HF7
  go_wp2_with fail
  refine (HSU.out A7 c7 (11+id.size) _ HBL.out HR8.out.rd).mono ?_
  rintro e w8 ⟨rfl,hb8⟩
  have HR9:=Lib.hid (HR8.out.below hb8)
  have HB8:=Lib.hid (below_then HB7.out.size HB7.out hb8)
  have HZ8:Hid (B0≤w8.heap.size):=Lib.hid (Nat.le_trans HZ7.out hb8.size)
  clear hb8 HR8 HB7 HZ7 HSU
  go_wp2_with fail
  refine (HP.out B0 A7 c7 (11+id.size) (sumN BD) 4 BD _ HBL.out (by omega) (by decide) (by have:=HSL.out;omega) HR9.out HZ8.out).mono ?_
  rintro e w9 ⟨A9,c9,rfl,hr9,ha9⟩
  have hb9:=ha9.belowC HR9.out HZ8.out
  have HB9:=Lib.hid (HB8.out.trans (hb9.mono (Nat.le_of_lt hk0)))
  have HR10:=Lib.hid (hr9.mono (Nat.le_of_lt hk0))
  clear hr9 ha9 hb9
  have hfl:(BD++beN (sumN BD) 4).length=11+id.size+4:=by rw[List.length_append,beN_len,HBL.out]
  go_wp2
  refine bodyPost_ret (v:=.tuple #[.slice A9 (11+id.size+4) c9,.int .i64 0]) (by simp [results,Tryz.results102,go_sem]) rfl ?_
  exact⟨A9,c9,by rw[HEB.out,hfl,HC0.out],by rw[HEB.out,hfl];exact HR10.out,HB9.out⟩
 ·go_wp2_with fail
  clear z0 z1 z2 z3
  refine (HW.out _ _).mono ?_
  rintro e w1 ⟨rfl,hb1⟩
  have HB1:=Lib.hid (below_then HB.out.size HB.out hb1)
  have HK1:=Lib.hid (HK.out.below hb1)
  have HZ1:Hid (w.heap.size+1≤w1.heap.size):=Lib.hid (by have:=hb1.size;have:=HZ.out;omega)
  clear hb1 HB HK
  obtain⟨z0,z1,z2,z3⟩:=HK1.out.cells4
  cases hs:R.word seq
  ·have hc:=F2.out hs
   have he:=F5.out (by rw[hc];decide)
   go_wp2
   go_ret2
   exact RetBE.none_ HB1.out he hc
  have hsq:=F8.out hs
  go_wp2_with fail
  clear z0 z1 z2 z3
  refine (HW.out _ _).mono ?_
  rintro e w2 ⟨rfl,hb2⟩
  have HB2:=Lib.hid (below_then HB1.out.size HB1.out hb2)
  have HK2:=Lib.hid (HK1.out.below hb2)
  have HZ2:Hid (w.heap.size+1≤w2.heap.size):=Lib.hid (by have:=hb2.size;have:=HZ1.out;omega)
  clear hb2 HB1 HK1
  obtain⟨z0,z1,z2,z3⟩:=HK2.out.cells4
  cases hn:R.word no
  ·have hc:=F3.out hn
   have he:=F5.out (by rw[hc];decide)
   go_wp2
   go_ret2
   exact RetBE.none_ HB2.out he hc
  have hnq:=F9.out hn
  have hcd:=F4.out (by decide) hs hn
  clear hs hn F1 F2 F3 F4 F8 F9 HW HZ1
  by_cases hi:id.size≤4096
  rotate_left
  ·rw[if_neg hi]at hcd
   have he:=F5.out (by rw[hcd];decide)
   have hi2:¬ (id.size:Int)≤4096:=by omega
   go_wp2
   go_ret2
   exact RetBE.none_ HB2.out he hcd
  rw[if_pos hi]at hcd
  have hE:=F6.out hcd
  have hi2:(id.size:Int)≤4096:=by omega
  obtain⟨sq,rfl⟩:∃ a:Nat,seq=a:=⟨seq.toNat,by omega⟩
  obtain⟨nn,rfl⟩:∃ a:Nat,no=a:=⟨no.toNat,by omega⟩
  have HEN:=Lib.hid hE
  have HC0:=Lib.hid hcd
  have F7':=F7.out
  simp only[Int.toNat_natCast]at F7'
  have HF7:=Lib.hid F7'
  clear hE hcd F5 F6 F7 F7'
  have hsq2:sq < 9223372036854775808:=by omega
  have hnn2:nn < 9223372036854775808:=by omega
  clear hsq hnq
  have HR3:Hid (CRow (w2.alloc (.cells #[.int .u8 194] 5)) w2.heap.size (some ⟨w2.heap.size,0,none⟩) 1 1 [UInt8.ofNat 194]):=Lib.hid ((rowB w2 (UInt8.ofNat 194) w2.heap.size (Nat.le_refl _)).crow)
  have hz3:(w2.alloc (.cells #[.int .u8 194] 5)).heap.size=w2.heap.size+1:=World.size_alloc ..
  have HB3:=Lib.hid (HB2.out.alloc (Nat.le_trans (Nat.le_succ _) HZ2.out) (.cells #[.int .u8 194] 5))
  have HK3:=Lib.hid (HK2.out.alloc (.cells #[.int .u8 194] 5))
  obtain⟨B0,hB0⟩:∃ B0,B0=w2.heap.size:=⟨_,rfl⟩
  have hk0:w.heap.size < B0:=by have:=HZ2.out;omega
  clear HB2 HK2
  obtain⟨u0,u1,u2,u3⟩:=HK3.out.cells4
  go_wp2_with fail
  clear z0 z1 z2 z3 u0 u1 u2 u3
  simp only[← hB0]at *
  have HZ3:Hid (B0≤(w2.alloc (.cells #[.int .u8 194] 5)).heap.size):=Lib.hid (by rw[hz3];omega)
  refine (HP.out B0 (some ⟨B0,0,none⟩) 1 1 id.size 2 [UInt8.ofNat 194] _ rfl (by decide) (by decide) (by omega) HR3.out HZ3.out).mono ?_
  rintro e w4 ⟨A4,c4,rfl,hr4,ha4⟩
  have hb4:=ha4.belowC HR3.out HZ3.out
  have HK4:=Lib.hid (HK3.out.under hb4 hk0)
  have HB4:=Lib.hid (HB3.out.trans (hb4.mono (Nat.le_of_lt hk0)))
  have HZ4:Hid (B0≤w4.heap.size):=Lib.hid (Nat.le_trans HZ3.out hb4.size)
  have HR4:=Lib.hid hr4
  clear hr4 ha4 hb4 HK3 HB3 HZ3 HR3
  obtain⟨z0,z1,z2,z3⟩:=HK4.out.cells4
  go_wp2_with fail
  clear z0 z1 z2 z3
  refine (HP.out B0 A4 c4 3 sq 4 _ _ (by simp [beN_len]) (by decide) (by decide) hsq2 HR4.out HZ4.out).mono ?_
  rintro e w5 ⟨A5,c5,rfl,hr5,ha5⟩
  have hb5:=ha5.belowC HR4.out HZ4.out
  have HK5:=Lib.hid (HK4.out.under hb5 hk0)
  have HB5:=Lib.hid (HB4.out.trans (hb5.mono (Nat.le_of_lt hk0)))
  have HZ5:Hid (B0≤w5.heap.size):=Lib.hid (Nat.le_trans HZ4.out hb5.size)
  have HR5:=Lib.hid hr5
  clear hr5 ha5 hb5 HK4 HB4 HZ4 HR4
  obtain⟨z0,z1,z2,z3⟩:=HK5.out.cells4
  go_wp2_with fail
  clear z0 z1 z2 z3
  refine (HP.out B0 A5 c5 7 nn 4 _ _ (by simp [beN_len]) (by decide) (by decide) hnn2 HR5.out HZ5.out).mono ?_
  rintro e w6 ⟨A6,c6,rfl,hr6,ha6⟩
  have hb6:=ha6.belowC HR5.out HZ5.out
  have HK6:=Lib.hid (HK5.out.under hb6 hk0)
  have HB6:=Lib.hid (HB5.out.trans (hb6.mono (Nat.le_of_lt hk0)))
  have HZ6:Hid (B0≤w6.heap.size):=Lib.hid (Nat.le_trans HZ5.out hb6.size)
  obtain⟨g,hg,hc0⟩:∃ g,A6=some ⟨g,0,none⟩∧c6≠0:=by
   have h1:=hr6.2.1
   rcases hr6.2.2 with h | ⟨g,h,_⟩
   ·exact absurd h (by omega)
   ·exact⟨g,h,by omega⟩
  subst hg
  have HR6:=Lib.hid hr6
  clear hr6 ha6 hb6 HK5 HB5 HZ5 HR5
  obtain⟨z0,z1,z2,z3⟩:=HK6.out.cells4
  go_wp2_with (at_builtin;refine appStr _ rfl _ _ rfl B0 g 11 c6 _ rfl hc0 HR6.out id rfl (by omega) HZ6.out ?_;intro A7 c7 w7 hr7 ha7;have hb7:=ha7.belowC HR6.out HZ6.out;have HB7:=Lib.hid (HB6.out.trans (hb7.mono (Nat.le_of_lt hk0)));have HZ7:Hid (B0≤w7.heap.size):=Lib.hid (Nat.le_trans HZ6.out hb7.size);have HR7:=Lib.hid hr7;clear hr7 ha7 hb7 HR6 HK6 HB6 HZ6 z0 z1 z2 z3)
  obtain⟨BD,hBD⟩:∃ BD,UInt8.ofNat 194::(beN id.size 2++(beN sq 4++(beN nn 4++L id)))=BD:=⟨_,rfl⟩
  have hbl:BD.length=11+id.size:=by
   rw[← hBD]
   have:(L id).length=id.size:=(L_size id).symm
   simp only[List.length_cons,List.length_append,beN_len]
   omega
  have HR8:Hid (CRow w7 B0 A7 (11+id.size) c7 BD):=by
   rw[← hBD]
   have:=HR7.out
   simp only[List.append_assoc,List.cons_append,List.nil_append]at this
   exact Lib.hid this
  have HSU:=Lib.hid (fun (A:Option Addr) (c n:Nat) (u:World) (hl:BD.length=n) (hr:Rd u A n 1 (bcells BD))=>(by
   subst hl
   exact sum_any A c BD u (by omega) hr:Calls Tryz.prog 121 #[.slice A n c] u (fun e w'=>e=.returned (.int .i64 (sumN BD))∧Below u.heap.size u w')))
  have HBL:=Lib.hid hbl
  have HSL:=Lib.hid (sumN_lt BD)
  have HEB:Hid (E=BD++beN (sumN BD) 4):=Lib.hid (by rw[HEN.out,HF7.out,← hBD];rfl)
  clear hBD hbl HR7 HEN HF7
  go_wp2_with fail
  refine (HSU.out A7 c7 (11+id.size) _ HBL.out HR8.out.rd).mono ?_
  rintro e w8 ⟨rfl,hb8⟩
  have HR9:=Lib.hid (HR8.out.below hb8)
  have HB8:=Lib.hid (below_then HB7.out.size HB7.out hb8)
  have HZ8:Hid (B0≤w8.heap.size):=Lib.hid (Nat.le_trans HZ7.out hb8.size)
  clear hb8 HR8 HB7 HZ7 HSU
  go_wp2_with fail
  refine (HP.out B0 A7 c7 (11+id.size) (sumN BD) 4 BD _ HBL.out (by omega) (by decide) (by have:=HSL.out;omega) HR9.out HZ8.out).mono ?_
  rintro e w9 ⟨A9,c9,rfl,hr9,ha9⟩
  have hb9:=ha9.belowC HR9.out HZ8.out
  have HB9:=Lib.hid (HB8.out.trans (hb9.mono (Nat.le_of_lt hk0)))
  have HR10:=Lib.hid (hr9.mono (Nat.le_of_lt hk0))
  clear hr9 ha9 hb9
  have hfl:(BD++beN (sumN BD) 4).length=11+id.size+4:=by rw[List.length_append,beN_len,HBL.out]
  go_wp2
  refine bodyPost_ret (v:=.tuple #[.slice A9 (11+id.size+4) c9,.int .i64 0]) (by simp [results,Tryz.results102,go_sem]) rfl ?_
  exact⟨A9,c9,by rw[HEB.out,hfl,HC0.out],by rw[HEB.out,hfl];exact HR10.out,HB9.out⟩
end Go.Proofs.YthjeglnkgdpijaaGreatDoor
