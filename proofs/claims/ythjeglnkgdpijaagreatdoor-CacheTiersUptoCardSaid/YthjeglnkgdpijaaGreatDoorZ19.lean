/- The walks of the disk's List and SyncNames, and of New without files. The walk of the disk's Append. The log's records, the log on the disk, and the store over both, as plain states. Conditions: as each theorem states them. -/
import Derived.Test.YthjeglnkgdpijaaGreatDoorObjA
set_option maxHeartbeats 4000000
namespace Go.Proofs.YthjeglnkgdpijaaGreatDoor
open Go Go.RowKit Go.Maps
theorem uC (B:Nat) (M:DM) (s:D.Dsk) (w:World) (h:bU B M s w) (ok:s.Ok) (hl:s.now.length≤1073741824) :
  Calls Tryz.prog 57 #[.pointer (some ⟨M.d,0,none⟩)] w (dN w 9 1 s.list.length (aC s.list)):=by
 have HD:=aH h
 have HDW:=aH (zL B M s w h)
 obtain⟨G,hG⟩:∃ G,s.list=G:=⟨_,rfl⟩
 have HG:Hid (G=if s.down then [] else s.now.map (·.1)):=aH hG.symm
 have hup:=ok.upN
 rw[hG]
 clear h hG ok
 cases hd:s.down
 rotate_left
 ·rw[hd]at HDW HG
  rw[if_pos rfl]at HG
  go_enter Tryz.func57,Tryz.ntmps57
  go_wp2_with fail
  refine HDW.out.mono ?_
  rintro e w1 ⟨rfl,hb1⟩
  go_wp2
  go_ret
  rw[HG.out]
  exact⟨none,0,rfl,Row.none_ _ _ _ _,hb1⟩
 rw[hd]at HDW HG
 rw[if_neg (by decide)]at HG
 have HKE:=aH (fun u=>aIV (some M.mN) u)
 go_enter Tryz.func57,Tryz.ntmps57
 go_wp2_with fail
 refine HDW.out.mono ?_
 rintro e w1 ⟨rfl,hb1⟩
 have HD1:=aH (HD.out.below hb1)
 have HB1:=aH hb1
 obtain⟨y0,y1,y2,y3,y4,y5,y6,y7⟩:=HD1.out.cells
 clear hb1 HD y1 y2 y3 y4 y5 y6 y7 HDW
 go_wp2_with fail
 refine (HKE.out _).mono ?_
 rintro e w2 ⟨rfl,rfl⟩
 have hb2:Below w1.heap.size w1 (w1.alloc (.cells #[.map (some M.mN)] 91)):=(zB _ _).alloc (zA _) _
 have HSO:=aH (aCP M.fa s.now w1.heap.size M.mN (w1.alloc (.cells #[.map (some M.mN)] 91)) (by simp) ((Blk.new w1 _ _).cell 0 rfl) (HD1.out.below hb2).now hup hl)
 have HB2:=aH (aA HB1.out.size HB1.out hb2)
 clear hb2 HB1 y0
 go_wp2_with fail
 refine HSO.out.mono ?_
 rintro e w3 ⟨A,c,rfl,hr,hb3⟩
 have HR:=aH (hr.mono HB2.out.size)
 have HB3:=aH (aA HB2.out.size HB2.out hb3)
 clear hr hb3 HSO HB2
 go_wp2
 go_ret
 rw[HG.out]
 exact⟨A,c,by rw[List.length_map];rfl,HR.out,HB3.out⟩
section
variable {B:Nat} {M:DM} {s:D.Dsk} {w w1 w2:World} {k:Nat}
def DM.safed (M:DM) (k:Nat):DM:={ M with mS:=k,PA:=none,pc:=0,pv:=[] }
theorem bU.synced (h:bU B M s w) (hm:w1.ownsMap Tryz.prog 9 D.iM w.heap.size s.now.length (D.datum M.fa s.now)) (hb:Below w.heap.size w w1) :
  bU B (M.safed w.heap.size) { s with safe:=s.now,pend:=[] } ((w1.setCell ⟨M.d,1,none⟩ (.map (some w.heap.size))).setCell ⟨M.d,2,none⟩ (.slice none 0 0)) ∧
  Stepped M s w (M.safed w.heap.size) { s with safe:=s.now,pend:=[] } ((w1.setCell ⟨M.d,1,none⟩ (.map (some w.heap.size))).setCell ⟨M.d,2,none⟩ (.slice none 0 0)):=by
 have h1:=h.below hb
 have hT:=h1.blk.tag
 have hg1:=aT w1 M.d 1 (.map (some w.heap.size))
 have hT2:Tag (w1.setCell ⟨M.d,1,none⟩ (.map (some w.heap.size))) M.d 95:=(h1.blk.set 1 _).tag
 have hg2:=aT (w1.setCell ⟨M.d,1,none⟩ (.map (some w.heap.size))) M.d 2 (.slice none 0 0)
 have hg:w1.grownBy ((w1.setCell ⟨M.d,1,none⟩ (.map (some w.heap.size))).setCell ⟨M.d,2,none⟩ (.slice none 0 0)) (some M.d):=hg1.trans hg2
 have hb':∀ {k t},Tag w1 k t→t≠95→some M.d≠some k:=fun ht hn e=>ht.ne hT hn (by simpa using e.symm)
 refine⟨⟨?_,h1.now.kept hg (fun e=>hT.map (aF h1.now) (by simpa using e.symm)),hm.kept hg (fun e=>hT.map (aF hm) (by simpa using e.symm)),?_,Row.none_ _ _ _ _,trivial,h1.fails.keptG hg (fun k hk=>hb' (h1.fails.tag hk) (by decide)),
  fun no hn=>⟨(h1.files no hn).blk.keptG hg (hb' (h1.files no hn).blk.tag (by decide)),(h1.files no hn).row.keptG hg (fun k hk=>hb' ((h1.files no hn).row.tag hk) (by decide)),(h1.files no hn).ge⟩,h1.apart,⟨h.ge.1,h.ge.2.1,h.base⟩⟩,?_⟩
 ·exact (h1.blk.set 1 (.map (some w.heap.size))).set 2 (.slice none 0 0)
 ·have:=h.now.lt
  show M.mN≠w.heap.size
  omega
 ·refine⟨hg.os.trans hb.os,hg.tape.trans hb.tape,hg.output.trans hb.output,bD hb.size hg.size,fun i hi hn=>(hg.block i (Nat.lt_of_lt_of_le hi hb.size) (fun e=>hn (.inl (by simpa using e)))).trans (hb.block i hi),fun i hf=>?_,rfl⟩
  rcases hf with hf | hf | hf | hf | ⟨no,hn,hf⟩
  ·exact .inl (.inl hf)
  ·exact .inl (.inr (.inl hf))
  ·exact .inr (Nat.le_of_eq hf.symm)
  ·cases hf
  ·exact .inl (.inr (.inr (.inr (.inr ⟨no,hn,hf⟩))))
end
theorem iQ (B:Nat) (M:DM) (s:D.Dsk) (w:World) (h:bU B M s w) (hs:s.Sml) :
  Calls Tryz.prog 96 #[.pointer (some ⟨M.d,0,none⟩)] w (aY B M s w s.syncNames):=by
 have HBG:=aH (uP B M s none 0 0 [] w h ⟨hs.n0,hs.n⟩ hs.fails (by omega) rfl (fun x hx=>by cases hx) (Rd.nil _ _ _) (fun h=>absurd h (by decide)))
 obtain⟨n,hbn⟩:=s.begin_as []
 obtain⟨G,hG⟩:∃ G,s.syncNames=G:=⟨_,rfl⟩
 have HG:Hid (G=if (s.begin []).2≠0 then ({ s with n:=n },(s.begin []).2) else (({ s with n:=n,safe:=s.now,pend:=[] }:D.Dsk),0)):=aH (by
  rw[← hG]
  unfold D.Dsk.syncNames
  cases hb:s.begin [] with
  | mk s1 e =>
   rw[hb]at hbn
   dsimp only at hbn ⊢
   subst hbn
   rfl)
 rw[hG]
 rw[hbn]at HBG
 generalize (s.begin []).2=e at *
 clear hG h hbn
 go_enter Tryz.func96,Tryz.ntmps96
 go_wp2_with fail
 refine HBG.out.mono ?_
 rintro e2 w2 ⟨rfl,hd2,hs2⟩
 have HD2:=aH hd2
 have HS2:=aH hs2
 clear hd2 hs2 HBG
 by_cases he:e=0
 ·subst he
  rw[if_neg (by simp)]at HG
  have HCL:=aH (xJ M s.now M.mN w2 HD2.out.now)
  obtain⟨y0,y1,y2,y3,y4,y5,y6,y7⟩:=HD2.out.cells
  clear y1 y2 y3 y4 y5 y6 y7
  go_wp2_with fail
  refine HCL.out.mono ?_
  rintro e w3 ⟨rfl,hm3,hb3,_⟩
  obtain⟨HD4,HS4⟩:=HD2.out.synced hm3 hb3
  have HD4:=aH HD4
  have HS4:=aH HS4
  have hD3:=HD2.out.below hb3
  have z1:w3.cell? ⟨M.d,1,none⟩=some (.map (some M.mS)):=hD3.blk.cell 1 rfl
  have z2:w3.cell? ⟨M.d,2,none⟩=some (.slice M.PA s.pend.length M.pc):=hD3.blk.cell 2 rfl
  have f1:=hD3.blk.free 1
  have f2:=hD3.blk.free 2
  clear hm3 hb3 HCL y0 hD3
  go_wp2
  go_ret
  exact⟨by rw[HG.out]<;>rfl,_,by rw[HG.out];exact HD4.out,by rw[HG.out];exact HS2.out.trans HS4.out⟩
 ·rw[if_pos he]at HG
  have heb:(e==0)=false:=beq_eq_false_iff_ne.2 he
  go_wp2
  go_ret
  exact⟨by rw[HG.out]<;>rfl,M,by rw[HG.out];exact HD2.out,by rw[HG.out];exact HS2.out⟩
theorem aBZ (w:World):Calls Tryz.prog 47 #[.slice none 0 0] w (uY w (.slice none 0 0)):=by
 have he:=fun w=>Lib.run_eql_slice_nil (P:=Tryz.prog) w 23 _ none 0 0 (h:=Tryz.underlying23)
 go_enter Tryz.func47,Tryz.ntmps47
 go_wp2
 go_ret
 exact⟨rfl,rfl⟩
def D.none_ (room power:Int):D.Dsk:=⟨[],[],[],[],[],room,[],power,0⟩
theorem bU.new (w w1:World) (room power:Int) (_hb:Below w.heap.size w w1) (a b d:Nat) (ha:w.heap.size≤a) (hB:w.heap.size≤b) (hd:w.heap.size≤d) (hab:a≠b)
  (hN:w1.ownsMap Tryz.prog 9 D.iM a 0 (.map [])) (hS:w1.ownsMap Tryz.prog 9 D.iM b 0 (.map []))
  (hk:Blk w1 d #[.map (some a),.map (some b),.slice none 0 0,.int .i64 0,.int .i64 room,.slice none 0 0,.int .i64 power,.int .i64 0] 95) :
  bU w.heap.size ⟨d,a,b,none,0,[],fun _=>0,fun _=>none,fun _=>0,none,0⟩ (D.none_ room power) w1 :=
 ⟨hk,hN,hS,hab,Row.none_ _ _ _ _,trivial,Row.none_ _ _ _ _,fun _ hn=>absurd hn (Nat.not_lt_zero _),fun _ _ hi=>absurd hi (Nat.not_lt_zero _),⟨hd,ha,hB⟩⟩
theorem oP (B:Nat) (M:DM) (s:D.Dsk) (nm:ByteArray) (A:Option Addr) (n c:Nat) (l:List UInt8) (w:World) (h:bU B M s w) (hs:s.Sml) (ok:s.Ok) (hu:s.used≤1152921504606846976) (hrm:0≤s.room∧s.room≤1152921504606846976) (hn:nm.size≤1099511627776)
  (hl:l.length=n) (hln:n≤1099511627776) (hx:Rd w A n 1 (aB l)) (hA:0 < n→∀ a,A=some a→¬ M.foot s a.block) :
  Calls Tryz.prog 105 #[.pointer (some ⟨M.d,0,none⟩),.string nm,.slice A n c] w (aY B M s w (s.append nm l)):=by
 have HON:=aH (on_any B M s nm none 0 0 0 [] w (fun u hg=>h.below (grown_below hg)) ⟨hs.n0,hs.n⟩ hs.fails (by omega) rfl (fun x hx=>by rw[List.mem_singleton.1 hx];exact hn) (Row.none_ _ _ _ _) (zF _))
 obtain⟨G,hG⟩:∃ G,s.append nm l=G:=⟨_,rfl⟩
 have HG:Hid (G=match s.look nm [] with | (s1,_,some no)=>(if 0 < l.length∧s1.room < (s1.used:Int)+l.length then (s1,92) else (s1.wrote no l,0)) | (s1,e,none)=>(s1,e)):=aH (by rw[← hG];exact D.Dsk.on_look ..)
 rw[hG]
 have HX:=aH hx
 have HA:=aH hA
 clear hG h hx hA
 go_enter Tryz.func105,Tryz.ntmps105
 go_wp2_with fail
 refine HON.out.mono ?_
 rintro e w2 ⟨rfl,u,hg,hd2,hs2⟩
 have hst:=(Stepped.below (grown_below hg):Stepped M s w M s u).trans hs2
 have HX2:=aH (hst.rd HX.out HA.out)
 have HS2:=aH hst
 clear hg hs2 HON HX HA hst
 rcases s.look_or nm [] with ⟨k,e,hlk,he⟩ | ⟨k,no,hlk,hf⟩
 ·rw[hlk]at hd2 HS2 HG
  rw[hlk]
  have HD2:=aH hd2
  have heb:(e==0)=false:=beq_eq_false_iff_ne.2 he
  clear hd2 hlk
  go_wp2
  go_ret
  exact⟨by rw[HG.out];rfl,M,by rw[HG.out];exact HD2.out,by rw[HG.out];exact HS2.out⟩
 rw[hlk]at hd2 HS2 HG
 rw[hlk]
 have hno:=D.find_lt ok hf
 have okn:({ s with n:=k }:D.Dsk).Ok:=⟨ok.lens,ok.upN,ok.upS,ok.inN,ok.inS,ok.inP,ok.fold,ok.firms⟩
 have hsz:=hs.size no
 have HG2:Hid (G=if 0 < l.length∧s.room < (s.used:Int)+l.length then (({ s with n:=k }:D.Dsk),(92:Int)) else (({ s with n:=k }:D.Dsk).wrote no l,0)):=HG
 clear HG hlk hf
 dsimp only[D.kN]
 have hss:∀ no,({ s with n:=k }:D.Dsk).size no≤1099511627776:=hs.size
 have hno2:no < ({ s with n:=k }:D.Dsk).data.length:=hno
 have hsz2:({ s with n:=k }:D.Dsk).size no≤1099511627776:=hs.size no
 have hu2:({ s with n:=k }:D.Dsk).used≤1152921504606846976:=hu
 have HG3:Hid (G=if 0 < l.length∧({ s with n:=k }:D.Dsk).room < ((({ s with n:=k }:D.Dsk).used:Nat):Int)+l.length then (({ s with n:=k }:D.Dsk),(92:Int)) else (({ s with n:=k }:D.Dsk).wrote no l,0)):=HG2
 have hrm2:0≤({ s with n:=k }:D.Dsk).room∧({ s with n:=k }:D.Dsk).room≤1152921504606846976:=hrm
 clear HG2 hsz hno hu hrm
 generalize ({ s with n:=k }:D.Dsk)=T at *
 have HD2:=aH hd2
 have HOK:=aH okn
 have HSS:=aH hss
 clear hd2 okn hss
 by_cases h0:n=0
 ·have hl0:l=[]:=List.eq_nil_of_length_eq_zero (by omega)
  subst hl0
  subst h0
  rw[if_neg (by simp)]at HG3
  go_upto_region 4 with fail
  go_region
  have HD3:=aH (HD2.out.below (zB _ _).drew)
  have HS3:Hid (Stepped M s w M T w2.drew):=aH (HS2.out.trans (Stepped.below (zB _ _).drew))
  have HX3:Hid (Rd w2.drew A 0 1 (aB [])):=aH HX2.out.drew
  clear HD2 HS2 HX2
  generalize w2.drew=w3 at *
  have z1:w3.cell? ⟨M.fa no,1,none⟩=some (.slice (M.da no) (T.size no) (M.dc no)):=(HD3.out.files no hno2).blk.cell 1 rfl
  have hB3:B≤w3.heap.size:=HD3.out.base
  go_wp2_with (at_builtin;refine aPP _ rfl _ _ rfl B (M.da no) (T.size no) (M.dc no) (T.data.getD no []) rfl (HD3.out.files no hno2).row _ 0 _ [] rfl HX3.out (by omega) hB3 ?_;intro A1 c1 w4 hr4 ha4;have hF4:=(HD3.out.files no hno2).blk.keptG ha4.grown (fun e=>((HD3.out.files no hno2).row.tag e).ne (HD3.out.files no hno2).blk.tag (by decide) rfl);have f4:=hF4.free 1;have g4:w4.cell? ⟨M.fa no,1,none⟩=some (.slice (M.da no) (T.size no) (M.dc no)):=hF4.cell 1 rfl)
  go_ret
  exact⟨by rw[HG3.out];rfl,_,by rw[HG3.out];exact HD3.out.wrote hno2 ha4 hr4,by rw[HG3.out];exact HS3.out.trans (Stepped.wrote hno2 ha4)⟩
 have hnp:0 < n:=Nat.pos_of_ne_zero h0
 have hnpi:(n:Int) > 0:=by omega
 have hS0:bU B M T w2.drew∧Below w2.heap.size w2 w2.drew:=⟨HD2.out.below (zB _ _).drew,(zB _ _).drew⟩
 have hsum:((T.used:Int)+n)≤4611686018427387904:=by omega
 have hwr:IntKind.i64.wrap ((T.used:Int)+n)=(T.used:Int)+n:=by rw[IntKind.wrap_i64];omega
 by_cases hfull:T.room < (T.used:Int)+n
 ·rw[if_pos (by rw[hl];exact⟨hnp,hfull⟩)]at HG3
  have hfi:((T.used:Int)+n > T.room):=by omega
  go_upto_region 4 with fail
  refine wp_region_noPanic ?_
  refine HT.begin (n:=14) (S:=(fun u=>bU B M T u∧Below w2.heap.size w2 u)) (by kernel_rfl) hS0 ?_
  generalize w2.drew=wd at *
  refine HT.take 0 (.slice A n c) rfl (by kernel_rfl) (fun _ _ _ h=>h) (Or.inl ⟨by rfl,?_⟩) ?_
  ·intro u hu
   go_simp
  refine HT.take 1 (.int .i64 n) rfl (by kernel_rfl) (fun _ _ _ h=>h) (Or.inl ⟨by rfl,?_⟩) ?_
  ·intro u hu
   go_simp
  refine HT.take 2 (.bool true) rfl (by kernel_rfl) (fun _ _ _ h=>h) (Or.inl ⟨by rfl,?_⟩) (?_:HT _ _ _ _ _ _ _ ⟨#[_,_,_,_,_,_,_,_,_,_,_,_,_,_,_,_,_,_,.slice A n c,.int .i64 n,.bool true,_,_,_,_,_,_,_,_,_,_,_,_,_,_,_,_,_,_,_,_,_],[]⟩ _)
  ·intro u hu
   go_simp
  refine HT.take 3 (.bool true) rfl (by kernel_rfl) (fun _ _ _ h=>h) (Or.inl ⟨by rfl,?_⟩) ?_
  ·intro u hu
   go_simp
  refine HT.take 4 (.pointer (some ⟨M.d,0,none⟩)) rfl (by kernel_rfl) (fun _ _ _ h=>h) (Or.inl ⟨by rfl,?_⟩) ?_
  ·intro u hu
   go_simp
  refine HT.take 6 (.slice A n c) rfl (by kernel_rfl) (fun _ _ _ h=>h) (Or.inl ⟨by rfl,?_⟩) (?_:HT _ _ _ _ _ _ _ ⟨#[_,_,_,_,_,_,_,_,_,_,_,_,_,_,_,_,_,_,.slice A n c,.int .i64 n,.bool true,.bool true,.pointer (some ⟨M.d,0,none⟩),_,.slice A n c,_,_,_,_,_,_,_,_,_,_,_,_,_,_,_,_,_],[]⟩ _)
  ·intro u hu
   go_simp
  refine HT.take 7 (.int .i64 n) rfl (by kernel_rfl) (fun _ _ _ h=>h) (Or.inl ⟨by rfl,?_⟩) ?_
  ·intro u hu
   go_simp
  refine HT.take 9 (.pointer (some ⟨M.d,0,none⟩)) rfl (by kernel_rfl) (fun _ _ _ h=>h) (Or.inl ⟨by rfl,?_⟩) ?_
  ·intro u hu
   go_simp
  refine HT.take 10 (.pointer (some ⟨M.d,0,none⟩)) rfl (by kernel_rfl) (fun _ _ _ h=>h) (Or.inl ⟨by rfl,?_⟩) (?_:HT _ _ _ _ _ _ _ ⟨#[_,_,_,_,_,_,_,_,_,_,_,_,_,_,_,_,_,_,.slice A n c,.int .i64 n,.bool true,.bool true,.pointer (some ⟨M.d,0,none⟩),_,.slice A n c,.int .i64 n,_,.pointer (some ⟨M.d,0,none⟩),.pointer (some ⟨M.d,0,none⟩),_,_,_,_,_,_,_,_,_,_,_,_,_],[]⟩ _)
  ·intro u hu
   go_simp
  refine HT.take 11 (.pointer (some ⟨M.d,4,none⟩)) rfl (by kernel_rfl) (fun _ _ _ h=>h) (Or.inl ⟨by rfl,?_⟩) ?_
  ·intro u hu
   go_simp
  refine HT.take 12 (.int .i64 T.room) rfl (by kernel_rfl) (fun _ _ _ h=>h) (Or.inl ⟨by rfl,?_⟩) (?_:HT _ _ _ _ _ _ _ ⟨#[_,_,_,_,_,_,_,_,_,_,_,_,_,_,_,_,_,_,.slice A n c,.int .i64 n,.bool true,.bool true,.pointer (some ⟨M.d,0,none⟩),_,.slice A n c,.int .i64 n,_,.pointer (some ⟨M.d,0,none⟩),.pointer (some ⟨M.d,0,none⟩),.pointer (some ⟨M.d,4,none⟩),.int .i64 T.room,_,_,_,_,_,_,_,_,_,_,_],[]⟩ _)
  ·intro u hu
   obtain⟨y0,y1,y2,y3,y4,y5,y6,y7⟩:=hu.1.cells
   go_simp
  refine HT.step 5 rfl (by kernel_rfl) (fun hS K hK=>?_)
  go_simp
  refine (aD1 B M T _ hS.1 HSS.out HOK.out hu2).mono ?_
  rintro e w5 ⟨rfl,hb⟩
  refine hK.out _ _ ⟨hS.1.below hb,aA hS.2.size hS.2 hb⟩ ?_
  clear hK hS hb
  refine HT.take 8 (.int .i64 ((T.used:Int)+n)) rfl (by kernel_rfl) (fun _ _ _ h=>h) (Or.inl ⟨by rfl,?_⟩) ?_
  ·intro u hu
   go_simp
  refine HT.take 13 (.bool true) rfl (by kernel_rfl) (fun _ _ _ h=>h) (Or.inl ⟨by rfl,?_⟩) (?_:HT _ _ _ _ _ _ _ ⟨#[_,_,_,_,_,_,_,_,_,_,_,_,_,_,_,_,_,_,.slice A n c,.int .i64 n,.bool true,.bool true,.pointer (some ⟨M.d,0,none⟩),.int .i64 T.used,.slice A n c,.int .i64 n,.int .i64 ((T.used:Int)+n),.pointer (some ⟨M.d,0,none⟩),.pointer (some ⟨M.d,0,none⟩),.pointer (some ⟨M.d,4,none⟩),.int .i64 T.room,.bool true,_,_,_,_,_,_,_,_,_,_],[]⟩ _)
  ·intro u hu
   go_simp
  refine HT.tail _ rfl rfl (by kernel_rfl) (fun hS=>?_)
  have HD3:=aH hS.1
  have HBB:=aH hS.2
  clear hS hS0
  go_wp2
  refine NoPanic.normal ?_
  go_wp2
  go_ret
  exact⟨by rw[HG3.out];rfl,M,by rw[HG3.out];exact HD3.out,by rw[HG3.out];exact HS2.out.trans (Stepped.below HBB.out)⟩
 ·rw[if_neg (by rw[hl];exact fun h=>hfull h.2)]at HG3
  have hfi:¬ ((T.used:Int)+n > T.room):=by omega
  go_upto_region 4 with fail
  refine wp_region_noPanic ?_
  refine HT.begin (n:=14) (S:=(fun u=>bU B M T u∧Below w2.heap.size w2 u)) (by kernel_rfl) hS0 ?_
  generalize w2.drew=wd at *
  refine HT.take 0 (.slice A n c) rfl (by kernel_rfl) (fun _ _ _ h=>h) (Or.inl ⟨by rfl,?_⟩) ?_
  ·intro u hu
   go_simp
  refine HT.take 1 (.int .i64 n) rfl (by kernel_rfl) (fun _ _ _ h=>h) (Or.inl ⟨by rfl,?_⟩) ?_
  ·intro u hu
   go_simp
  refine HT.take 2 (.bool true) rfl (by kernel_rfl) (fun _ _ _ h=>h) (Or.inl ⟨by rfl,?_⟩) (?_:HT _ _ _ _ _ _ _ ⟨#[_,_,_,_,_,_,_,_,_,_,_,_,_,_,_,_,_,_,.slice A n c,.int .i64 n,.bool true,_,_,_,_,_,_,_,_,_,_,_,_,_,_,_,_,_,_,_,_,_],[]⟩ _)
  ·intro u hu
   go_simp
  refine HT.take 3 (.bool true) rfl (by kernel_rfl) (fun _ _ _ h=>h) (Or.inl ⟨by rfl,?_⟩) ?_
  ·intro u hu
   go_simp
  refine HT.take 4 (.pointer (some ⟨M.d,0,none⟩)) rfl (by kernel_rfl) (fun _ _ _ h=>h) (Or.inl ⟨by rfl,?_⟩) ?_
  ·intro u hu
   go_simp
  refine HT.take 6 (.slice A n c) rfl (by kernel_rfl) (fun _ _ _ h=>h) (Or.inl ⟨by rfl,?_⟩) (?_:HT _ _ _ _ _ _ _ ⟨#[_,_,_,_,_,_,_,_,_,_,_,_,_,_,_,_,_,_,.slice A n c,.int .i64 n,.bool true,.bool true,.pointer (some ⟨M.d,0,none⟩),_,.slice A n c,_,_,_,_,_,_,_,_,_,_,_,_,_,_,_,_,_],[]⟩ _)
  ·intro u hu
   go_simp
  refine HT.take 7 (.int .i64 n) rfl (by kernel_rfl) (fun _ _ _ h=>h) (Or.inl ⟨by rfl,?_⟩) ?_
  ·intro u hu
   go_simp
  refine HT.take 9 (.pointer (some ⟨M.d,0,none⟩)) rfl (by kernel_rfl) (fun _ _ _ h=>h) (Or.inl ⟨by rfl,?_⟩) ?_
  ·intro u hu
   go_simp
  refine HT.take 10 (.pointer (some ⟨M.d,0,none⟩)) rfl (by kernel_rfl) (fun _ _ _ h=>h) (Or.inl ⟨by rfl,?_⟩) (?_:HT _ _ _ _ _ _ _ ⟨#[_,_,_,_,_,_,_,_,_,_,_,_,_,_,_,_,_,_,.slice A n c,.int .i64 n,.bool true,.bool true,.pointer (some ⟨M.d,0,none⟩),_,.slice A n c,.int .i64 n,_,.pointer (some ⟨M.d,0,none⟩),.pointer (some ⟨M.d,0,none⟩),_,_,_,_,_,_,_,_,_,_,_,_,_],[]⟩ _)
  ·intro u hu
   go_simp
  refine HT.take 11 (.pointer (some ⟨M.d,4,none⟩)) rfl (by kernel_rfl) (fun _ _ _ h=>h) (Or.inl ⟨by rfl,?_⟩) ?_
  ·intro u hu
   go_simp
  refine HT.take 12 (.int .i64 T.room) rfl (by kernel_rfl) (fun _ _ _ h=>h) (Or.inl ⟨by rfl,?_⟩) (?_:HT _ _ _ _ _ _ _ ⟨#[_,_,_,_,_,_,_,_,_,_,_,_,_,_,_,_,_,_,.slice A n c,.int .i64 n,.bool true,.bool true,.pointer (some ⟨M.d,0,none⟩),_,.slice A n c,.int .i64 n,_,.pointer (some ⟨M.d,0,none⟩),.pointer (some ⟨M.d,0,none⟩),.pointer (some ⟨M.d,4,none⟩),.int .i64 T.room,_,_,_,_,_,_,_,_,_,_,_],[]⟩ _)
  ·intro u hu
   obtain⟨y0,y1,y2,y3,y4,y5,y6,y7⟩:=hu.1.cells
   go_simp
  refine HT.step 5 rfl (by kernel_rfl) (fun hS K hK=>?_)
  go_simp
  refine (aD1 B M T _ hS.1 HSS.out HOK.out hu2).mono ?_
  rintro e w5 ⟨rfl,hb⟩
  refine hK.out _ _ ⟨hS.1.below hb,aA hS.2.size hS.2 hb⟩ ?_
  clear hK hS hb
  refine HT.take 8 (.int .i64 ((T.used:Int)+n)) rfl (by kernel_rfl) (fun _ _ _ h=>h) (Or.inl ⟨by rfl,?_⟩) ?_
  ·intro u hu
   go_simp
  refine HT.take 13 (.bool false) rfl (by kernel_rfl) (fun _ _ _ h=>h) (Or.inl ⟨by rfl,?_⟩) (?_:HT _ _ _ _ _ _ _ ⟨#[_,_,_,_,_,_,_,_,_,_,_,_,_,_,_,_,_,_,.slice A n c,.int .i64 n,.bool true,.bool true,.pointer (some ⟨M.d,0,none⟩),.int .i64 T.used,.slice A n c,.int .i64 n,.int .i64 ((T.used:Int)+n),.pointer (some ⟨M.d,0,none⟩),.pointer (some ⟨M.d,0,none⟩),.pointer (some ⟨M.d,4,none⟩),.int .i64 T.room,.bool false,_,_,_,_,_,_,_,_,_,_],[]⟩ _)
  ·intro u hu
   go_simp
  refine HT.tail _ rfl rfl (by kernel_rfl) (fun hS=>?_)
  have HD3:=aH hS.1
  have HBB:=aH hS.2
  clear hS hS0
  go_wp2
  refine NoPanic.normal ?_
  have HS3:=aH (HS2.out.trans (Stepped.below HBB.out))
  have HX3:=aH (HX2.out.below HBB.out)
  clear HD2 HS2 HX2
  obtain⟨w3,rfl⟩:∃ w3:World,w3=w5:=⟨_,rfl⟩
  subst hl
  have z1:w3.cell? ⟨M.fa no,1,none⟩=some (.slice (M.da no) (T.size no) (M.dc no)):=(HD3.out.files no hno2).blk.cell 1 rfl
  have hB3:B≤w3.heap.size:=HD3.out.base
  go_wp2_with (at_builtin;refine aPP _ rfl _ _ rfl B (M.da no) (T.size no) (M.dc no) (T.data.getD no []) rfl (HD3.out.files no hno2).row _ l.length _ l rfl HX3.out (by omega) hB3 ?_;intro A1 c1 w4 hr4 ha4;have hF4:=(HD3.out.files no hno2).blk.keptG ha4.grown (fun e=>((HD3.out.files no hno2).row.tag e).ne (HD3.out.files no hno2).blk.tag (by decide) rfl);have f4:=hF4.free 1;have g4:w4.cell? ⟨M.fa no,1,none⟩=some (.slice (M.da no) (T.size no) (M.dc no)):=hF4.cell 1 rfl)
  go_ret
  exact⟨by rw[HG3.out];rfl,_,by rw[HG3.out];exact HD3.out.wrote hno2 ha4 hr4,by rw[HG3.out];exact HS3.out.trans (Stepped.wrote hno2 ha4)⟩
end Go.Proofs.YthjeglnkgdpijaaGreatDoor
namespace Go.Proofs.YthjeglnkgdpijaaGreatDoor
namespace R
structure Rc where
 seq:Int
 op:Int
 no:Int
 id:ByteArray
def Rc.zero:Rc:=⟨0,0,0,⟨#[]⟩⟩
def word (v:Int):Bool:=decide (0≤v∧v≤4294967295)
def code (r:Rc):Int:=if (decide (r.op=1)||decide (r.op=2))&&word r.seq&&word r.no then (if r.id.size≤4096 then 0 else 101) else 100
def body (r:Rc):List UInt8:=UInt8.ofNat (192+r.op.toNat)::(beN r.id.size 2++(beN r.seq.toNat 4++(beN r.no.toNat 4++L r.id)))
def enc (r:Rc):List UInt8:=if code r=0 then body r++beN (iL (body r)) 4 else []
def dec (b:List UInt8):Rc × Nat × Int :=
 if b.length=0 then (Rc.zero,0,0)
 else if b.headD 0≠193∧b.headD 0≠194 then (Rc.zero,0,100)
 else if b.length < 3 then (Rc.zero,0,0)
 else if 4096 < O.val ((b.drop 1).take 2) then (Rc.zero,0,100)
 else if b.length < O.val ((b.drop 1).take 2)+15 then (Rc.zero,0,0)
 else if O.val ((b.drop (O.val ((b.drop 1).take 2)+11)).take 4)≠iL (b.take (O.val ((b.drop 1).take 2)+11)) then (Rc.zero,0,100)
 else (⟨(O.val ((b.drop 3).take 4):Nat),((b.headD 0).toNat:Int) - 192,(O.val ((b.drop 7).take 4):Nat),B ((b.drop 11).take (O.val ((b.drop 1).take 2)))⟩,O.val ((b.drop 1).take 2)+15,0)
def bH:List Rc→Nat→List UInt8→List UInt8 × Int
 | [],_,b=>(b,0)
 | r::t,i,b=>if code { r with seq:=i }≠0 then ([],code { r with seq:=i }) else bH t (i+1) (b++enc { r with seq:=i })
end R
namespace S
def has (l:List ByteArray) (x:ByteArray):Bool:=l.any fun y=>decide (y=x)
theorem has_iff {l:List ByteArray} {x:ByteArray}:has l x=true↔x∈l:=by
 unfold has
 rw[List.any_eq_true]
 exact⟨fun⟨y,hy,e⟩=>of_decide_eq_true e ▸ hy,fun h=>⟨x,h,decide_eq_true rfl⟩⟩
def bM:ByteArray:=⟨#[108,111,103]⟩
def dB:ByteArray:=⟨#[108,111,103,46,110,101,119]⟩
def steps:D.Dsk→List (D.Dsk→D.Dsk × Int)→D.Dsk × Nat × Int
 | s,[]=>(s,0,0)
 | s,f::r=>if (f s).2≠0 then ((f s).1,0,(f s).2) else ((steps (f s).1 r).1,(steps (f s).1 r).2.1+1,(steps (f s).1 r).2.2)
def moves (b:List UInt8):List (D.Dsk→D.Dsk × Int):=[fun d=>d.create dB,fun d=>d.append dB b,fun d=>d.sync dB,fun d=>d.rename dB bM]
def rewrite (d:D.Dsk) (count:Nat) (list:List R.Rc):D.Dsk × Nat × Int :=
 if (R.bH list 0 []).2≠0 then (d,count,(R.bH list 0 []).2)
 else if (steps d (moves (R.bH list 0 []).1)).2.1=4 then ((steps d (moves (R.bH list 0 []).1)).1.syncNames.1,list.length,(steps d (moves (R.bH list 0 []).1)).1.syncNames.2)
 else if (steps d (moves (R.bH list 0 []).1)).2.1=0 then ((steps d (moves (R.bH list 0 []).1)).1,count,(steps d (moves (R.bH list 0 []).1)).2.2)
 else (((steps d (moves (R.bH list 0 []).1)).1.remove dB).1,count,(steps d (moves (R.bH list 0 []).1)).2.2)
def add (d:D.Dsk) (count:Nat) (op no:Int) (id:ByteArray):D.Dsk × Nat × Int :=
 if R.code ⟨count,op,no,id⟩≠0 then (d,count,R.code ⟨count,op,no,id⟩)
 else if (d.append bM (R.enc ⟨count,op,no,id⟩)).2≠0 then ((d.append bM (R.enc ⟨count,op,no,id⟩)).1,count,(d.append bM (R.enc ⟨count,op,no,id⟩)).2)
 else (((d.append bM (R.enc ⟨count,op,no,id⟩)).1.sync bM).1,count+1,((d.append bM (R.enc ⟨count,op,no,id⟩)).1.sync bM).2)
def bZ:List (D.Dsk→D.Dsk × Int):=[fun d=>d.create bM,fun d=>d.sync bM,fun d=>d.syncNames]
def hx (i:Nat):UInt8:=if i < 10 then UInt8.ofNat (48+i) else UInt8.ofNat (87+i)
def path (no:Nat):ByteArray:=if no < 4096 then ⟨#[111,47,hx (no / 1024),hx (no / 64 % 16),47,hx (no % 64 / 16),hx (no % 16)]⟩ else ⟨#[]⟩
def isO (nm:ByteArray):Bool:=decide ((L nm).take 2=[111,47])
structure Sto where
 d:D.Dsk
 count:Nat
 tab:D.NM
 used:List Bool
def read (d:D.Dsk) (no:Nat):Option O.Ent:=if (d.read (path no)).2≠0 then none else O.dec (d.read (path no)).1
def aV (E:O.Ent):ByteArray:=E.k++⟨#[10]⟩++E.v
def records (t:D.NM):List R.Rc:=t.map fun p=>⟨0,1,p.2,p.1⟩
def Sto.rewrite (s:Sto):Sto × Int:=({ s with d:=(S.rewrite s.d s.count (records s.tab)).1,count:=(S.rewrite s.d s.count (records s.tab)).2.1 },(S.rewrite s.d s.count (records s.tab)).2.2)
def Sto.tidy (s:Sto):Sto:=if s.count≤2 * s.tab.length+16 then s else s.rewrite.1
def aHS (list:List R.Rc):D.NM:=list.foldl (fun t r=>if r.op=1 then D.put t r.id r.no.toNat else D.del t r.id) []
def marks (slots:Nat) (t:D.NM):List Bool:=(List.range slots).map fun no=>t.any fun p=>decide (p.2=no)
def lay (d:D.Dsk) (p:ByteArray) (b:List UInt8):D.Dsk × Bool × Int :=
 let x:=if has d.list p then d.remove p else (d,0)
 if x.2≠0 then (x.1,false,x.2) else
 let y:=x.1.create p
 if y.2≠0 then (y.1,false,y.2) else
 let z:=y.1.append p b
 if z.2≠0 then (z.1,true,z.2) else
 let u:=z.1.sync p
 if u.2≠0 then (u.1,true,u.2) else (u.1.syncNames.1,true,u.1.syncNames.2)
def Sto.free (s:Sto) (no:Nat):Sto:={ s with d:=(s.d.remove (path no)).1,used:=s.used.set no false }
def iG (E:O.Ent):Int:=yO E.k E.v E.s E.r E.m E.fs E.body.length E.asked E.got
def gY (E:O.Ent):List UInt8:=sW E.k E.v E.s E.r E.m E.fs E.body E.asked E.got
def Sto.freed (s:Sto) (id:ByteArray):Sto:=match D.find s.tab id with
 | some old=>s.free old
 | none=>s
def Sto.took (s:Sto) (no:Nat) (id:ByteArray):Sto:={ s with tab:=D.put s.tab id no,used:=s.used.set no true }
def Sto.entered (s:Sto) (no:Nat) (id:ByteArray) (x:D.Dsk × Bool × Int):Sto × Int :=
 let y:D.Dsk × Nat × Int:=if x.2.2=0 then add x.1 s.count 1 no id else (x.1,s.count,x.2.2)
 if y.2.1=s.count then ({ s with d:=if x.2.1 then (y.1.remove (path no)).1 else y.1 },y.2.2) else
 (((({ s with d:=y.1,count:=y.2.1 }:Sto).freed id).took no id).tidy,y.2.2)
def Sto.put (s:Sto) (E:O.Ent):Sto × Int :=
 if iG E≠0 then (s,iG E) else
 if 4096 < (aV E).size then (s,101) else
 match s.used.findIdx? (fun x=>x=false) with
 | none=>(s,130)
 | some no=>s.entered no (aV E) (lay s.d (path no) (gY E))
def Sto.drop (s:Sto) (id:ByteArray):Sto × Int :=
 match D.find s.tab id with
 | none=>(s,90)
 | some no =>
  let y:=add s.d s.count 2 no id
  if y.2.1=s.count then ({ s with d:=y.1 },y.2.2) else
  ((({ s with d:=y.1,count:=y.2.1,tab:=D.del s.tab id }:Sto).free no).tidy,y.2.2)
def Sto.get (s:Sto) (id:ByteArray):Option O.Ent :=
 match D.find s.tab id with
 | none=>none
 | some no=>read s.d no
def Sto.ids (s:Sto):List ByteArray:=s.tab.map (·.1)
end S
end Go.Proofs.YthjeglnkgdpijaaGreatDoor
