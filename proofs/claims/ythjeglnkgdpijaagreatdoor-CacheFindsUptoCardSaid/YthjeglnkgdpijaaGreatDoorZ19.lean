/- What an append to a file leaves of the disk's form in memory. The walk of the disk's Append. The log's records, the log on the disk, and the store over both, as plain states. Conditions: as each theorem states them. -/
import Derived.Test.YthjeglnkgdpijaaGreatDoorObjA
set_option maxHeartbeats 4000000
namespace Go.Proofs.YthjeglnkgdpijaaGreatDoor
open Go Go.RowKit Go.Maps
def DM.grew (M:DM) (no:Nat) (A:Option Addr) (c:Nat):DM:={ M with da:=fun i=>if i=no then A else M.da i,dc:=fun i=>if i=no then c else M.dc i }
def D.Dsk.wrote (s:D.Dsk) (no:Nat) (d:List UInt8):D.Dsk:={ s with data:=s.data.set no (s.data.getD no []++d) }
theorem D.Dsk.wrote_size (s:D.Dsk) {no:Nat} (hn:no < s.data.length) (d:List UInt8):(s.wrote no d).size no=s.size no+d.length:=by
 unfold D.Dsk.wrote D.Dsk.size
 simp [List.getD,hn]
theorem D.Dsk.wrote_same (s:D.Dsk) (no:Nat) (d:List UInt8) {i:Nat} (hi:i≠no):(s.wrote no d).data.getD i []=s.data.getD i []:=by
 unfold D.Dsk.wrote
 simp [List.getD,List.getElem?_set_ne (fun h=>hi h.symm)]
section
variable {B:Nat} {M:DM} {s:D.Dsk} {w w1 w':World} {A A':Option Addr} {c' n:Nat} {d:List UInt8} {no:Nat}
theorem Stepped.rd {M':DM} {s':D.Dsk} {size:Nat} {xs:List Value} (h:Stepped M s w M' s' w') (hx:Rd w A n size xs) (hA:0 < n→∀ a,A=some a→¬ M.foot s a.block):Rd w' A n size xs :=
 ⟨hx.1,fun hn=>by
  obtain⟨b,o,rfl,hlt,hc⟩:=hx.2 hn
  have hbl:w'.heap[b]?=w.heap[b]?:=h.block b hlt (hA hn _ rfl)
  exact⟨b,o,rfl,Nat.lt_of_lt_of_le hlt h.size,fun j u hu=>(World.cell?_of_block (w:=w) (a:=⟨b,o+j,none⟩) hbl).trans (hc j u hu)⟩⟩
theorem dD.wrote (h:dD B M s w) (hn:no < s.data.length) (ha:App w w1 (M.da no) (M.dc no) A' c') (hrow:Row w1 B 5 1 A' (s.size no+d.length) c' (aB (s.data.getD no []++d))) :
  dD B (M.grew no A' c') (s.wrote no d) (w1.setCell ⟨M.fa no,1,none⟩ (.slice A' (s.size no+d.length) c')):=by
 obtain⟨g1,g2,g3⟩:=h.files no hn
 have hg:=ha.grown
 have hT:∀ k,ownB (M.da no) (M.dc no)=some k→Tag w k 5:=fun k hk=>g2.tag hk
 have hb:∀ {k t},Tag w k t→t≠5→ownB (M.da no) (M.dc no)≠some k:=fun ht hn e=>ht.ne (hT _ e) hn rfl
 have hF1:=g1.keptG hg (hb g1.tag (by decide))
 have hg2:=aT w1 (M.fa no) 1 (.slice A' (s.size no+d.length) c')
 have hT2:=hF1.tag
 have hb2:∀ {k t},Tag w1 k t→t≠100→some (M.fa no)≠some k:=fun ht hn e=>ht.ne hT2 hn (by simpa using e.symm)
 have hmap:∀ {K:TypeId} {R:Value→Option (DataW Unit × List MemPlace)} {b n:Nat} {D:DataW Unit},w.ownsMap Tryz.prog K R b n D→(w1.setCell ⟨M.fa no,1,none⟩ (.slice A' (s.size no+d.length) c')).ownsMap Tryz.prog K R b n D:=fun hm=>by
  have h1:=hm.kept hg (fun e=>(hT _ e.symm).map (aC hm) rfl)
  exact h1.kept hg2 (fun e=>hT2.map (aC h1) (by simpa using e.symm))
 have hblk:∀ {k:Nat} {cs:Array Value} {t:TypeId},Blk w k cs t→t≠5→t≠100→Blk (w1.setCell ⟨M.fa no,1,none⟩ (.slice A' (s.size no+d.length) c')) k cs t:=fun hk h1 h2=>by
  have q:=hk.keptG hg (hb hk.tag h1)
  exact q.keptG hg2 (hb2 q.tag h2)
 have hrw:∀ {e:TypeId} {A:Option Addr} {n c:Nat} {xs:List Value},Row w B e 1 A n c xs→e≠5→e≠100→Row (w1.setCell ⟨M.fa no,1,none⟩ (.slice A' (s.size no+d.length) c')) B e 1 A n c xs:=fun hk h1 h2=>by
  have q:=hk.keptG hg (fun k hk2=>hb (hk.tag hk2) h1)
  exact q.keptG hg2 (fun k hk2=>hb2 (q.tag hk2) h2)
 have hlen:(s.wrote no d).data.length=s.data.length:=by unfold D.Dsk.wrote;simp
 refine⟨?_,hmap h.now,hmap h.safe,h.ne,hrw h.pend (by decide) (by decide),h.chg.imp (fun c v hc=>(hc.keptT hg hT (by decide)).keptT hg2 (fun k e=>by cases e;exact hT2) (by decide)),hrw h.fails (by decide) (by decide),fun i hi=>?_,fun i j hi hj hij=>?_,h.ge⟩
 ·show Blk _ _ #[_,_,_,.int .i64 ((s.wrote no d).data.length:Nat),_,_,_,_] _
  rw[hlen]
  exact hblk h.blk (by decide) (by decide)
 ·rw[hlen]at hi
  obtain⟨f1,f2,f3⟩:=h.files i hi
  by_cases e:i=no
  ·subst e
   have q1:(M.grew i A' c').da i=A':=if_pos rfl
   have q2:(M.grew i A' c').dc i=c':=if_pos rfl
   have q3:(s.wrote i d).data.getD i []=s.data.getD i []++d:=by unfold D.Dsk.wrote;simp [List.getD,hn]
   refine⟨?_,?_,f3⟩
   ·rw[q1,q2,s.wrote_size hn d]
    exact hF1.set 1 _
   ·rw[q1,q2,q3,s.wrote_size hn d]
    exact hrow.keptG hg2 (fun k hk=>hb2 (hrow.tag hk) (by decide))
  ·have q1:(M.grew no A' c').da i=M.da i:=if_neg e
   have q2:(M.grew no A' c').dc i=M.dc i:=if_neg e
   have q3:=s.wrote_same no d e
   have q4:(s.wrote no d).size i=s.size i:=by unfold D.Dsk.size;rw[q3]
   refine⟨?_,?_,f3⟩
   ·rw[q1,q2,q4]
    have x:=f1.keptG hg (hb f1.tag (by decide))
    exact x.keptG hg2 (fun e3=>(h.apart no i hn hi (fun h=>e h.symm)).1 (by simpa using e3))
   ·rw[q1,q2,q3,q4]
    have x:=f2.keptG hg (fun k hk e3=>(h.apart no i hn hi (fun h=>e h.symm)).2 k e3 hk)
    exact x.keptG hg2 (fun k hk=>hb2 (x.tag hk) (by decide))
 ·rw[hlen]at hi hj
  refine⟨(h.apart i j hi hj hij).1,?_⟩
  have hnew:∀ i,i < s.data.length→i≠no→∀ k,ownB A' c'=some k→ownB (M.da i) (M.dc i)≠some k:=fun i hi e k hk hk2=>by
   rcases ha.moved with ⟨rfl,rfl⟩ | ⟨g,rfl,hg⟩
   ·exact (h.apart no i hn hi (fun h=>e h.symm)).2 k hk hk2
   ·have:=((h.files i hi).row.lt k hk2).2
    unfold ownB at hk
    split at hk
    ·cases hk
    ·obtain rfl:g=k:=by simpa using hk
     omega
  by_cases e1:i=no
  ·subst e1
   have e2:j≠i:=fun h=>hij h.symm
   show ∀ k,ownB (if i=i then A' else M.da i) (if i=i then c' else M.dc i)=some k→ownB (if j=i then A' else M.da j) (if j=i then c' else M.dc j)≠some k
   rw[if_pos rfl,if_pos rfl,if_neg e2,if_neg e2]
   exact hnew j hj e2
  ·by_cases e2:j=no
   ·subst e2
    show ∀ k,ownB (if i=j then A' else M.da i) (if i=j then c' else M.dc i)=some k→ownB (if j=j then A' else M.da j) (if j=j then c' else M.dc j)≠some k
    rw[if_neg e1,if_neg e1,if_pos rfl,if_pos rfl]
    exact fun k hk hk2=>hnew i hi e1 k hk2 hk
   ·show ∀ k,ownB (if i=no then A' else M.da i) (if i=no then c' else M.dc i)=some k→ownB (if j=no then A' else M.da j) (if j=no then c' else M.dc j)≠some k
    rw[if_neg e1,if_neg e1,if_neg e2,if_neg e2]
    exact (h.apart i j hi hj hij).2
theorem Stepped.wrote (hn:no < s.data.length) (ha:App w w1 (M.da no) (M.dc no) A' c'):Stepped M s w (M.grew no A' c') (s.wrote no d) (w1.setCell ⟨M.fa no,1,none⟩ (.slice A' (s.size no+d.length) c')):=by
 have hlen:(s.wrote no d).data.length=s.data.length:=by unfold D.Dsk.wrote;simp
 have h1:Stepped M s w (M.grew no A' c') (s.wrote no d) w1:=by
  refine Stepped.grown ha.grown (fun k hk=>.inr (.inr (.inr (.inr ⟨no,hn,.inr hk⟩)))) (fun k hf=>?_) rfl
  rcases hf with hf | hf | hf | hf | ⟨i,hi,hf⟩
  ·exact .inl (.inl hf)
  ·exact .inl (.inr (.inl hf))
  ·exact .inl (.inr (.inr (.inl hf)))
  ·exact .inl (.inr (.inr (.inr (.inl hf))))
  ·rw[hlen]at hi
   rcases hf with hf | hf
   ·exact .inl (.inr (.inr (.inr (.inr ⟨i,hi,.inl hf⟩))))
   ·by_cases e:i=no
    ·subst e
     change ownB (if i=i then A' else M.da i) (if i=i then c' else M.dc i)=some k at hf
     rw[if_pos rfl,if_pos rfl]at hf
     rcases ha.moved with ⟨rfl,rfl⟩ | ⟨g,rfl,hg⟩
     ·exact .inl (.inr (.inr (.inr (.inr ⟨i,hi,.inr hf⟩))))
     ·refine .inr ?_
      unfold ownB at hf
      split at hf
      ·cases hf
      ·obtain rfl:g=k:=by simpa using hf
       exact hg
    ·change ownB (if i=no then A' else M.da i) (if i=no then c' else M.dc i)=some k at hf
     rw[if_neg e,if_neg e]at hf
     exact .inl (.inr (.inr (.inr (.inr ⟨i,hi,.inr hf⟩))))
 exact h1.trans (Stepped.file (M:=M.grew no A' c') (by rw[hlen];exact hn) rfl)
end
theorem pR (B:Nat) (M:DM) (s:D.Dsk) (nm:ByteArray) (A:Option Addr) (n c:Nat) (l:List UInt8) (w:World) (h:dD B M s w) (hs:s.Sml) (ok:s.Ok) (hu:s.used≤1152921504606846976) (hrm:0≤s.room∧s.room≤1152921504606846976) (hn:nm.size≤1099511627776)
  (hl:l.length=n) (hln:n≤1099511627776) (hx:Rd w A n 1 (aB l)) (hA:0 < n→∀ a,A=some a→¬ M.foot s a.block) :
  Calls Tryz.prog 105 #[.pointer (some ⟨M.d,0,none⟩),.string nm,.slice A n c] w (bF B M s w (s.append nm l)):=by
 have HON:=aH (on_any B M s nm none 0 0 0 [] w (fun u hg=>h.below (grown_below hg)) ⟨hs.n0,hs.n⟩ hs.fails (by omega) rfl (fun x hx=>by rw[List.mem_singleton.1 hx];exact hn) (Row.none_ _ _ _ _) (zF _))
 obtain⟨G,hG⟩:∃ G,s.append nm l=G:=⟨_,rfl⟩
 have HG:Hid (G=match s.look nm [] with | (s1,_,some no)=>(if 0 < l.length∧s1.room < (s1.used:Int)+l.length then (s1,92) else (s1.wrote no l,0)) | (s1,e,none)=>(s1,e)):=aH (by rw[← hG];exact D.Dsk.on_look ..)
 rw[hG]
 have HX:=aH hx
 have HA:=aH hA
 clear hG h hx hA
 go_enter Tryz.func105,Tryz.ntmps105
 go_wp2_with fail
 refine HON.out.mono ?_
 rintro e w2 ⟨rfl,u,hg,hd2,hs2⟩
 have hst:=(Stepped.below (grown_below hg):Stepped M s w M s u).trans hs2
 have HX2:=aH (hst.rd HX.out HA.out)
 have HS2:=aH hst
 clear hg hs2 HON HX HA hst
 rcases s.look_or nm [] with ⟨k,e,hlk,he⟩ | ⟨k,no,hlk,hf⟩
 ·rw[hlk]at hd2 HS2 HG
  rw[hlk]
  have HD2:=aH hd2
  have heb:(e==0)=false:=beq_eq_false_iff_ne.2 he
  clear hd2 hlk
  go_wp2
  go_ret
  exact⟨by rw[HG.out];rfl,M,by rw[HG.out];exact HD2.out,by rw[HG.out];exact HS2.out⟩
 rw[hlk]at hd2 HS2 HG
 rw[hlk]
 have hno:=D.find_lt ok hf
 have okn:({ s with n:=k }:D.Dsk).Ok:=⟨ok.lens,ok.upN,ok.upS,ok.inN,ok.inS,ok.inP,ok.fold,ok.firms⟩
 have hsz:=hs.size no
 have HG2:Hid (G=if 0 < l.length∧s.room < (s.used:Int)+l.length then (({ s with n:=k }:D.Dsk),(92:Int)) else (({ s with n:=k }:D.Dsk).wrote no l,0)):=HG
 clear HG hlk hf
 dsimp only[D.lG]
 have hss:∀ no,({ s with n:=k }:D.Dsk).size no≤1099511627776:=hs.size
 have hno2:no < ({ s with n:=k }:D.Dsk).data.length:=hno
 have hsz2:({ s with n:=k }:D.Dsk).size no≤1099511627776:=hs.size no
 have hu2:({ s with n:=k }:D.Dsk).used≤1152921504606846976:=hu
 have HG3:Hid (G=if 0 < l.length∧({ s with n:=k }:D.Dsk).room < ((({ s with n:=k }:D.Dsk).used:Nat):Int)+l.length then (({ s with n:=k }:D.Dsk),(92:Int)) else (({ s with n:=k }:D.Dsk).wrote no l,0)):=HG2
 have hrm2:0≤({ s with n:=k }:D.Dsk).room∧({ s with n:=k }:D.Dsk).room≤1152921504606846976:=hrm
 clear HG2 hsz hno hu hrm
 generalize ({ s with n:=k }:D.Dsk)=T at *
 have HD2:=aH hd2
 have HOK:=aH okn
 have HSS:=aH hss
 clear hd2 okn hss
 by_cases h0:n=0
 ·have hl0:l=[]:=List.eq_nil_of_length_eq_zero (by omega)
  subst hl0
  subst h0
  rw[if_neg (by simp)]at HG3
  go_upto_region 4 with fail
  go_region
  have HD3:=aH (HD2.out.below (zB _ _).drew)
  have HS3:Hid (Stepped M s w M T w2.drew):=aH (HS2.out.trans (Stepped.below (zB _ _).drew))
  have HX3:Hid (Rd w2.drew A 0 1 (aB [])):=aH HX2.out.drew
  clear HD2 HS2 HX2
  generalize w2.drew=w3 at *
  have z1:w3.cell? ⟨M.fa no,1,none⟩=some (.slice (M.da no) (T.size no) (M.dc no)):=(HD3.out.files no hno2).blk.cell 1 rfl
  have hB3:B≤w3.heap.size:=HD3.out.base
  go_wp2_with (at_builtin;refine aQ0 _ rfl _ _ rfl B (M.da no) (T.size no) (M.dc no) (T.data.getD no []) rfl (HD3.out.files no hno2).row _ 0 _ [] rfl HX3.out (by omega) hB3 ?_;intro A1 c1 w4 hr4 ha4;have hF4:=(HD3.out.files no hno2).blk.keptG ha4.grown (fun e=>((HD3.out.files no hno2).row.tag e).ne (HD3.out.files no hno2).blk.tag (by decide) rfl);have f4:=hF4.free 1;have g4:w4.cell? ⟨M.fa no,1,none⟩=some (.slice (M.da no) (T.size no) (M.dc no)):=hF4.cell 1 rfl)
  go_ret
  exact⟨by rw[HG3.out];rfl,_,by rw[HG3.out];exact HD3.out.wrote hno2 ha4 hr4,by rw[HG3.out];exact HS3.out.trans (Stepped.wrote hno2 ha4)⟩
 have hnp:0 < n:=Nat.pos_of_ne_zero h0
 have hnpi:(n:Int) > 0:=by omega
 have hS0:dD B M T w2.drew∧Below w2.heap.size w2 w2.drew:=⟨HD2.out.below (zB _ _).drew,(zB _ _).drew⟩
 have hsum:((T.used:Int)+n)≤4611686018427387904:=by omega
 have hwr:IntKind.i64.wrap ((T.used:Int)+n)=(T.used:Int)+n:=by rw[IntKind.wrap_i64];omega
 by_cases hfull:T.room < (T.used:Int)+n
 ·rw[if_pos (by rw[hl];exact⟨hnp,hfull⟩)]at HG3
  have hfi:((T.used:Int)+n > T.room):=by omega
  go_upto_region 4 with fail
  refine wp_region_noPanic ?_
  refine HT.begin (n:=14) (S:=(fun u=>dD B M T u∧Below w2.heap.size w2 u)) (by kernel_rfl) hS0 ?_
  generalize w2.drew=wd at *
  refine HT.take 0 (.slice A n c) rfl (by kernel_rfl) (fun _ _ _ h=>h) (Or.inl ⟨by rfl,?_⟩) ?_
  ·intro u hu
   go_simp
  refine HT.take 1 (.int .i64 n) rfl (by kernel_rfl) (fun _ _ _ h=>h) (Or.inl ⟨by rfl,?_⟩) ?_
  ·intro u hu
   go_simp
  refine HT.take 2 (.bool true) rfl (by kernel_rfl) (fun _ _ _ h=>h) (Or.inl ⟨by rfl,?_⟩) (?_:HT _ _ _ _ _ _ _ ⟨#[_,_,_,_,_,_,_,_,_,_,_,_,_,_,_,_,_,_,.slice A n c,.int .i64 n,.bool true,_,_,_,_,_,_,_,_,_,_,_,_,_,_,_,_,_,_,_,_,_],[]⟩ _)
  ·intro u hu
   go_simp
  refine HT.take 3 (.bool true) rfl (by kernel_rfl) (fun _ _ _ h=>h) (Or.inl ⟨by rfl,?_⟩) ?_
  ·intro u hu
   go_simp
  refine HT.take 4 (.pointer (some ⟨M.d,0,none⟩)) rfl (by kernel_rfl) (fun _ _ _ h=>h) (Or.inl ⟨by rfl,?_⟩) ?_
  ·intro u hu
   go_simp
  refine HT.take 6 (.slice A n c) rfl (by kernel_rfl) (fun _ _ _ h=>h) (Or.inl ⟨by rfl,?_⟩) (?_:HT _ _ _ _ _ _ _ ⟨#[_,_,_,_,_,_,_,_,_,_,_,_,_,_,_,_,_,_,.slice A n c,.int .i64 n,.bool true,.bool true,.pointer (some ⟨M.d,0,none⟩),_,.slice A n c,_,_,_,_,_,_,_,_,_,_,_,_,_,_,_,_,_],[]⟩ _)
  ·intro u hu
   go_simp
  refine HT.take 7 (.int .i64 n) rfl (by kernel_rfl) (fun _ _ _ h=>h) (Or.inl ⟨by rfl,?_⟩) ?_
  ·intro u hu
   go_simp
  refine HT.take 9 (.pointer (some ⟨M.d,0,none⟩)) rfl (by kernel_rfl) (fun _ _ _ h=>h) (Or.inl ⟨by rfl,?_⟩) ?_
  ·intro u hu
   go_simp
  refine HT.take 10 (.pointer (some ⟨M.d,0,none⟩)) rfl (by kernel_rfl) (fun _ _ _ h=>h) (Or.inl ⟨by rfl,?_⟩) (?_:HT _ _ _ _ _ _ _ ⟨#[_,_,_,_,_,_,_,_,_,_,_,_,_,_,_,_,_,_,.slice A n c,.int .i64 n,.bool true,.bool true,.pointer (some ⟨M.d,0,none⟩),_,.slice A n c,.int .i64 n,_,.pointer (some ⟨M.d,0,none⟩),.pointer (some ⟨M.d,0,none⟩),_,_,_,_,_,_,_,_,_,_,_,_,_],[]⟩ _)
  ·intro u hu
   go_simp
  refine HT.take 11 (.pointer (some ⟨M.d,4,none⟩)) rfl (by kernel_rfl) (fun _ _ _ h=>h) (Or.inl ⟨by rfl,?_⟩) ?_
  ·intro u hu
   go_simp
  refine HT.take 12 (.int .i64 T.room) rfl (by kernel_rfl) (fun _ _ _ h=>h) (Or.inl ⟨by rfl,?_⟩) (?_:HT _ _ _ _ _ _ _ ⟨#[_,_,_,_,_,_,_,_,_,_,_,_,_,_,_,_,_,_,.slice A n c,.int .i64 n,.bool true,.bool true,.pointer (some ⟨M.d,0,none⟩),_,.slice A n c,.int .i64 n,_,.pointer (some ⟨M.d,0,none⟩),.pointer (some ⟨M.d,0,none⟩),.pointer (some ⟨M.d,4,none⟩),.int .i64 T.room,_,_,_,_,_,_,_,_,_,_,_],[]⟩ _)
  ·intro u hu
   obtain⟨y0,y1,y2,y3,y4,y5,y6,y7⟩:=hu.1.cells
   go_simp
  refine HT.step 5 rfl (by kernel_rfl) (fun hS K hK=>?_)
  go_simp
  refine (aET B M T _ hS.1 HSS.out HOK.out hu2).mono ?_
  rintro e w5 ⟨rfl,hb⟩
  refine hK.out _ _ ⟨hS.1.below hb,aA hS.2.size hS.2 hb⟩ ?_
  clear hK hS hb
  refine HT.take 8 (.int .i64 ((T.used:Int)+n)) rfl (by kernel_rfl) (fun _ _ _ h=>h) (Or.inl ⟨by rfl,?_⟩) ?_
  ·intro u hu
   go_simp
  refine HT.take 13 (.bool true) rfl (by kernel_rfl) (fun _ _ _ h=>h) (Or.inl ⟨by rfl,?_⟩) (?_:HT _ _ _ _ _ _ _ ⟨#[_,_,_,_,_,_,_,_,_,_,_,_,_,_,_,_,_,_,.slice A n c,.int .i64 n,.bool true,.bool true,.pointer (some ⟨M.d,0,none⟩),.int .i64 T.used,.slice A n c,.int .i64 n,.int .i64 ((T.used:Int)+n),.pointer (some ⟨M.d,0,none⟩),.pointer (some ⟨M.d,0,none⟩),.pointer (some ⟨M.d,4,none⟩),.int .i64 T.room,.bool true,_,_,_,_,_,_,_,_,_,_],[]⟩ _)
  ·intro u hu
   go_simp
  refine HT.tail _ rfl rfl (by kernel_rfl) (fun hS=>?_)
  have HD3:=aH hS.1
  have HBB:=aH hS.2
  clear hS hS0
  go_wp2
  refine NoPanic.normal ?_
  go_wp2
  go_ret
  exact⟨by rw[HG3.out];rfl,M,by rw[HG3.out];exact HD3.out,by rw[HG3.out];exact HS2.out.trans (Stepped.below HBB.out)⟩
 ·rw[if_neg (by rw[hl];exact fun h=>hfull h.2)]at HG3
  have hfi:¬ ((T.used:Int)+n > T.room):=by omega
  go_upto_region 4 with fail
  refine wp_region_noPanic ?_
  refine HT.begin (n:=14) (S:=(fun u=>dD B M T u∧Below w2.heap.size w2 u)) (by kernel_rfl) hS0 ?_
  generalize w2.drew=wd at *
  refine HT.take 0 (.slice A n c) rfl (by kernel_rfl) (fun _ _ _ h=>h) (Or.inl ⟨by rfl,?_⟩) ?_
  ·intro u hu
   go_simp
  refine HT.take 1 (.int .i64 n) rfl (by kernel_rfl) (fun _ _ _ h=>h) (Or.inl ⟨by rfl,?_⟩) ?_
  ·intro u hu
   go_simp
  refine HT.take 2 (.bool true) rfl (by kernel_rfl) (fun _ _ _ h=>h) (Or.inl ⟨by rfl,?_⟩) (?_:HT _ _ _ _ _ _ _ ⟨#[_,_,_,_,_,_,_,_,_,_,_,_,_,_,_,_,_,_,.slice A n c,.int .i64 n,.bool true,_,_,_,_,_,_,_,_,_,_,_,_,_,_,_,_,_,_,_,_,_],[]⟩ _)
  ·intro u hu
   go_simp
  refine HT.take 3 (.bool true) rfl (by kernel_rfl) (fun _ _ _ h=>h) (Or.inl ⟨by rfl,?_⟩) ?_
  ·intro u hu
   go_simp
  refine HT.take 4 (.pointer (some ⟨M.d,0,none⟩)) rfl (by kernel_rfl) (fun _ _ _ h=>h) (Or.inl ⟨by rfl,?_⟩) ?_
  ·intro u hu
   go_simp
  refine HT.take 6 (.slice A n c) rfl (by kernel_rfl) (fun _ _ _ h=>h) (Or.inl ⟨by rfl,?_⟩) (?_:HT _ _ _ _ _ _ _ ⟨#[_,_,_,_,_,_,_,_,_,_,_,_,_,_,_,_,_,_,.slice A n c,.int .i64 n,.bool true,.bool true,.pointer (some ⟨M.d,0,none⟩),_,.slice A n c,_,_,_,_,_,_,_,_,_,_,_,_,_,_,_,_,_],[]⟩ _)
  ·intro u hu
   go_simp
  refine HT.take 7 (.int .i64 n) rfl (by kernel_rfl) (fun _ _ _ h=>h) (Or.inl ⟨by rfl,?_⟩) ?_
  ·intro u hu
   go_simp
  refine HT.take 9 (.pointer (some ⟨M.d,0,none⟩)) rfl (by kernel_rfl) (fun _ _ _ h=>h) (Or.inl ⟨by rfl,?_⟩) ?_
  ·intro u hu
   go_simp
  refine HT.take 10 (.pointer (some ⟨M.d,0,none⟩)) rfl (by kernel_rfl) (fun _ _ _ h=>h) (Or.inl ⟨by rfl,?_⟩) (?_:HT _ _ _ _ _ _ _ ⟨#[_,_,_,_,_,_,_,_,_,_,_,_,_,_,_,_,_,_,.slice A n c,.int .i64 n,.bool true,.bool true,.pointer (some ⟨M.d,0,none⟩),_,.slice A n c,.int .i64 n,_,.pointer (some ⟨M.d,0,none⟩),.pointer (some ⟨M.d,0,none⟩),_,_,_,_,_,_,_,_,_,_,_,_,_],[]⟩ _)
  ·intro u hu
   go_simp
  refine HT.take 11 (.pointer (some ⟨M.d,4,none⟩)) rfl (by kernel_rfl) (fun _ _ _ h=>h) (Or.inl ⟨by rfl,?_⟩) ?_
  ·intro u hu
   go_simp
  refine HT.take 12 (.int .i64 T.room) rfl (by kernel_rfl) (fun _ _ _ h=>h) (Or.inl ⟨by rfl,?_⟩) (?_:HT _ _ _ _ _ _ _ ⟨#[_,_,_,_,_,_,_,_,_,_,_,_,_,_,_,_,_,_,.slice A n c,.int .i64 n,.bool true,.bool true,.pointer (some ⟨M.d,0,none⟩),_,.slice A n c,.int .i64 n,_,.pointer (some ⟨M.d,0,none⟩),.pointer (some ⟨M.d,0,none⟩),.pointer (some ⟨M.d,4,none⟩),.int .i64 T.room,_,_,_,_,_,_,_,_,_,_,_],[]⟩ _)
  ·intro u hu
   obtain⟨y0,y1,y2,y3,y4,y5,y6,y7⟩:=hu.1.cells
   go_simp
  refine HT.step 5 rfl (by kernel_rfl) (fun hS K hK=>?_)
  go_simp
  refine (aET B M T _ hS.1 HSS.out HOK.out hu2).mono ?_
  rintro e w5 ⟨rfl,hb⟩
  refine hK.out _ _ ⟨hS.1.below hb,aA hS.2.size hS.2 hb⟩ ?_
  clear hK hS hb
  refine HT.take 8 (.int .i64 ((T.used:Int)+n)) rfl (by kernel_rfl) (fun _ _ _ h=>h) (Or.inl ⟨by rfl,?_⟩) ?_
  ·intro u hu
   go_simp
  refine HT.take 13 (.bool false) rfl (by kernel_rfl) (fun _ _ _ h=>h) (Or.inl ⟨by rfl,?_⟩) (?_:HT _ _ _ _ _ _ _ ⟨#[_,_,_,_,_,_,_,_,_,_,_,_,_,_,_,_,_,_,.slice A n c,.int .i64 n,.bool true,.bool true,.pointer (some ⟨M.d,0,none⟩),.int .i64 T.used,.slice A n c,.int .i64 n,.int .i64 ((T.used:Int)+n),.pointer (some ⟨M.d,0,none⟩),.pointer (some ⟨M.d,0,none⟩),.pointer (some ⟨M.d,4,none⟩),.int .i64 T.room,.bool false,_,_,_,_,_,_,_,_,_,_],[]⟩ _)
  ·intro u hu
   go_simp
  refine HT.tail _ rfl rfl (by kernel_rfl) (fun hS=>?_)
  have HD3:=aH hS.1
  have HBB:=aH hS.2
  clear hS hS0
  go_wp2
  refine NoPanic.normal ?_
  have HS3:=aH (HS2.out.trans (Stepped.below HBB.out))
  have HX3:=aH (HX2.out.below HBB.out)
  clear HD2 HS2 HX2
  obtain⟨w3,rfl⟩:∃ w3:World,w3=w5:=⟨_,rfl⟩
  subst hl
  have z1:w3.cell? ⟨M.fa no,1,none⟩=some (.slice (M.da no) (T.size no) (M.dc no)):=(HD3.out.files no hno2).blk.cell 1 rfl
  have hB3:B≤w3.heap.size:=HD3.out.base
  go_wp2_with (at_builtin;refine aQ0 _ rfl _ _ rfl B (M.da no) (T.size no) (M.dc no) (T.data.getD no []) rfl (HD3.out.files no hno2).row _ l.length _ l rfl HX3.out (by omega) hB3 ?_;intro A1 c1 w4 hr4 ha4;have hF4:=(HD3.out.files no hno2).blk.keptG ha4.grown (fun e=>((HD3.out.files no hno2).row.tag e).ne (HD3.out.files no hno2).blk.tag (by decide) rfl);have f4:=hF4.free 1;have g4:w4.cell? ⟨M.fa no,1,none⟩=some (.slice (M.da no) (T.size no) (M.dc no)):=hF4.cell 1 rfl)
  go_ret
  exact⟨by rw[HG3.out];rfl,_,by rw[HG3.out];exact HD3.out.wrote hno2 ha4 hr4,by rw[HG3.out];exact HS3.out.trans (Stepped.wrote hno2 ha4)⟩
end Go.Proofs.YthjeglnkgdpijaaGreatDoor
namespace Go.Proofs.YthjeglnkgdpijaaGreatDoor
namespace R
structure Rc where
 seq:Int
 op:Int
 no:Int
 id:ByteArray
def Rc.zero:Rc:=⟨0,0,0,⟨#[]⟩⟩
def word (v:Int):Bool:=decide (0≤v∧v≤4294967295)
def code (r:Rc):Int:=if (decide (r.op=1)||decide (r.op=2))&&word r.seq&&word r.no then (if r.id.size≤4096 then 0 else 101) else 100
def body (r:Rc):List UInt8:=UInt8.ofNat (192+r.op.toNat)::(beN r.id.size 2++(beN r.seq.toNat 4++(beN r.no.toNat 4++L r.id)))
def enc (r:Rc):List UInt8:=if code r=0 then body r++beN (iP (body r)) 4 else []
def dec (b:List UInt8):Rc × Nat × Int :=
 if b.length=0 then (Rc.zero,0,0)
 else if b.headD 0≠193∧b.headD 0≠194 then (Rc.zero,0,100)
 else if b.length < 3 then (Rc.zero,0,0)
 else if 4096 < O.val ((b.drop 1).take 2) then (Rc.zero,0,100)
 else if b.length < O.val ((b.drop 1).take 2)+15 then (Rc.zero,0,0)
 else if O.val ((b.drop (O.val ((b.drop 1).take 2)+11)).take 4)≠iP (b.take (O.val ((b.drop 1).take 2)+11)) then (Rc.zero,0,100)
 else (⟨(O.val ((b.drop 3).take 4):Nat),((b.headD 0).toNat:Int) - 192,(O.val ((b.drop 7).take 4):Nat),B ((b.drop 11).take (O.val ((b.drop 1).take 2)))⟩,O.val ((b.drop 1).take 2)+15,0)
def bH:List Rc→Nat→List UInt8→List UInt8 × Int
 | [],_,b=>(b,0)
 | r::t,i,b=>if code { r with seq:=i }≠0 then ([],code { r with seq:=i }) else bH t (i+1) (b++enc { r with seq:=i })
end R
namespace S
def has (l:List ByteArray) (x:ByteArray):Bool:=l.any fun y=>decide (y=x)
theorem has_iff {l:List ByteArray} {x:ByteArray}:has l x=true↔x∈l:=by
 unfold has
 rw[List.any_eq_true]
 exact⟨fun⟨y,hy,e⟩=>of_decide_eq_true e ▸ hy,fun h=>⟨x,h,decide_eq_true rfl⟩⟩
def bT:ByteArray:=⟨#[108,111,103]⟩
def dE:ByteArray:=⟨#[108,111,103,46,110,101,119]⟩
def steps:D.Dsk→List (D.Dsk→D.Dsk × Int)→D.Dsk × Nat × Int
 | s,[]=>(s,0,0)
 | s,f::r=>if (f s).2≠0 then ((f s).1,0,(f s).2) else ((steps (f s).1 r).1,(steps (f s).1 r).2.1+1,(steps (f s).1 r).2.2)
def moves (b:List UInt8):List (D.Dsk→D.Dsk × Int):=[fun d=>d.create dE,fun d=>d.append dE b,fun d=>d.sync dE,fun d=>d.rename dE bT]
def rewrite (d:D.Dsk) (count:Nat) (list:List R.Rc):D.Dsk × Nat × Int :=
 if (R.bH list 0 []).2≠0 then (d,count,(R.bH list 0 []).2)
 else if (steps d (moves (R.bH list 0 []).1)).2.1=4 then ((steps d (moves (R.bH list 0 []).1)).1.syncNames.1,list.length,(steps d (moves (R.bH list 0 []).1)).1.syncNames.2)
 else if (steps d (moves (R.bH list 0 []).1)).2.1=0 then ((steps d (moves (R.bH list 0 []).1)).1,count,(steps d (moves (R.bH list 0 []).1)).2.2)
 else (((steps d (moves (R.bH list 0 []).1)).1.remove dE).1,count,(steps d (moves (R.bH list 0 []).1)).2.2)
def add (d:D.Dsk) (count:Nat) (op no:Int) (id:ByteArray):D.Dsk × Nat × Int :=
 if R.code ⟨count,op,no,id⟩≠0 then (d,count,R.code ⟨count,op,no,id⟩)
 else if (d.append bT (R.enc ⟨count,op,no,id⟩)).2≠0 then ((d.append bT (R.enc ⟨count,op,no,id⟩)).1,count,(d.append bT (R.enc ⟨count,op,no,id⟩)).2)
 else (((d.append bT (R.enc ⟨count,op,no,id⟩)).1.sync bT).1,count+1,((d.append bT (R.enc ⟨count,op,no,id⟩)).1.sync bT).2)
def dB:List (D.Dsk→D.Dsk × Int):=[fun d=>d.create bT,fun d=>d.sync bT,fun d=>d.syncNames]
def hx (i:Nat):UInt8:=if i < 10 then UInt8.ofNat (48+i) else UInt8.ofNat (87+i)
def path (no:Nat):ByteArray:=if no < 4096 then ⟨#[111,47,hx (no / 1024),hx (no / 64 % 16),47,hx (no % 64 / 16),hx (no % 16)]⟩ else ⟨#[]⟩
def isO (nm:ByteArray):Bool:=decide ((L nm).take 2=[111,47])
structure Sto where
 d:D.Dsk
 count:Nat
 tab:D.NM
 used:List Bool
def read (d:D.Dsk) (no:Nat):Option O.Ent:=if (d.read (path no)).2≠0 then none else O.dec (d.read (path no)).1
def aU (E:O.Ent):ByteArray:=E.k++⟨#[10]⟩++E.v
def records (t:D.NM):List R.Rc:=t.map fun p=>⟨0,1,p.2,p.1⟩
def Sto.rewrite (s:Sto):Sto × Int:=({ s with d:=(S.rewrite s.d s.count (records s.tab)).1,count:=(S.rewrite s.d s.count (records s.tab)).2.1 },(S.rewrite s.d s.count (records s.tab)).2.2)
def Sto.tidy (s:Sto):Sto:=if s.count≤2 * s.tab.length+16 then s else s.rewrite.1
def aIQ (list:List R.Rc):D.NM:=list.foldl (fun t r=>if r.op=1 then D.put t r.id r.no.toNat else D.del t r.id) []
def marks (slots:Nat) (t:D.NM):List Bool:=(List.range slots).map fun no=>t.any fun p=>decide (p.2=no)
def lay (d:D.Dsk) (p:ByteArray) (b:List UInt8):D.Dsk × Bool × Int :=
 let x:=if has d.list p then d.remove p else (d,0)
 if x.2≠0 then (x.1,false,x.2) else
 let y:=x.1.create p
 if y.2≠0 then (y.1,false,y.2) else
 let z:=y.1.append p b
 if z.2≠0 then (z.1,true,z.2) else
 let u:=z.1.sync p
 if u.2≠0 then (u.1,true,u.2) else (u.1.syncNames.1,true,u.1.syncNames.2)
def Sto.free (s:Sto) (no:Nat):Sto:={ s with d:=(s.d.remove (path no)).1,used:=s.used.set no false }
def gU (E:O.Ent):Int:=xO E.k E.v E.s E.r E.m E.fs E.body.length E.asked E.got
def gY (E:O.Ent):List UInt8:=rQ E.k E.v E.s E.r E.m E.fs E.body E.asked E.got
def Sto.freed (s:Sto) (id:ByteArray):Sto:=match D.find s.tab id with
 | some old=>s.free old
 | none=>s
def Sto.took (s:Sto) (no:Nat) (id:ByteArray):Sto:={ s with tab:=D.put s.tab id no,used:=s.used.set no true }
def Sto.entered (s:Sto) (no:Nat) (id:ByteArray) (x:D.Dsk × Bool × Int):Sto × Int :=
 let y:D.Dsk × Nat × Int:=if x.2.2=0 then add x.1 s.count 1 no id else (x.1,s.count,x.2.2)
 if y.2.1=s.count then ({ s with d:=if x.2.1 then (y.1.remove (path no)).1 else y.1 },y.2.2) else
 (((({ s with d:=y.1,count:=y.2.1 }:Sto).freed id).took no id).tidy,y.2.2)
def Sto.put (s:Sto) (E:O.Ent):Sto × Int :=
 if gU E≠0 then (s,gU E) else
 if 4096 < (aU E).size then (s,101) else
 match s.used.findIdx? (fun x=>x=false) with
 | none=>(s,130)
 | some no=>s.entered no (aU E) (lay s.d (path no) (gY E))
def Sto.drop (s:Sto) (id:ByteArray):Sto × Int :=
 match D.find s.tab id with
 | none=>(s,90)
 | some no =>
  let y:=add s.d s.count 2 no id
  if y.2.1=s.count then ({ s with d:=y.1 },y.2.2) else
  ((({ s with d:=y.1,count:=y.2.1,tab:=D.del s.tab id }:Sto).free no).tidy,y.2.2)
def Sto.get (s:Sto) (id:ByteArray):Option O.Ent :=
 match D.find s.tab id with
 | none=>none
 | some no=>read s.d no
def Sto.ids (s:Sto):List ByteArray:=s.tab.map (·.1)
end S
end Go.Proofs.YthjeglnkgdpijaaGreatDoor
