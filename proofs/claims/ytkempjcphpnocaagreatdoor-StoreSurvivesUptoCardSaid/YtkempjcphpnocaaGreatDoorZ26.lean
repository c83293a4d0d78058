/- The walk of the store's Drop. Conditions: what the disk's steps ask; at most 2^18 entries; an Id of at most 2^20 bytes. The walk of the store's Open over a new disk. Conditions: what the disk's steps ask. A log of which the last record is torn; the records of any bytes; what a store opened over files is to show. No program here. -/
import Derived.Test.YtkempjcphpnocaaGreatDoorZ19
import Derived.Maps.OwnSet
namespace Go.Proofs.YtkempjcphpnocaaGreatDoor
open Go Go.RowKit Go.Maps
theorem tab_deleted {b:Nat} {t:D.NM} {n:Nat} {w:World} {nm:ByteArray} (h:w.ownsMap Tryz.prog 9 S.intR b n ((S.datT t).del (D.key nm))):w.ownsMap Tryz.prog 9 S.intR b (D.del t nm).length (S.datT (D.del t nm)):=by
 unfold S.datT at h
 rw[D.datum_del]at h
 exact tab_tight h
set_option maxRecDepth 100000 in
set_option maxHeartbeats 4000000 in
theorem sdrop_any (B:Nat) (X:SM) (s:S.Sto) (id:ByteArray) (m:Nat) (w:World) (h:StAt B X s w) (hf:D.Fit m s.d) (hm:m≤134000000) (hu:D.Up s.tab) (hl:s.tab.length≤262144) (hz:∀ p∈s.tab,p.1.size≤1048576) (hc:s.count≤549755813888)
  (hlen:s.used.length≤4096) (htab:∀ p∈s.tab,p.2 < s.used.length) (hi:id.size≤1048576) :
  Calls Tryz.prog 18 #[.pointer (some ⟨X.st,0,none⟩),.string id] w (RetSto B X s w (s.drop id).1 (.int .i64 (s.drop id).2)):=by
 have HD:=Lib.hid h
 have HF:=Lib.hid hf
 have hlk:=tab_ok h.tab id (by simp only[maxLen];omega)
 obtain⟨y0,y1,y2,y3⟩:=h.cells
 cases hfd:D.find s.tab id with
 | none =>
  have hG:s.drop id=(s,90):=by unfold S.Sto.drop;rw[hfd]
  rw[hG]
  rw[hfd]at hlk
  clear h hf hu hz htab y0 y1 y3
  go_enter Tryz.func18,Tryz.ntmps18
  go_wp2
  go_ret
  exact⟨rfl,X,HD.out,Went.refl _ _,rfl,rfl,rfl⟩
 | some no =>
 have hmem:(id,no)∈s.tab:=D.find_mem hfd
 have hno:no < s.used.length:=htab _ hmem
 rw[hfd]at hlk
 obtain⟨Y,hY⟩:∃ Y,S.add s.d s.count 2 no id=Y:=⟨_,rfl⟩
 obtain⟨G,hG⟩:∃ G,s.drop id=G:=⟨_,rfl⟩
 have HG:Hid (G=if Y.2.1=s.count then (({ s with d:=Y.1 }:S.Sto),Y.2.2) else ((({ s with d:=Y.1,count:=Y.2.1,tab:=D.del s.tab id }:S.Sto).free no).tidy,Y.2.2)):=Lib.hid (by
  rw[← hG,← hY]
  unfold S.Sto.drop
  rw[hfd])
 rw[hG]
 have HCN:=Lib.hid (count_any B X.lg X.M s.d s.count w h.log)
 have HAD:=Lib.hid (add_any B X.lg X.M s.d s.count m 2 no id w h.log hf (by omega) (by omega) (by omega))
 have hF5:D.Fit (m+2) Y.1:=by rw[← hY];exact S.add_fit hf _ _ _ _
 have hcnt:Y.2.1=s.count∨Y.2.1=s.count+1:=by
  rw[← hY]
  unfold S.add
  split
  ·exact .inl rfl
  ·split
   ·exact .inl rfl
   ·exact .inr rfl
 rw[hY]at HAD
 have HF5:=Lib.hid hF5
 have HU:=Lib.hid (D.up_del (nm:=id) hu)
 have HZ:=Lib.hid (fun p (hp:p∈D.del s.tab id)=>hz p (D.mem_del.1 hp).1)
 have hdl:(D.del s.tab id).length≤s.tab.length:=List.length_filter_le _ _
 clear h hf hu hz htab hmem hfd hG hY hF5 y0 y3
 simp only[Option.getD_some,Option.isSome_some]at hlk
 go_enter Tryz.func18,Tryz.ntmps18
 go_wp2_with fail
 clear hlk y2
 refine HCN.out.mono ?_
 rintro e w1 ⟨rfl,rfl⟩
 clear HCN
 go_wp2_with fail
 clear y1
 refine HAD.out.mono ?_
 rintro e w5 ⟨rfl,M5,h5,hw5,hm5⟩
 obtain⟨d5,n5,e5⟩:=Y
 dsimp only at h5 hw5 HG hcnt HF5 ⊢
 obtain⟨h6,hw6⟩:=HD.out.logged h5 hw5 hm5
 have HD6:=Lib.hid h6
 have HW6:=Lib.hid hw6
 have HM6:=Lib.hid hm5
 have HCN:=Lib.hid (count_any B X.lg M5 d5 n5 w5 h5)
 obtain⟨y0,y1,y2,y3⟩:=h6.cells
 dsimp only at y1 y2
 clear h5 hw5 hm5 h6 hw6 HAD y0 y3
 go_wp2_with fail
 refine HCN.out.mono ?_
 rintro e w6 ⟨rfl,rfl⟩
 clear HCN y1
 by_cases hn5:n5=s.count
 ·rw[if_pos hn5]at HG
  have hnb:((n5:Int)==(s.count:Int))=true:=by rw[hn5];exact beq_self_eq_true _
  have HS5:Hid (({ s with d:=d5,count:=n5 }:S.Sto)={ s with d:=d5 }):=Lib.hid (by rw[hn5])
  rw[HS5.out]at HD6 HW6
  go_wp2
  go_ret
  exact⟨by rw[HG.out]<;>rfl,{ X with M:=M5 },by rw[HG.out];exact HD6.out,by rw[HG.out];exact HW6.out,rfl,HM6.out,rfl⟩
 ·rw[if_neg hn5]at HG
  have hnb:((n5:Int)==(s.count:Int))=false:=beq_eq_false_iff_ne.2 (by omega)
  have hn51:n5=s.count+1:=by omega
  obtain⟨s5,hs5⟩:∃ s5:S.Sto,s5={ s with d:=d5,count:=n5 }:=⟨_,rfl⟩
  have h5t:s5.tab=s.tab:=by rw[hs5]
  have HT5:=Lib.hid (show ({ s with d:=d5,count:=n5,tab:=D.del s.tab id }:S.Sto)={ s5 with tab:=D.del s.tab id } by rw[hs5])
  have h5u:s5.used.length=s.used.length:=by rw[hs5]
  have h5c:s5.count=n5:=by rw[hs5]
  have HF5d:Hid (D.Fit (m+2) s5.d):=Lib.hid (by rw[hs5];exact HF5.out)
  rw[← hs5]at HD6 HW6
  rw[HT5.out]at HG
  clear hs5 HF5 HT5
  go_wp2_with (at_delete;refine wpList_delete_own _ rfl _ _ 84 9 rfl 3 (string_keyed strT_ul) tbT_ul S.intR X.tb s5.tab.length (S.datT s5.tab) rfl HD6.out.tab (.string id) (D.key id) rfl (nmKey id (by simp only[maxLen];omega)) ?_;intro w7 hown7 hturn7;have HOW7:=Lib.hid (tab_deleted hown7);have HGR7:=Lib.hid hturn7.grown;clear hown7 hturn7)
  clear y2
  have HT7:Hid (D.del s5.tab id=D.del s.tab id):=Lib.hid (by rw[h5t])
  rw[HT7.out]at HOW7
  obtain⟨h7,hw7⟩:=HD6.out.tabbed HOW7.out HGR7.out
  have HW7:=Lib.hid (HW6.out.trans hw7)
  have HFR:=Lib.hid (free_any B { X with M:=M5 } { s5 with tab:=D.del s.tab id } no (m+2) w7 h7 HF5d.out (by omega) (by show no < s5.used.length;omega) (by omega))
  have HF8:Hid (D.Fit (m+3) (({ s5 with tab:=D.del s.tab id }:S.Sto).free no).d):=Lib.hid (S.free_fit (s:={ s5 with tab:=D.del s.tab id }) HF5d.out no)
  obtain⟨s8,hs8⟩:∃ s8,(({ s5 with tab:=D.del s.tab id }:S.Sto).free no)=s8:=⟨_,rfl⟩
  have h8t:s8.tab=D.del s.tab id:=by rw[← hs8];rfl
  have h8c:s8.count=n5:=by rw[← hs8];exact h5c
  rw[hs8]at HFR HF8 HG
  clear hs8 h7 hw7 HOW7 HGR7 HD6 HW6 HF5d HT7
  go_wp2_with fail
  refine HFR.out.mono ?_
  rintro e w8 ⟨rfl,X8,hs8,hw8,hst8,hd8,hlg8⟩
  have HTI:=Lib.hid (tidy_any B X8 s8 (m+3) w8 hs8 HF8.out (by omega) (by rw[h8t];exact HU.out) (by rw[h8t];omega) (by rw[h8t];exact HZ.out) (by omega))
  have HW8:=Lib.hid (HW7.out.trans hw8)
  have HX8:Hid (X8.st=X.st∧X8.M.d=X.M.d∧X8.lg=X.lg):=Lib.hid ⟨hst8,hd8.trans HM6.out,hlg8⟩
  dsimp only at hst8
  rw[hst8]at HTI
  clear hs8 hw8 hst8 hd8 hlg8 HFR HW7
  go_wp2_with fail
  refine HTI.out.mono ?_
  rintro e w9 ⟨rfl,X9,hs9,hw9,hst9,hd9,hlg9⟩
  have HS9:=Lib.hid hs9
  have HW9:=Lib.hid (HW8.out.trans hw9)
  have HX9:Hid (X9.st=X.st∧X9.M.d=X.M.d∧X9.lg=X.lg):=Lib.hid ⟨hst9.trans HX8.out.1,hd9.trans HX8.out.2.1,hlg9.trans HX8.out.2.2⟩
  clear hs9 hw9 hst9 hd9 hlg9 HTI HW8
  go_wp2
  go_ret
  exact⟨by rw[HG.out]<;>rfl,X9,by rw[HG.out];exact HS9.out,by rw[HG.out];exact HW9.out,HX9.out.1,HX9.out.2.1,HX9.out.2.2⟩
end Go.Proofs.YtkempjcphpnocaaGreatDoor
namespace Go.Proofs.YtkempjcphpnocaaGreatDoor
open Go Go.RowKit Go.Maps
theorem unT_ul:Tryz.prog.underlying 90=some (.map 9 92):=by kernel_rfl
theorem zeroUnit (w:World):(zeroValue 92).run Tryz.prog w=.ok (.agg #[]) w:=by kernel_rfl
theorem unit_none {b:Nat} {w:World} (h:w.ownsMap Tryz.prog 9 (unitElem (H:=Unit)) b 0 (.map [])) (nm:ByteArray) (hs:nm.size≤maxLen) :
  (Instr.lookup 90 (.map (some b)) (.string nm) true).run Tryz.prog w=.ok (.tuple #[.agg #[],.bool false]) w:=by
 obtain⟨v,ps,hr,hv⟩:=h.look_ok (string_keyed strT_ul) unT_ul (zeroUnit w) (zd:=.agg []) (zp:=[]) unitElem_mk (nmKey nm hs)
 obtain⟨rfl,_⟩:=unitElem_inv hv
 exact hr
theorem isO_any (nm:ByteArray) (w:World):Calls Tryz.prog 34 #[.string nm,.string ⟨#[111,47]⟩] w (RetP w (.bool (S.isO nm))):=by
 have e:Lib.hasPrefix (L nm) (L ⟨#[111,47]⟩)=S.isO nm:=by
  unfold S.isO
  rw[← Lib.hasPrefix_of_take]
  have e2:(L (⟨#[111,47]⟩:ByteArray))=[111,47]:=rfl
  rw[e2,Bool.eq_iff_iff]
  simp only[Bool.and_eq_true,decide_eq_true_eq,beq_iff_eq,List.length_cons,List.length_nil]
  constructor
  ·exact fun h=>h.2
  ·intro h
   refine⟨?_,h⟩
   have:=congrArg List.length h
   rw[List.length_take]at this
   simp at this
   omega
 rw[← e]
 exact prefix_any nm _ w
theorem Tryz.infoT:(Tryz.prog.info? 4).map (fun i=>(i.zero,i.size,i.bytes))=some (some (.bool false),1,1):=by kernel_rfl
theorem makeBools (n:Nat) (h1:n≤1099511627776):∃ C:Array Value,C.toList=S.bools (S.marks n [])∧∀ w:World,(Instr.makeSlice 85 (.int .i64 n) (.int .i64 n)).run Tryz.prog w=.ok (.slice (some ⟨w.heap.size,0,none⟩) n n) (w.alloc (.cells C 4)):=by
 obtain⟨i0,hi0,hz0,hz1,hz2⟩:=info_parts Tryz.infoT
 have hmk:=fun w=>run_make (P:=Tryz.prog) w 85 4 i0 _ Tryz.underlying85 hi0 hz0 .i64 .i64 (n:Int) (n:Int) (by omega) (Int.le_refl _) (by rw[hz2];omega) (by omega)
 simp only[hz1,Nat.mul_one,Int.toNat_natCast]at hmk
 refine⟨_,?_,hmk⟩
 rw[S.marks_rep]
 unfold S.bools
 rw[List.map_replicate]
 apply List.ext_getElem
 ·simp [madeCells]
 ·intro i h1 h2
  simp [madeCells,Value.cells]
  rw[Nat.mod_one]
  rfl
theorem StAt.new {B l n:Nat} {M:DM} {d:D.Dsk} {w w1:World} {tb g st:Nat} {bs:List Bool} {C:Array Value} {count:Nat} (h:LgAt B l M d count w) (hb:Below w.heap.size w w1) (h1:w.heap.size≤tb) (h2:w.heap.size≤g) (h3:w.heap.size≤st)
  (hm:w1.ownsMap Tryz.prog 9 S.intR tb 0 (.map [])) (hC:C.toList=S.bools bs) (hn:bs.length=n) (hn4:n≤4096) (hg:Blk w1 g C 4) (hs:Blk w1 st #[.pointer (some ⟨M.d,0,none⟩),.pointer (some ⟨l,0,none⟩),.map (some tb),.slice (some ⟨g,0,none⟩) n n] 87) :
  StAt B ⟨M,st,l,tb,some ⟨g,0,none⟩,n⟩ ⟨d,count,[],bs⟩ w1∧Went (lgFoot l M d) w ((⟨M,st,l,tb,some ⟨g,0,none⟩,n⟩:SM).foot ⟨d,count,[],bs⟩) w1:=by
 subst hn
 have hB:=h.disk.base
 have hsz:C.size=bs.length:=by have:=congrArg List.length hC;simpa [S.bools] using this
 refine⟨⟨h.below hb,hs,hm,⟨?_,?_⟩,.inl ⟨by simp [S.bools],.inr ⟨g,bs.length,C,rfl,by omega,hg,Nat.le_refl _,?_,by omega,?_⟩⟩,⟨by show B≤st;omega,by show B≤tb;omega⟩⟩,(Went.below hb (lgFoot l M d)).wide (fun _ h=>h) (fun k hk=>?_)⟩
 ·have:=h.disk.now.lt
  show tb≠M.mN
  omega
 ·have:=h.disk.safe.lt
  show tb≠M.mS
  omega
 ·simp only[maxLen];omega
 ·rw[Nat.mul_one,hC,List.take_of_length_le (by simp [S.bools])]
 ·rcases hk with hk | hk | hk | hk | hk
  ·exact .inl (.inl hk)
  ·exact .inl (.inr hk)
  ·exact .inr (.inr (by rw[hk];exact h3))
  ·exact .inr (.inr (by rw[hk];exact h1))
  ·refine .inr (.inr ?_)
   unfold ownB at hk
   split at hk
   ·cases hk
   ·cases hk;exact h2
def RetBorn (B:Nat) (M:DM) (room:Int) (n:Nat) (w:World) (e:Ending) (w':World):Prop :=
 ∃ X,e=.returned (.tuple #[.pointer (some ⟨X.st,0,none⟩),.int .i64 0])∧StAt B X ⟨S.born room,0,[],S.marks n []⟩ w'∧Went (M.foot (S.fresh room)) w (X.foot ⟨S.born room,0,[],S.marks n []⟩) w'∧X.M.d=M.d
set_option maxRecDepth 100000 in
set_option maxHeartbeats 4000000 in
theorem open0_any (B:Nat) (M:DM) (room:Int) (n:Nat) (w:World) (h:DkAt B M (S.fresh room) w) (hr:0≤room∧room≤1073741824) (hn:n≤4096) :
  Calls Tryz.prog 8 #[.pointer (some ⟨M.d,0,none⟩),.int .i64 n] w (RetBorn B M room n w):=by
 obtain⟨b1,b2,b3,b4,b5⟩:=S.born_facts hr.1
 have HLO:=Lib.hid (logOpen0_any B M (S.fresh room) (S.born room) 0 w h (S.fresh_fit hr) (by omega) b2 b3 b1)
 have HF:=Lib.hid (S.born_fit hr)
 have HNO:=Lib.hid b4
 have HIN:=Lib.hid (b5 n hn)
 obtain⟨C,hC,hmk⟩:=makeBools n (by omega)
 have hmm:=@run_makeMap Tryz.prog
 have g0:¬ (n:Int) < 0:=by omega
 have g1:¬ (n:Int) > 4096:=by omega
 clear h b1 b2 b3 b4 b5 hr
 go_enter Tryz.func8,Tryz.ntmps8
 go_wp2_with fail
 refine HLO.out.mono ?_
 rintro e w1 ⟨l,M1,rfl,hl1,hw1,hm1⟩
 have HL1:=Lib.hid hl1
 have HW1:=Lib.hid hw1
 have HM1:=Lib.hid hm1
 clear hl1 hw1 hm1 HLO
 go_upto_region 7 with fail
 obtain⟨W1,hW1⟩:∃ W1,w1.alloc (.map #[] 0)=W1:=⟨_,rfl⟩
 have hs1:W1.heap.size=w1.heap.size+1:=by rw[← hW1];exact World.size_alloc ..
 have hm0:W1.ownsMap Tryz.prog 9 S.intR w1.heap.size 0 (.map []):=by rw[← hW1];exact World.ownsMap_made w1 Tryz.prog 9 S.intR
 have hb1:Below w1.heap.size w1 W1:=by rw[← hW1];exact (Below.refl _ _).alloc (Nat.le_refl _) _
 rw[hW1]
 obtain⟨W2,hW2⟩:∃ W2,W1.alloc (.cells C 4)=W2:=⟨_,rfl⟩
 have hs2:W2.heap.size=w1.heap.size+1+1:=by rw[← hW2,← hs1];exact World.size_alloc ..
 have hg2:Blk W2 (w1.heap.size+1) C 4:=by rw[← hW2,← hs1];exact Blk.new W1 _ _
 have hb2:Below W1.heap.size W1 W2:=by rw[← hW2];exact (Below.refl _ _).alloc (Nat.le_refl _) _
 rw[hW2]
 obtain⟨W3,hW3⟩:∃ W3,W2.alloc (.cells #[.pointer (some ⟨M.d,0,none⟩),.pointer (some ⟨l,0,none⟩),.map (some w1.heap.size),.slice (some ⟨w1.heap.size+1,0,none⟩) n n] 87)=W3:=⟨_,rfl⟩
 have hk3:Blk W3 (w1.heap.size+1+1) #[.pointer (some ⟨M.d,0,none⟩),.pointer (some ⟨l,0,none⟩),.map (some w1.heap.size),.slice (some ⟨w1.heap.size+1,0,none⟩) n n] 87:=by rw[← hW3,← hs2];exact Blk.new W2 _ _
 have hb3:Below W2.heap.size W2 W3:=by rw[← hW3];exact (Below.refl _ _).alloc (Nat.le_refl _) _
 rw[hW3]
 have hb23:=below_then hb2.size hb2 hb3
 have hb13:=below_then hb1.size hb1 hb23
 have hmk3:W3.ownsMap Tryz.prog 9 S.intR w1.heap.size 0 (.map []):=hm0.kept (show W1.grownBy W3 none from⟨hb23.os,hb23.tape,hb23.output,hb23.size,fun k hk _=>hb23.block k hk⟩) (by simp)
 have hg3:Blk W3 (w1.heap.size+1) C 4:=hg2.below hb3
 obtain⟨hst,hwt⟩:=StAt.new HL1.out hb13 (tb:=w1.heap.size) (g:=w1.heap.size+1) (st:=w1.heap.size+1+1) (n:=n) (Nat.le_refl _) (by omega) (by omega) hmk3 hC (S.marks_len n []) hn hg3 (by rw[HM1.out];exact hk3)
 have HS3:=Lib.hid hst
 have HW3:=Lib.hid (HW1.out.trans hwt)
 clear hmk hst hwt hg3 hmk3 hb13 hb23 hb3 hk3 hb2 hg2 hs2 hb1 hm0 hs1 hW1 hW2 hW3 HL1 HW1 hC g0 g1
 obtain⟨X,hX⟩:∃ X:SM,X=⟨M1,w1.heap.size+1+1,l,w1.heap.size,some ⟨w1.heap.size+1,0,none⟩,n⟩:=⟨_,rfl⟩
 rw[← hX]at HS3 HW3
 have e1:w1.heap.size+1+1=X.st:=by rw[hX]
 have e2:l=X.lg:=by rw[hX]
 have e3:M1=X.M:=by rw[hX]
 rw[e1,e2]
 rw[e3]at HM1
 clear hX e1 e2 e3
 go_wp2_with fail
 go_loopw [46] (fun i wr=>i=.int .i64 0∧wr=W3) (fun _ _=>0)
 case atStart=>exact⟨rfl,rfl⟩
 case round =>
  obtain⟨rfl,rfl⟩:=hrel
  go_upto_region 15 with fail
  obtain⟨W4,hW4⟩:∃ W4,wr.alloc (.map #[] 0)=W4:=⟨_,rfl⟩
  have HU4:=Lib.hid (World.ownsMap_made wr Tryz.prog 9 (unitElem (H:=Unit)))
  have hb4:Below wr.heap.size wr W4:=by rw[← hW4];exact (Below.refl _ _).alloc (Nat.le_refl _) _
  rw[hW4]at HU4 ⊢
  have HS4:=Lib.hid (HS3.out.below hb4)
  have HW4:=Lib.hid (HW3.out.trans (Went.below hb4 _))
  have hkp:wr.heap.size < W4.heap.size:=by rw[← hW4,World.size_alloc];omega
  have HKP:=Lib.hid hkp
  clear hW4 hb4 HS3 HW3 hkp
  generalize wr.heap.size=kp at *
  have HID:=Lib.hid (ids_any B X _ W4 HS4.out List.Pairwise.nil (by show 0≤_;omega))
  have tl:=tab_len HS4.out.tab
  obtain⟨y0,y1,y2,y3⟩:=HS4.out.cells
  clear y0 y1 y3
  dsimp only[List.length_nil]at tl
  go_wp2_with fail
  clear tl y2
  refine HID.out.mono ?_
  rintro e w5 ⟨A5,c5,rfl,hr5,hb5⟩
  have HU5:=Lib.hid (HU4.out.kept (show W4.grownBy w5 none from⟨hb5.os,hb5.tape,hb5.output,hb5.size,fun k hk _=>hb5.block k hk⟩) (by simp))
  have HS5:=Lib.hid (HS4.out.below hb5)
  have HW5:=Lib.hid (HW4.out.trans (Went.below hb5 _))
  clear hr5 hb5 HU4 HS4 HW4 HID HKP
  dsimp only[S.Sto.ids,List.map_nil,List.length_nil]
  go_wp2_with fail
  go_loopw [77] (fun i wr=>i=.int .i64 0∧wr=w5) (fun _ _=>0)
  case atStart=>exact⟨rfl,rfl⟩
  case round =>
   obtain⟨rfl,rfl⟩:=hrel
   obtain⟨wo,rfl⟩:∃ wo:World,wo=wr:=⟨_,rfl⟩
   have HLI:=Lib.hid (dlist_any B X.M _ wo HS5.out.log.disk HF.out.ok (Nat.le_trans HF.out.now (by omega)))
   rw[HM1.out]at HLI
   have tl:=tab_len HS5.out.tab
   obtain⟨y0,y1,y2,y3⟩:=HS5.out.cells
   clear y0 y1 y3
   dsimp only[List.length_nil]at tl
   go_wp2_with fail
   clear tl y2
   refine HLI.out.mono ?_
   rintro e w6 ⟨A6,c6,rfl,hr6,hb6⟩
   have HU6:=Lib.hid (HU5.out.kept (show wo.grownBy w6 none from⟨hb6.os,hb6.tape,hb6.output,hb6.size,fun k hk _=>hb6.block k hk⟩) (by simp))
   have HS6:=Lib.hid (HS5.out.below hb6)
   have HW6:=Lib.hid (HW5.out.trans (Went.below hb6 _))
   have HR6:=Lib.hid hr6.rd
   clear hr6 hb6 HU5 HS5 HW5 HLI
   obtain⟨ns,hns⟩:∃ ns,(S.born room).list=ns:=⟨_,rfl⟩
   rw[hns]at HR6 HNO ⊢
   have hnl:ns.length≤3:=by
    rw[← hns]
    have:=HF.out.now
    have h2:(S.born room).list.length≤(S.born room).now.length:=by unfold D.Dsk.list;split<;>simp
    omega
   clear hns
   go_wp2_with fail
   go_loopw [125] (fun i wr=>∃ k:Nat,k≤ns.length∧i=.int .i64 k∧Below w6.heap.size w6 wr) (fun i _=>ns.length - (intOf i).toNat)
   case atStart=>exact⟨0,Nat.zero_le _,rfl,Below.refl _ _⟩
   case round =>
    obtain⟨k,hk,rfl,hb7⟩:=hrel
    have HB7:=Lib.hid hb7
    obtain⟨wp,rfl⟩:∃ wp:World,wp=wr:=⟨_,rfl⟩
    by_cases hlt:k < ns.length
    ·obtain⟨b,o,rfl,hbl,y0⟩:=(HR6.out.below hb7).str hlt rfl
     obtain⟨hO,hsz⟩:=HNO.out (ns[k]'hlt) (List.getElem_mem hlt)
     have hlk:=unit_none (HU6.out.kept (show w6.grownBy wp none from⟨hb7.os,hb7.tape,hb7.output,hb7.size,fun k hk _=>hb7.block k hk⟩) (by simp)) (ns[k]'hlt) (by simp only[maxLen];omega)
     have HIO:=Lib.hid (fun u=>isO_any (ns[k]'hlt) u)
     rw[hO]at HIO
     clear hO hsz hb7
     generalize ns[k]'hlt=nm at *
     go_wp2_with fail
     refine (HIO.out _).mono ?_
     rintro e w8 ⟨rfl,rfl⟩
     have HB8:=Lib.hid (HB7.out.alloc HB7.out.size (.cells #[] 92):Below w6.heap.size w6 (wp.alloc (.cells #[] 92)))
     clear hlk HIO y0
     go_wp2
     go_roundw
     case rel=>exact⟨k+1,by omega,by go_num,HB8.out⟩
     case measure=>simp [intOf];omega
    ·have hke:k=ns.length:=by omega
     subst hke
     have HS8:=Lib.hid (HS6.out.below hb7)
     have HW8:=Lib.hid (HW6.out.trans (Went.below hb7 _))
     have HTI:=Lib.hid (tidy_any B X _ 3 wp HS8.out HF.out (by omega) List.Pairwise.nil (by show 0≤_;omega) (fun _ h=>by cases h) (by show 0≤_;omega))
     clear hb7 HB7 HS6 HW6 HU6 HR6 HNO
     go_wp2_with fail
     refine HTI.out.mono ?_
     rintro e w9 ⟨rfl,X9,hs9,hw9,hst9,hd9,hlg9⟩
     have htd:(⟨S.born room,0,[],S.marks n []⟩:S.Sto).tidy=⟨S.born room,0,[],S.marks n []⟩:=by
      unfold S.Sto.tidy
      rw[if_pos (by show 0≤_;omega)]
     rw[htd]at hs9 hw9
     have HS9:=Lib.hid hs9
     have HW9:=Lib.hid (HW8.out.trans hw9)
     have HD9:=Lib.hid (hd9.trans HM1.out)
     rw[← hst9]
     clear hs9 hw9 hd9 hlg9 hst9 HTI HS8 HW8 htd
     go_wp2
     go_ret2
     exact⟨X9,rfl,HS9.out,HW9.out,HD9.out⟩
end Go.Proofs.YtkempjcphpnocaaGreatDoor
namespace Go.Proofs.YtkempjcphpnocaaGreatDoor
namespace R
theorem dec_torn {r:Rc} (h:code r=0) {m:Nat} (hm:m < (enc r).length):(dec ((enc r).take m)).2.1=0:=by
 have hl:=enc_len r h
 obtain⟨h1,h2,h3,h4,h5,h6⟩:=code_facts h
 rw[hl]at hm
 rw[enc_good h]at *
 unfold body at *
 generalize hA:beN r.id.size 2=A at *
 have hAl:A.length=2:=by rw[← hA,beN_len]
 have hAv:O.val A=r.id.size:=by rw[← hA];exact O.val_num (by omega)
 generalize hx:UInt8.ofNat (192+r.op.toNat)=x at *
 have hxo:x=193∨x=194:=by
  rw[← hx]
  rcases h1 with h1 | h1
  ·rw[h1];exact .inl rfl
  ·rw[h1];exact .inr rfl
 generalize (beN r.seq.toNat 4++(beN r.no.toNat 4++L r.id))=T at *
 generalize beN (sumN (x::(A++T))) 4=Z at *
 have e:x::(A++T)++Z=x::(A++(T++Z)):=by simp
 rw[e]at *
 generalize hY:T++Z=Y at *
 have hYl:Y.length=T.length+Z.length:=by rw[← hY,List.length_append]
 cases m with
 | zero=>rfl
 | succ m =>
  have ht:(x::(A++Y)).take (m+1)=x::(A++Y).take m:=rfl
  rw[ht]
  have hlen:(x::(A++Y).take m).length=m+1:=by
   simp only[List.length_cons,List.length_append]at hl
   simp only[List.length_cons,List.length_take,List.length_append]
   omega
  unfold dec
  rw[if_neg (by rw[hlen];omega),if_neg (by simp only[List.headD_cons];rcases hxo with h | h<;>simp [h])]
  by_cases h3:(x::(A++Y).take m).length < 3
  ·rw[if_pos h3]
  ·rw[if_neg h3]
   rw[hlen]at h3
   have t1:((x::(A++Y).take m).drop 1).take 2=A:=by
    rw[List.drop_one,List.tail_cons,List.take_take,Nat.min_eq_left (by omega),take_at hAl]
   rw[t1,hAv,if_neg (by omega),if_pos (by rw[hlen];omega)]
theorem recs_rest (q:List UInt8) (hq:(dec q).2.1=0):∀ (rs:List Rc) (k at_ f:Nat),Seqd k rs→(∀ r∈rs,code r=0)→rs.length≤f→(recs f (encs rs++q) at_ k).map (·.1)=rs
 | [],k,at_,f,_,_,_=>by
  have:recs f (encs []++q) at_ k=[]:=by
   cases f with
   | zero=>rfl
   | succ f=>exact if_pos (.inr (.inl hq))
  rw[this]
  rfl
 | r::t,k,at_,0,_,_,h=>by simp at h
 | r::t,k,at_,f+1,hs,hc,hl=>by
  have e0:encs (r::t)++q=enc r++(encs t++q):=by
   unfold encs
   rw[List.flatMap_cons,List.append_assoc]
  have e:dec (encs (r::t)++q)=(r,r.id.size+15,0):=by
   rw[e0]
   exact dec_enc (hc r (by simp)) _
  have hd:(encs (r::t)++q).drop (r.id.size+15)=encs t++q:=by
   rw[e0]
   exact drop_at (enc_len r (hc r (by simp)))
  rw[recs,e,hd]
  dsimp only
  rw[if_neg (by
   rintro (h | h | h)
   ·exact h rfl
   ·omega
   ·exact h hs.1),List.map_cons,recs_rest q hq t (k+1) _ f hs.2 (fun x hx=>hc x (List.mem_cons_of_mem _ hx)) (by simp at hl;omega)]
theorem replay_torn {rs:List Rc} (h:Good rs) {r:Rc} (hr:code r=0) {m:Nat} (hm:m < (enc r).length):(replay (encs rs++(enc r).take m)).1=rs:=by
 unfold replay
 exact recs_rest _ (dec_torn hr hm) rs 0 0 _ h.seq h.code (by
  have:=(len_encs rs h.code).1
  rw[List.length_append]
  omega)
theorem val_four (l:List UInt8):O.val (l.take 4)≤4294967295:=by
 have h1:=O.val_lt (l.take 4)
 have h2:(l.take 4).length≤4:=by rw[List.length_take];omega
 have h3:256 ^ (l.take 4).length≤256 ^ 4:=Nat.pow_le_pow_right (by decide) h2
 omega
theorem dec_code {l:List UInt8} (h:(dec l).2.1≠0):code (dec l).1=0:=by
 unfold dec at h ⊢
 split at h
 ·exact absurd rfl h
 rename_i c1
 rw[if_neg c1]
 split at h
 ·exact absurd rfl h
 rename_i c2
 rw[if_neg c2]
 split at h
 ·exact absurd rfl h
 rename_i c3
 rw[if_neg c3]
 split at h
 ·exact absurd rfl h
 rename_i c4
 rw[if_neg c4]
 split at h
 ·exact absurd rfl h
 rename_i c5
 rw[if_neg c5]
 split at h
 ·exact absurd rfl h
 rename_i c6
 rw[if_neg c6]
 refine code_ok ?_ ⟨by omega,by have:=val_four (l.drop 3);omega⟩ ⟨by omega,by have:=val_four (l.drop 7);omega⟩ ?_
 ·have:l.headD 0=193∨l.headD 0=194:=by
   rcases Decidable.em (l.headD 0=193) with h | h
   ·exact .inl h
   ·exact .inr (Decidable.byContradiction fun h2=>c2 ⟨h,h2⟩)
  rcases this with h | h
  ·rw[h];exact .inl rfl
  ·rw[h];exact .inr rfl
 ·rw[B_size,List.length_take]
  omega
theorem recs_good:∀ (f:Nat) (l:List UInt8) (a s:Nat),(∀ x∈recs f l a s,code x.1=0)∧Seqd s ((recs f l a s).map (·.1))
 | 0,_,_,_=>⟨(fun _ h=>by cases h),trivial⟩
 | f+1,l,a,s=>by
  rw[recs]
  split
  ·exact⟨(fun _ h=>by cases h),trivial⟩
  ·rename_i hc
   obtain⟨i1,i2⟩:=recs_good f (l.drop (dec l).2.1) (a+(dec l).2.1) (s+1)
   refine⟨fun x hx=>?_,?_,i2⟩
   ·rcases List.mem_cons.1 hx with rfl | hx
    ·exact dec_code (fun h=>hc (.inr (.inl h)))
    ·exact i1 x hx
   ·exact Decidable.byContradiction fun h=>hc (.inr (.inr h))
theorem replay_good (b:List UInt8):Good (replay b).1:=by
 obtain⟨h1,h2⟩:=recs_good b.length b 0 0
 exact⟨fun r hr=>by
  obtain⟨x,hx,rfl⟩:=List.mem_map.1 hr
  exact h1 x hx,h2⟩
end R
namespace S
def view (n:Nat) (F:ByteArray→Option (List UInt8)) (id:ByteArray):Option O.Ent :=
 (D.find (tabOf (R.replay ((F logN).getD [])).1) id).bind fun no=>if no < n then ((F (path no)).bind O.dec).bind fun E=>if idOf E=id then some E else none else none
structure Shows (n:Nat) (F:ByteArray→Option (List UInt8)) (tab:D.NM) (ent:Nat→O.Ent):Prop where
 log:tabOf (R.replay ((F logN).getD [])).1=tab
 ent:∀ p∈tab,p.2 < n∧F (path p.2)=some (encB (ent p.2))∧encE (ent p.2)=0∧idOf (ent p.2)=p.1
theorem Shows.view {n:Nat} {F:ByteArray→Option (List UInt8)} {tab:D.NM} {ent:Nat→O.Ent} (h:Shows n F tab ent) (id:ByteArray):view n F id=(D.find tab id).map ent:=by
 unfold S.view
 rw[h.log]
 cases hf:D.find tab id with
 | none=>rfl
 | some no =>
  obtain⟨h1,h2,h3,h4⟩:=h.ent _ (D.find_mem hf)
  show (if no < n then ((F (path no)).bind O.dec).bind _ else none)=some (ent no)
  rw[if_pos h1,h2]
  show (O.dec (encB (ent no))).bind _=_
  rw[dec_encB h3]
  show (if idOf (ent no)=id then some (ent no) else none)=_
  rw[if_pos h4]
end S
end Go.Proofs.YtkempjcphpnocaaGreatDoor
