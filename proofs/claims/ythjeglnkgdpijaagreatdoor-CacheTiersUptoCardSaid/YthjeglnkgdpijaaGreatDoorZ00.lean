/- Numbers behind numbers: append onto a list of the call's own. Plain lemma on the model's append. Maps to nothing in memory. Plain lemmas. Lists of names sorted, and without doubles. The walk of the Store laws' first script. The walk of the store's Drop. Conditions: as each theorem states them. -/
import Derived.Test.YthjeglnkgdpijaaGreatDoorZ28
set_option maxHeartbeats 4000000
set_option maxRecDepth 100000
namespace Go.Proofs.YthjeglnkgdpijaaGreatDoor
open Go Go.RowKit Go.Maps
theorem Tryz.infoI:(Tryz.prog.info? 3).map (fun i=>(i.zero,i.size,i.bytes))=some (some (.int .i64 0),1,8):=by kernel_rfl
theorem aGJ (l:List Int):∀ u∈fH l,u.oneCell'=true:=by
 intro u hu
 unfold fH at hu
 obtain⟨z,_,rfl⟩:=List.mem_map.1 hu
 rfl
section
variable (w:World) {ops:Array Oper} {rest:List Oper} {o:Oper} {a:Act} {K:Act→World→Prop} {Q:Exit→Act→World→Prop}
theorem appI (hgd:o.guard=none) (s x:Operand) (ho:o.op=.call { callee:=.builtin .append,args:=#[s,x],argTypes:=#[23,23] })
  (base:Nat) (A:Option Addr) (n c:Nat) (xs:List Int) (hs:a.eval s=.slice A n c) (hown:Row w base 3 1 A n c (fH xs))
  (S:Option Addr) (m d:Nat) (news:List Int) (hx:a.eval x=.slice S m d) (hr:Rd w S m 1 (fH news)) (h63:n+m≤2199023255552) (hbase:base≤w.heap.size)
  (h:∀ A' c' w',Row w' base 3 1 A' (n+m) c' (fH (xs++news))→App w w' A c A' c'→wpList Tryz.prog ops Q rest (a.put o.dst (.slice A' (n+m) c')) w'):wpList Tryz.prog ops Q (o::rest) a w:=by
 refine wpList_plain hgd fun _ hK=>?_
 obtain⟨i0,hi0,hz0,hz1,hz2⟩:=info_parts Tryz.infoI
 exact rC w s x _ ho _ i0 _ 1 8 Tryz.underlying23 hi0 hz0 hz1 hz2 rfl (by omega) base A n c _ hs hown S m d _ hx hr (aGJ news) (by simp only[maxLen];omega) (by omega) hbase (fun A' c' w' h2 h3=>hK _ _ (h A' c' w' (by unfold fH at *;rw[List.map_append];exact h2) h3))
end
namespace D
def aKG (p:ByteArray × Nat):Lit × DataW Unit:=(key p.1,.agg [])
def zN (l:NM):DataW Unit:=.map (l.map aKG)
theorem tN (nm:ByteArray) (no:Nat):∀ l:NM,DataW.insert (aKG (nm,no)) (l.map aKG)=(ins l nm no).map aKG
 | []=>rfl
 | p::r=>by
  have e:(aKG (nm,no)).1.before (aKG p).1=ltB nm p.1:=wR _ _
  rw[List.map_cons]
  unfold DataW.insert ins
  rw[e]
  split
  ·rfl
  ·rw[List.map_cons,tN nm no r]
theorem zM (l:NM) (nm:ByteArray):(zN l).del (key nm)=zN (del l nm):=by
 unfold zN DataW.del D.del
 dsimp only
 congr 1
 rw[List.filter_map]
 congr 1
 apply List.filter_congr
 intro p _
 show (!((aKG p).1.sameKey (key nm)))=_
 unfold aKG
 dsimp only
 rw[dX]
 simp
theorem aMI (l:NM) (nm:ByteArray) (no:Nat):(zN l).put (key nm) (.agg [])=zN (put l nm no):=by
 have h:=zM l nm
 unfold zN DataW.del at h
 dsimp only at h
 have h2:(l.map aKG).filter (fun p=>!p.1.sameKey (key nm))=(del l nm).map aKG:=by injection h
 unfold zN DataW.put
 dsimp only
 rw[h2]
 exact congrArg DataW.map (tN nm no (del l nm))
theorem aMJ (l:NM) (nm:ByteArray):Maps.has (zN l) (key nm)=(find l nm).isSome:=by
 unfold zN
 rw[Maps.has_eq,Bool.eq_iff_iff,List.any_eq_true]
 constructor
 ·rintro⟨p,hp,hk⟩
  obtain⟨q,hq,rfl⟩:=List.mem_map.1 hp
  have:q.1=nm:=by
   have:(key q.1).sameKey (key nm)=true:=hk
   rw[dX]at this
   exact of_decide_eq_true this
  cases hf:find l nm with
  | some _=>rfl
  | none=>exact absurd this (jT hf q hq)
 ·intro h
  obtain⟨no,hno⟩:=Option.isSome_iff_exists.1 h
  exact⟨_,List.mem_map_of_mem (aN hno),by show (key nm).sameKey (key nm)=true;rw[dX];simp⟩
end D
abbrev pV:=unitElem (H:=Unit)
theorem aNV {b n:Nat} {w:World} {l:D.NM} (h:w.ownsMap Tryz.prog 9 pV b n (D.zN l)) (nm:ByteArray) (hs:nm.size≤maxLen) :
  (Instr.lookup 74 (.map (some b)) (.string nm) true).run Tryz.prog w=.ok (.tuple #[.agg #[],.bool (D.find l nm).isSome]) w:=by
 obtain⟨v,ps,hr,hv⟩:=h.look_ok (string_keyed bT) aAA (aDY w) (zd:=.agg []) (zp:=[]) unitElem_mk (jJ nm hs)
 obtain⟨rfl,_⟩:=unitElem_inv hv
 rw[D.aMJ]at hr
 exact hr
theorem vZ {b n:Nat} {w:World} {l:D.NM} (h:w.ownsMap Tryz.prog 9 pV b n (D.zN l)):w.ownsMap Tryz.prog 9 pV b l.length (D.zN l):=by
 obtain⟨es,cl,hb,F,hs,hD⟩:=h
 refine⟨es,cl,hb,F,?_,hD⟩
 have h1:=congrArg Maps.size hD
 unfold D.zN at h1
 rw[Maps.size_eq,Maps.size_eq,length_sorted]at h1
 simp at h1
 omega
end Go.Proofs.YthjeglnkgdpijaaGreatDoor
namespace Go.Proofs.YthjeglnkgdpijaaGreatDoor
def sortB (l:List ByteArray):List ByteArray:=((l.map L).mergeSort fun x y=>decide (x≤y)).map B
def dG (l:List ByteArray):List ByteArray:=(Lib.compact (l.map L)).map B
theorem lT (l:List ByteArray):(sortB l).length=l.length:=by
 unfold sortB
 rw[List.length_map,List.length_mergeSort,List.length_map]
theorem vF (a b:List UInt8):(decide (a≤b)||decide (b≤a))=true:=by
 rcases List.le_total a b with h | h
 ·rw[decide_eq_true h];rfl
 ·rw[decide_eq_true h,Bool.or_true]
theorem jO (l:List (List UInt8)):(l.mergeSort fun x y=>decide (x≤y)).Pairwise fun a b=>a≤b:=by
 have h:=List.pairwise_mergeSort (le:=fun x y:List UInt8=>decide (x≤y)) (fun a b c h1 h2=>decide_eq_true (List.le_trans (of_decide_eq_true h1) (of_decide_eq_true h2))) vF l
 exact h.imp fun h=>of_decide_eq_true h
theorem gX {l:List (List UInt8)} (h:l.Pairwise fun a b=>a≤b):((Lib.compact l).Pairwise fun a b=>a < b)∧∀ x,x∈Lib.compact l↔x∈l:=by
 have hle:∀ i j,i≤j→j < l.length→l.toArray[i]!≤l.toArray[j]!:=fun i j hij hj=>by
  have hi:i < l.length:=by omega
  rcases Nat.lt_or_ge i j with hlt | hge
  ·have:=List.pairwise_iff_getElem.1 h i j hi hj hlt
   simpa [hi,hj] using this
  ·have:i=j:=by omega
   subst this
   exact List.le_refl _
 unfold Lib.compact Lib.compactUpTo
 constructor
 ·rw[List.pairwise_map]
  have hr:((List.range l.length).filter (Lib.keeps l.toArray)).Pairwise fun a b=>a < b:=List.Pairwise.sublist List.filter_sublist List.pairwise_lt_range
  refine List.Pairwise.imp_of_mem ?_ hr
  intro i j hi hj hij
  obtain⟨_,hi2⟩:=List.mem_filter.1 hi
  obtain⟨hj1,hj2⟩:=List.mem_filter.1 hj
  have hjl:=List.mem_range.1 hj1
  have hne:l.toArray[j]!≠l.toArray[j - 1]!:=fun e=>by rw[Lib.keeps_neg (by omega) e]at hj2;cases hj2
  have h1:=hle i (j - 1) (by omega) (by omega)
  have h2:=hle (j - 1) j (by omega) hjl
  have h3:l.toArray[j - 1]! < l.toArray[j]!:=by
   by_cases h:l.toArray[j - 1]! < l.toArray[j]!
   ·exact h
   ·exact absurd (List.le_antisymm (show l.toArray[j]!≤l.toArray[j - 1]! from h) h2) hne
  exact List.lt_of_le_of_lt h1 h3
 ·intro x
  rw[List.mem_map]
  constructor
  ·rintro⟨j,hj,rfl⟩
   have hjl:=List.mem_range.1 (List.mem_filter.1 hj).1
   have:l.toArray[j]! = l[j]:=by simp [hjl]
   rw[this]
   exact List.getElem_mem hjl
  ·intro hx
   obtain⟨j,hj,e⟩:=List.getElem_of_mem hx
   -- the first place of x
   have key:∀ j,j < l.length→l.toArray[j]! = x→∃ i,i∈(List.range l.length).filter (Lib.keeps l.toArray)∧l.toArray[i]! = x:=by
    intro j
    induction j with
    | zero=>exact fun hj e=>⟨0,List.mem_filter.2 ⟨List.mem_range.2 hj,Lib.keeps_lt_one _ 0 (by omega)⟩,e⟩
    | succ j ih =>
     intro hj e
     by_cases hp:l.toArray[j]! = x
     ·exact ih (by omega) hp
     ·exact⟨j+1,List.mem_filter.2 ⟨List.mem_range.2 hj,Lib.keeps_pos (show l.toArray[j+1]!≠l.toArray[j+1 - 1]! by rw[Nat.add_sub_cancel,e];exact fun h=>hp h.symm)⟩,e⟩
   exact key j hj (by simp [hj,e])
def setB (l:List ByteArray):List ByteArray:=dG (sortB l)
theorem aHZ (l:List ByteArray):setB l=(Lib.compact ((l.map L).mergeSort fun x y=>decide (x≤y))).map B:=by
 unfold setB dG sortB
 rw[List.map_map]
 congr 2
 conv=>rhs;rw[← List.map_id ((l.map L).mergeSort fun x y=>decide (x≤y))]
 apply List.map_congr_left
 intro x _
 exact L_B x
theorem jQ (l:List ByteArray):(setB l).Pairwise fun a b=>D.ltB a b=true:=by
 rw[aHZ,List.pairwise_map]
 refine ((gX (jO (l.map L))).1).imp fun {a b} h=>?_
 unfold D.ltB
 rw[L_B,L_B]
 exact decide_eq_true h
theorem jB {l:List ByteArray} {x:ByteArray}:x∈setB l↔x∈l:=by
 rw[aHZ,List.mem_map]
 constructor
 ·rintro⟨y,hy,rfl⟩
  rw[(gX (jO (l.map L))).2,List.mem_mergeSort]at hy
  obtain⟨z,hz,rfl⟩:=List.mem_map.1 hy
  rw[B_L]
  exact hz
 ·intro hx
  exact⟨L x,by rw[(gX (jO (l.map L))).2];exact List.mem_mergeSort.2 (List.mem_map_of_mem hx),B_L x⟩
theorem lW:∀ {l m:List ByteArray},(l.Pairwise fun a b=>D.ltB a b=true)→(m.Pairwise fun a b=>D.ltB a b=true)→(∀ x,x∈l↔x∈m)→l=m
 | [],[],_,_,_=>rfl
 | [],y::_,_,_,h=>by have:=(h y).2 (by simp);cases this
 | x::_,[],_,_,h=>by have:=(h x).1 (by simp);cases this
 | x::l,y::m,hl,hm,h=>by
  obtain⟨h1,h2⟩:=List.pairwise_cons.1 hl
  obtain⟨h3,h4⟩:=List.pairwise_cons.1 hm
  have e:x=y:=by
   rcases List.mem_cons.1 ((h x).1 (by simp)) with e | hx
   ·exact e
   ·rcases List.mem_cons.1 ((h y).2 (by simp)) with e | hy
    ·exact e.symm
    ·have:=D.lt_trans (h3 x hx) (h1 y hy)
     rw[D.lt_irrefl]at this
     cases this
  subst e
  congr 1
  refine lW h2 h4 fun z=>⟨fun hz=>?_,fun hz=>?_⟩
  ·rcases List.mem_cons.1 ((h z).1 (List.mem_cons_of_mem _ hz)) with e | hz'
   ·have:=h1 z hz
    rw[e,D.lt_irrefl]at this
    cases this
   ·exact hz'
  ·rcases List.mem_cons.1 ((h z).2 (List.mem_cons_of_mem _ hz)) with e | hz'
   ·have:=h3 z hz
    rw[e,D.lt_irrefl]at this
    cases this
   ·exact hz'
open Go Go.RowKit Go.Maps
section
variable {B k:Nat} {M:DM} {d:D.Dsk} {X:SM} {s:S.Sto} {w w':World} {F F':Nat→Prop}
theorem bU.under (h:bU B M d w) (hf:M.foot d k):B≤k:=by
 rcases hf with rfl | rfl | rfl | hf | ⟨no,hn,rfl | hf⟩
 ·exact h.ge.1
 ·exact h.ge.2.1
 ·exact h.ge.2.2
 ·exact (h.pend.lt k hf).1
 ·exact (h.files no hn).ge
 ·exact ((h.files no hn).row.lt k hf).1
theorem dU.under (h:dU B X s w) (hf:X.foot s k):B≤k:=by
 rcases hf with hf | rfl | rfl | rfl | hf
 ·exact h.log.disk.under hf
 ·exact h.log.ge
 ·exact h.ge.1
 ·exact h.ge.2
 ·exact (h.used.lt k hf).1
theorem aO.under (h:aO F w F' w') (hF:∀ k,F k→B≤k) (hB:B≤w.heap.size):Below B w w' :=
 ⟨h.os,h.tape,h.output,h.size,fun k hk=>h.block k (Nat.lt_of_lt_of_le hk hB) (fun hf=>by have:=hF k hf;omega)⟩
end
theorem aCL {b:Nat} {t:D.NM} {n:Nat} {w:World} {nm:ByteArray} (h:w.ownsMap Tryz.prog 9 S.wV b n ((S.qU t).del (D.key nm))):w.ownsMap Tryz.prog 9 S.wV b (D.del t nm).length (S.qU (D.del t nm)):=by
 unfold S.qU at h
 rw[D.jU]at h
 exact aAK h
theorem aAS (B:Nat) (X:SM) (s:S.Sto) (id:ByteArray) (m:Nat) (w:World) (h:dU B X s w) (hf:D.Fit m s.d) (hm:m≤134000000) (hu:D.Up s.tab) (hl:s.tab.length≤262144) (hz:∀ p∈s.tab,p.1.size≤1048576) (hc:s.count≤549755813888)
  (hlen:s.used.length≤4096) (htab:∀ p∈s.tab,p.2 < s.used.length) (hi:id.size≤1048576) :
  Calls Tryz.prog 31 #[.pointer (some ⟨X.st,0,none⟩),.string id] w (xP B X s w (s.drop id).1 (.int .i64 (s.drop id).2)):=by
 have HD:=aH h
 have HF:=aH hf
 have hlk:=aHQ h.tab id (by simp only[maxLen];omega)
 obtain⟨y0,y1,y2,y3⟩:=h.cells
 cases hfd:D.find s.tab id with
 | none =>
  have hG:s.drop id=(s,90):=by unfold S.Sto.drop;rw[hfd]
  rw[hG]
  rw[hfd]at hlk
  clear h hf hu hz htab y0 y1 y3
  go_enter Tryz.func31,Tryz.ntmps31
  go_wp2
  go_ret
  exact⟨rfl,X,HD.out,aO.refl _ _,rfl,rfl,rfl⟩
 | some no =>
 have hmem:(id,no)∈s.tab:=D.aN hfd
 have hno:no < s.used.length:=htab _ hmem
 rw[hfd]at hlk
 obtain⟨Y,hY⟩:∃ Y,S.add s.d s.count 2 no id=Y:=⟨_,rfl⟩
 obtain⟨G,hG⟩:∃ G,s.drop id=G:=⟨_,rfl⟩
 have HG:Hid (G=if Y.2.1=s.count then (({ s with d:=Y.1 }:S.Sto),Y.2.2) else ((({ s with d:=Y.1,count:=Y.2.1,tab:=D.del s.tab id }:S.Sto).free no).tidy,Y.2.2)):=aH (by
  rw[← hG,← hY]
  unfold S.Sto.drop
  rw[hfd])
 rw[hG]
 have HCN:=aH (count_any B X.lg X.M s.d s.count w h.log)
 have HAD:=aH (add_any B X.lg X.M s.d s.count m 2 no id w h.log hf (by omega) (by omega) (by omega))
 have hF5:D.Fit (m+2) Y.1:=by rw[← hY];exact S.zV hf _ _ _ _
 have hcnt:Y.2.1=s.count∨Y.2.1=s.count+1:=by
  rw[← hY]
  unfold S.add
  split
  ·exact .inl rfl
  ·split
   ·exact .inl rfl
   ·exact .inr rfl
 rw[hY]at HAD
 have HF5:=aH hF5
 have HU:=aH (D.rH (nm:=id) hu)
 have HZ:=aH (fun p (hp:p∈D.del s.tab id)=>hz p (D.bY.1 hp).1)
 have hdl:(D.del s.tab id).length≤s.tab.length:=List.length_filter_le _ _
 clear h hf hu hz htab hmem hfd hG hY hF5 y0 y3
 simp only[Option.getD_some,Option.isSome_some]at hlk
 go_enter Tryz.func31,Tryz.ntmps31
 go_wp2_with fail
 clear hlk y2
 refine HCN.out.mono ?_
 rintro e w1 ⟨rfl,rfl⟩
 clear HCN
 go_wp2_with fail
 clear y1
 refine HAD.out.mono ?_
 rintro e w5 ⟨rfl,M5,h5,hw5,hm5⟩
 obtain⟨d5,n5,e5⟩:=Y
 dsimp only at h5 hw5 HG hcnt HF5 ⊢
 obtain⟨h6,hw6⟩:=HD.out.logged h5 hw5 hm5
 have HD6:=aH h6
 have HW6:=aH hw6
 have HM6:=aH hm5
 have HCN:=aH (count_any B X.lg M5 d5 n5 w5 h5)
 obtain⟨y0,y1,y2,y3⟩:=h6.cells
 dsimp only at y1 y2
 clear h5 hw5 hm5 h6 hw6 HAD y0 y3
 go_wp2_with fail
 refine HCN.out.mono ?_
 rintro e w6 ⟨rfl,rfl⟩
 clear HCN y1
 by_cases hn5:n5=s.count
 ·rw[if_pos hn5]at HG
  have hnb:((n5:Int)==(s.count:Int))=true:=by rw[hn5];exact beq_self_eq_true _
  have HS5:Hid (({ s with d:=d5,count:=n5 }:S.Sto)={ s with d:=d5 }):=aH (by rw[hn5])
  rw[HS5.out]at HD6 HW6
  go_wp2
  go_ret
  exact⟨by rw[HG.out]<;>rfl,{ X with M:=M5 },by rw[HG.out];exact HD6.out,by rw[HG.out];exact HW6.out,rfl,HM6.out,rfl⟩
 ·rw[if_neg hn5]at HG
  have hnb:((n5:Int)==(s.count:Int))=false:=beq_eq_false_iff_ne.2 (by omega)
  have hn51:n5=s.count+1:=by omega
  obtain⟨s5,hs5⟩:∃ s5:S.Sto,s5={ s with d:=d5,count:=n5 }:=⟨_,rfl⟩
  have h5t:s5.tab=s.tab:=by rw[hs5]
  have HT5:=aH (show ({ s with d:=d5,count:=n5,tab:=D.del s.tab id }:S.Sto)={ s5 with tab:=D.del s.tab id } by rw[hs5])
  have h5u:s5.used.length=s.used.length:=by rw[hs5]
  have h5c:s5.count=n5:=by rw[hs5]
  have HF5d:Hid (D.Fit (m+2) s5.d):=aH (by rw[hs5];exact HF5.out)
  rw[← hs5]at HD6 HW6
  rw[HT5.out]at HG
  clear hs5 HF5 HT5
  go_wp2_with (at_delete;refine wpList_delete_own _ rfl _ _ 106 9 rfl 3 (string_keyed bT) aAJ S.wV X.tb s5.tab.length (S.qU s5.tab) rfl HD6.out.tab (.string id) (D.key id) rfl (jJ id (by simp only[maxLen];omega)) ?_;intro w7 hown7 hturn7;have HOW7:=aH (aCL hown7);have HGR7:=aH hturn7.grown;clear hown7 hturn7)
  clear y2
  have HT7:Hid (D.del s5.tab id=D.del s.tab id):=aH (by rw[h5t])
  rw[HT7.out]at HOW7
  obtain⟨h7,hw7⟩:=HD6.out.tabbed HOW7.out HGR7.out
  have HW7:=aH (HW6.out.trans hw7)
  have HFR:=aH (aEU B { X with M:=M5 } { s5 with tab:=D.del s.tab id } no (m+2) w7 h7 HF5d.out (by omega) (by show no < s5.used.length;omega) (by omega))
  have HF8:Hid (D.Fit (m+3) (({ s5 with tab:=D.del s.tab id }:S.Sto).free no).d):=aH (S.qO (s:={ s5 with tab:=D.del s.tab id }) HF5d.out no)
  obtain⟨s8,hs8⟩:∃ s8,(({ s5 with tab:=D.del s.tab id }:S.Sto).free no)=s8:=⟨_,rfl⟩
  have h8t:s8.tab=D.del s.tab id:=by rw[← hs8];rfl
  have h8c:s8.count=n5:=by rw[← hs8];exact h5c
  rw[hs8]at HFR HF8 HG
  clear hs8 h7 hw7 HOW7 HGR7 HD6 HW6 HF5d HT7
  go_wp2_with fail
  refine HFR.out.mono ?_
  rintro e w8 ⟨rfl,X8,hs8,hw8,hst8,hd8,hlg8⟩
  have HTI:=aH (xZ B X8 s8 (m+3) w8 hs8 HF8.out (by omega) (by rw[h8t];exact HU.out) (by rw[h8t];omega) (by rw[h8t];exact HZ.out) (by omega))
  have HW8:=aH (HW7.out.trans hw8)
  have HX8:Hid (X8.st=X.st∧X8.M.d=X.M.d∧X8.lg=X.lg):=aH ⟨hst8,hd8.trans HM6.out,hlg8⟩
  dsimp only at hst8
  rw[hst8]at HTI
  clear hs8 hw8 hst8 hd8 hlg8 HFR HW7
  go_wp2_with fail
  refine HTI.out.mono ?_
  rintro e w9 ⟨rfl,X9,hs9,hw9,hst9,hd9,hlg9⟩
  have HS9:=aH hs9
  have HW9:=aH (HW8.out.trans hw9)
  have HX9:Hid (X9.st=X.st∧X9.M.d=X.M.d∧X9.lg=X.lg):=aH ⟨hst9.trans HX8.out.1,hd9.trans HX8.out.2.1,hlg9.trans HX8.out.2.2⟩
  clear hs9 hw9 hst9 hd9 hlg9 HTI HW8
  go_wp2
  go_ret
  exact⟨by rw[HG.out]<;>rfl,X9,by rw[HG.out];exact HS9.out,by rw[HG.out];exact HW9.out,HX9.out.1,HX9.out.2.1,HX9.out.2.2⟩
end Go.Proofs.YthjeglnkgdpijaaGreatDoor
namespace Go.Proofs.YthjeglnkgdpijaaGreatDoor
open Go Go.RowKit
theorem aFL (l:List ByteArray):aC l=(l.map L).map encStr:=by
 unfold aC
 rw[List.map_map]
 apply List.map_congr_left
 intro x _
 rfl
theorem xE (l:List (List UInt8)):l.map encStr=aC (l.map B):=by
 unfold aC
 rw[List.map_map]
 apply List.map_congr_left
 intro x _
 rfl
section
variable {w w':World} {A:Option Addr} {n c base:Nat} {xs:List ByteArray}
theorem Row.forms (h:Row w base 9 1 A n c (aC xs)):n=xs.length∧(n=0∨∃ g cur,A=some ⟨g,0,none⟩∧base≤g∧w.heap[g]?=some (.cells cur 9 (0,0))∧n≤c∧c≤maxLen∧cur.size=c * 1∧cur.toList.take (n * 1)=(xs.map L).map encStr):=by
 have hl:=h.len
 unfold aC at hl
 rw[List.length_map]at hl
 refine⟨by omega,?_⟩
 rcases h with h | ⟨h1,_,_⟩
 ·rcases h.2 with ⟨h0,h1⟩ | ⟨g,cap,cur,h0,hg,hb,h1,h2,h3,h4⟩
  ·left
   cases h0
   have:=h.1
   first | omega | (rw[h1]at hl;simpa using hl.symm)
  ·cases h0
   exact .inr ⟨g,cur,rfl,hg,hb,h1,h2,h3,by rw[h4,aFL]⟩
 ·exact .inl h1
end
theorem rP (base:Nat) (A:Option Addr) (n c:Nat) (xs:List ByteArray) (w:World) (h:Row w base 9 1 A n c (aC xs)) (hn:n≤1099511627776) :
  Calls Tryz.prog 63 #[.slice A n c] w (fun e w'=>e=.returned (.tuple #[])∧Row w' base 9 1 A n c (aC (sortB xs))∧w.grownBy w' (ownB A c)):=by
 obtain⟨hl,h0 | ⟨g,cur,rfl,hg,hb,h1,h2,h3,h4⟩⟩:=h.forms
 ·subst h0
  have hx:xs=[]:=List.length_eq_zero_iff.1 hl.symm
  subst hx
  refine (Tryz.slices_Sort_string_none A c w).mono ?_
  rintro e w' ⟨rfl,rfl⟩
  exact⟨rfl,by simpa [sortB] using h,World.grownBy.refl _ _⟩
 ·have hl2:(xs.map L).length=n:=by rw[List.length_map,hl]
  have hlt:g < w.heap.size:=(Array.getElem?_eq_some_iff.1 hb).1
  have hH:Go.Sort.Holds encStr w g 0 (xs.map L).toArray:=holds_of_block hb (by rw[hl2,← Nat.mul_one n];exact h4)
  have hc:=Tryz.slices_Sort_string g 0 c (xs.map L) w hH hlt (by omega)
  rw[hl2]at hc
  refine hc.mono ?_
  rintro e w' ⟨rfl,q,os,rfl⟩
  refine⟨rfl,.inl ?_,?_⟩
  ·have ho:=ownsRow_sorted (n:=q) (os:=os) (ss:=xs.map L) (ts:=(xs.map L).mergeSort fun x y=>decide (x≤y)) (by simp) hg hb (by omega) h2 h3
   rw[hl2,xE]at ho
   exact ho
  ·by_cases hc0:c=0
   ·have hx:xs=[]:=List.length_eq_zero_iff.1 (by omega)
    subst hx
    have hg2:=grownBy_sorted (w:=w) (g:=g) (n:=q) (os:=os) ((List.mergeSort ([].map L) fun x y=>decide (x≤y)).toArray)
    refine⟨hg2.os,hg2.tape,hg2.output,hg2.size,fun k hk _=>?_⟩
    by_cases hk2:k=g
    ·subst hk2
     rw[heap_sorted _ hb,hb]
     congr 2
     have h5:cur=#[]:=Array.eq_empty_of_size_eq_zero (by rw[h3,hc0])
     subst h5
     simp [Sort.putCells]
    ·exact hg2.block k hk (fun e=>hk2 (by simpa using e))
   ·have:ownB (some ⟨g,0,none⟩) c=some g:=by unfold ownB;rw[if_neg hc0];rfl
    rw[this]
    exact grownBy_sorted _
theorem xI (zs:List (List UInt8)):(Lib.compact zs).length≤zs.length:=by
 have h:∀ m,(Lib.compactUpTo zs.toArray m).length≤m:=fun m=>by
  induction m with
  | zero=>exact zA _
  | succ m ih =>
   rw[Lib.compactUpTo_succ,bC]
   split
   ·simp;omega
   ·simp;omega
 have:=h zs.length
 simpa [Lib.compact] using this
theorem kT (base:Nat) (A:Option Addr) (n c:Nat) (xs:List ByteArray) (w:World) (h:Row w base 9 1 A n c (aC xs)) (hn:n≤1099511627776) :
  Calls Tryz.prog 64 #[.slice A n c] w (fun e w'=>e=.returned (.slice A (dG xs).length c)∧Row w' base 9 1 A (dG xs).length c (aC (dG xs))∧w.grownBy w' (ownB A c)):=by
 obtain⟨hl,h0 | ⟨g,cur,rfl,hg,hb,h1,h2,h3,h4⟩⟩:=h.forms
 ·subst h0
  have hx:xs=[]:=List.length_eq_zero_iff.1 hl.symm
  subst hx
  refine (Tryz.slices_Compact_string_empty A c w).mono ?_
  rintro e w' ⟨rfl,rfl⟩
  exact⟨rfl,h,World.grownBy.refl _ _⟩
 ·have hl2:(xs.map L).length=n:=by rw[List.length_map,hl]
  have hH:Go.Sort.Holds encStr w g 0 (xs.map L).toArray:=holds_of_block hb (by rw[hl2,← Nat.mul_one n];exact h4)
  have hc:=Tryz.slices_Compact_string g 0 c (xs.map L) w hH (by omega) (by omega)
  rw[hl2]at hc
  refine hc.mono ?_
  have hcl:(Lib.compact (xs.map L)).length=(dG xs).length:=by unfold dG;rw[List.length_map]
  have hle:(dG xs).length≤n:=by rw[← hcl,← hl2];exact xI _
  rintro e w' ⟨rfl,q,rfl⟩
  rw[hcl]
  obtain⟨ts,hts⟩:∃ ts,Lib.compact (xs.map L)++List.replicate (n - (dG xs).length) []=ts:=⟨_,rfl⟩
  have htl:ts.length=n:=by rw[← hts,bC,hcl,List.length_replicate];omega
  rw[hts]
  refine⟨rfl,.inl ⟨by unfold aC;rw[List.length_map,Nat.mul_one],.inr ⟨g,c,_,rfl,hg,heap_sorted (n:=q) (os:=#[]) ts.toArray hb,by omega,h2,by simp [Sort.putCells,h3],?_⟩⟩,?_⟩
  ·have h5:=take_putCells cur ts (by omega)
   rw[Nat.mul_one]
   have h6:((Sort.putCells encStr 0 ts.toArray cur).toList.take ts.length).take (dG xs).length=(ts.map encStr).take (dG xs).length:=by rw[h5]
   rw[List.take_take,htl,Nat.min_eq_left hle,← List.map_take]at h6
   have h7:ts.take (dG xs).length=Lib.compact (xs.map L):=by rw[← hts,List.take_append_of_le_length (by omega),List.take_of_length_le (by omega)]
   rw[h7,xE]at h6
   exact h6
  ·by_cases hc0:c=0
   ·have hg2:=grownBy_sorted (w:=w) (g:=g) (n:=q) (os:=#[]) ts.toArray
    refine⟨hg2.os,hg2.tape,hg2.output,hg2.size,fun k hk _=>?_⟩
    by_cases hk2:k=g
    ·subst hk2
     have h8:=heap_sorted (n:=q) (os:=#[]) ts.toArray hb
     have h5:cur=#[]:=Array.eq_empty_of_size_eq_zero (by rw[h3,hc0])
     subst h5
     rw[Go.Sort.grow_empty]at h8
     rw[h8,hb]
     simp [Sort.putCells]
    ·exact hg2.block k hk (fun e=>hk2 (by simpa using e))
   ·have:ownB (some ⟨g,0,none⟩) c=some g:=by unfold ownB;rw[if_neg hc0];rfl
    rw[this]
    exact grownBy_sorted (os:=#[]) _
end Go.Proofs.YthjeglnkgdpijaaGreatDoor
