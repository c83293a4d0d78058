/- The walk of the log's Open over a disk without a log, where its three first steps answer OK. A bounded table's items in their order, and where each lies in the ring. The walks of the Store laws' cut and of SameTexts at two lists that are alike. A store over a new disk where nothing fails. The disk that a new log leaves, and its store. Conditions: as each theorem states them. -/
import Derived.Test.YthjeglnkgdpijaaGreatDoorZ24
set_option maxHeartbeats 4000000
set_option maxRecDepth 100000
namespace Go.Proofs.YthjeglnkgdpijaaGreatDoor
open Go Go.RowKit Go.Maps
section
variable (B l:Nat) (M:DM) (d:D.Dsk) (count m bx:Nat) (w:World)
theorem aPT (h:jX B l M d count w) (hf:D.Fit m d) (hm:m≤134217728) (hb:Blk w bx #[.pointer (some ⟨M.d,0,none⟩)] 30) :
  Calls Tryz.prog 92 #[.pointer (some ⟨bx,0,none⟩)] w (lL B l M d w ((d.create S.bT).1,count,(d.create S.bT).2)):=by
 have HC:=aH (oZ B M d S.bT w h.disk (hf.sml (by omega)) hf.ok dL.1)
 have HD:=aH h
 have z0:=hb.cells1
 clear h hb
 go_enter Tryz.func92,Tryz.ntmps92
 go_wp2_with fail
 refine HC.out.mono ?_
 rintro e w4 hr4
 have h4:=bF.log HD.out hr4
 obtain⟨rfl,h5⟩:=h4
 clear hr4 HC z0
 go_wp2
 go_ret
 exact⟨rfl,h5⟩
theorem aPS (h:jX B l M d count w) (hf:D.Fit m d) (hm:m≤134217728) (hb:Blk w bx #[.pointer (some ⟨M.d,0,none⟩)] 30) :
  Calls Tryz.prog 94 #[.pointer (some ⟨bx,0,none⟩)] w (lL B l M d w ((d.sync S.bT).1,count,(d.sync S.bT).2)):=by
 have HC:=aH (mO B M d S.bT w h.disk (hf.sml (by omega)) hf.ok dL.1)
 have HD:=aH h
 have z0:=hb.cells1
 clear h hb
 go_enter Tryz.func94,Tryz.ntmps94
 go_wp2_with fail
 refine HC.out.mono ?_
 rintro e w4 hr4
 have h4:=bF.log HD.out hr4
 obtain⟨rfl,h5⟩:=h4
 clear hr4 HC z0
 go_wp2
 go_ret
 exact⟨rfl,h5⟩
end
theorem Row.capNone {w:World} {base size n c:Nat} {e:TypeId} {A:Option Addr} {xs:List Value} (h:Row w base e size A n c xs):A=none→c=0:=by
 intro hA
 rcases h with ⟨_,hr⟩ | ⟨_,h,_⟩
 ·rcases hr with ⟨hv,_⟩ | ⟨g,cap,cur,hv,_⟩
  ·injection hv
  ·injection hv with h1 h2 h3
   rw[hA]at h1
   cases h1
 ·exact h
def aQS (B:Nat) (M:DM) (d:D.Dsk) (w:World) (d3:D.Dsk) (e:Ending) (w':World):Prop :=
 ∃ l M',e=.returned (.tuple #[.pointer (some ⟨l,0,none⟩),.slice none 0 0,.int .i64 0])∧jX B l M' d3 0 w'∧aO (M.foot d) w (aZ l M' d3) w'∧M'.d=M.d
def aOA (B:Nat) (M:DM) (d:D.Dsk) (w:World) (e:Ending) (w':World):Prop :=
 (∃ code:Int,code≠0∧(d.down=false→(S.steps d S.dB).2.2≠0)∧e=.returned (.tuple #[.pointer none,.slice none 0 0,.int .i64 code])∧aO (M.foot d) w (fun _=>False) w') ∨
 (d.down=false∧∃ d3,(S.steps d S.dB).1=d3∧(S.steps d S.dB).2.2=0∧aQS B M d w d3 e w')
theorem aBY (B:Nat) (M:DM) (d:D.Dsk) (m:Nat) (w:World) (h:dD B M d w) (hf:D.Fit m d) (hm:m≤134217000) (hnew:S.has d.list S.dE=false) (hrd:d.read S.bT=([],if d.down=true then 93 else 90)) :
  Calls Tryz.prog 51 #[.pointer (some ⟨M.d,0,none⟩)] w (aOA B M d w):=by
 have HD:=aH h
 have HF:=aH hf
 have hln:d.now.length≤1073741824:=bD hf.now (by omega)
 have HLI:=aH (fun (u:World) (hu:Below w.heap.size w u)=>uU B M d u (h.below hu) hf.ok hln)
 have HRE:=aH (fun (u:World) (hu:Below w.heap.size w u)=>aE6 B M d S.bT u (h.below hu) (hf.sml (by omega)) hf.ok dL.1)
 rw[hrd]at HRE
 obtain⟨dn,hdn⟩:∃ dn,d.down=dn:=⟨_,rfl⟩
 have HDN:=aH hdn
 rw[hdn]at HRE
 have HNW:=aH hnew
 have hll:d.list.length≤1099511627776:=by
  have:d.list.length≤d.now.length:=by unfold D.Dsk.list;split<;>simp
  omega
 clear h hf hnew hrd hdn
 go_enter Tryz.func51,Tryz.ntmps51
 go_upto_region 2 with fail
 obtain⟨W1,hW1⟩:∃ W1,(w.alloc (.cells #[.pointer (some ⟨M.d,0,none⟩)] 30)).alloc (.cells #[.pointer (some ⟨M.d,0,none⟩),.int .i64 0] 154)=W1:=⟨_,rfl⟩
 have hs1:(w.alloc (.cells #[.pointer (some ⟨M.d,0,none⟩)] 30)).heap.size=w.heap.size+1:=bJ ..
 have HZ1:Hid (W1.heap.size=w.heap.size+2):=aH (by rw[← hW1,bJ,hs1])
 have hb0:Below w.heap.size w (w.alloc (.cells #[.pointer (some ⟨M.d,0,none⟩)] 30)):=(zB _ _).alloc (zA _) _
 have HB1:Hid (Below w.heap.size w W1):=aH (by rw[← hW1];exact hb0.alloc (by rw[hs1];omega) _)
 have HBX:Hid (Blk W1 w.heap.size #[.pointer (some ⟨M.d,0,none⟩)] 30):=aH (by rw[← hW1];exact (Blk.new w _ _).alloc _)
 have HBL:Hid (Blk W1 (w.heap.size+1) #[.pointer (some ⟨M.d,0,none⟩),.int .i64 0] 154):=aH (by
  have:=Blk.new (w.alloc (.cells #[.pointer (some ⟨M.d,0,none⟩)] 30)) #[.pointer (some ⟨M.d,0,none⟩),.int .i64 0] 154
  rw[← hW1]
  rwa [hs1]at this)
 rw[hW1]
 clear hb0
 have z0:=HBX.out.cells1
 go_wp2_with fail
 refine (HLI.out _ HB1.out).mono ?_
 rintro e w2 ⟨A,c,rfl,hr2,hb2⟩
 have HB2:=aH (aA HB1.out.size HB1.out hb2)
 have HCT:=aH (uP A _ c d.list S.dE w2 rfl hll hr2.rd)
 rw[HNW.out]at HCT
 clear HLI hr2 HNW
 go_wp2_with fail
 refine HCT.out.mono ?_
 rintro e w2' ⟨rfl,rfl⟩
 have HBX2:=aH (HBX.out.below hb2)
 have HBL2:=aH (HBL.out.below hb2)
 have HZ2:Hid (w.heap.size+2≤w2.heap.size):=aH (by have:=hb2.size;have:=HZ1.out;omega)
 have z0:=HBX2.out.cells1
 clear hb2 HB1 HBX HBL HCT HZ1 hW1
 go_wp2_with fail
 refine (HRE.out _ HB2.out).mono ?_
 rintro e w3 ⟨A3,c3,rfl,hr3,hb3⟩
 cases dn with
 | true =>
  have HW3:=aH (aO.below (aA HB2.out.size HB2.out hb3) (M.foot d))
  clear hb3 hr3 HRE z0
  go_wp2
  (try simp only[Exit.inBlock,Exit.then])
  refine bK (results_tmp3 rfl _ _ _) rfl ?_
  exact .inl ⟨93,by decide,fun h=>absurd (HDN.out.symm.trans h) (by decide),rfl,HW3.out.wide (fun _ h=>h) (fun _ h=>h.elim)⟩
 | false =>
  have HB3:=aH (aA HB2.out.size HB2.out hb3)
  have HBX3:=aH (HBX2.out.below hb3)
  have HBL3:=aH (HBL2.out.below hb3)
  have HZ3:Hid (w.heap.size+2≤w3.heap.size):=aH (by have:=hb3.size;have:=HZ2.out;omega)
  have HRP:=aH (fun u=>aDL A3 c3 hr3.capNone u)
  clear hb3 hr3 HRE HB2 HBX2 HBL2 HZ2 z0
  have z0:=HBX3.out.cells1
  have hbe:Below w3.heap.size w3 (w3.alloc (.cells #[.func (.func 92) #[] #[.pointer (some ⟨w.heap.size,0,none⟩)],.func (.func 94) #[] #[.pointer (some ⟨w.heap.size,0,none⟩)],.func (.func 96) #[.pointer (some ⟨M.d,0,none⟩)] #[]] 157)):=(zB _ _).alloc (zA _) _
  have HB4:=aH (aA HB3.out.size HB3.out hbe)
  have HL4:=aH (show jX B (w.heap.size+1) M d 0 (w3.alloc (.cells #[.func (.func 92) #[] #[.pointer (some ⟨w.heap.size,0,none⟩)],.func (.func 94) #[] #[.pointer (some ⟨w.heap.size,0,none⟩)],.func (.func 96) #[.pointer (some ⟨M.d,0,none⟩)] #[]] 157)) from⟨HD.out.below HB4.out,HBL3.out.below hbe,by have:=HD.out.base;omega⟩)
  have HW4:Hid (aO (M.foot d) w (aZ (w.heap.size+1) M d) (w3.alloc (.cells #[.func (.func 92) #[] #[.pointer (some ⟨w.heap.size,0,none⟩)],.func (.func 94) #[] #[.pointer (some ⟨w.heap.size,0,none⟩)],.func (.func 96) #[.pointer (some ⟨M.d,0,none⟩)] #[]] 157))):=aH ((aO.below HB4.out (M.foot d)).wide (fun _ h=>h) (fun k hk=>by
   rcases hk with hk | hk
   ·exact .inl hk
   ·exact .inr (.inr (by omega))))
  have HBX4:=aH (HBX3.out.below hbe)
  have hx4:Rd (w3.alloc (.cells #[.func (.func 92) #[] #[.pointer (some ⟨w.heap.size,0,none⟩)],.func (.func 94) #[] #[.pointer (some ⟨w.heap.size,0,none⟩)],.func (.func 96) #[.pointer (some ⟨M.d,0,none⟩)] #[]] 157)) (some ⟨w3.heap.size,0,none⟩) 3 1 (#[.func (.func 92) #[] #[.pointer (some ⟨w.heap.size,0,none⟩)],.func (.func 94) #[] #[.pointer (some ⟨w.heap.size,0,none⟩)],.func (.func 96) #[.pointer (some ⟨M.d,0,none⟩)] #[]]:Array Value).toList:=Rd.newRow w3 157 #[.func (.func 92) #[] #[.pointer (some ⟨w.heap.size,0,none⟩)],.func (.func 94) #[] #[.pointer (some ⟨w.heap.size,0,none⟩)],.func (.func 96) #[.pointer (some ⟨M.d,0,none⟩)] #[]] 3 1 rfl
  have hofx:∀ q,w.heap.size≤q→q≠w.heap.size+1→¬ aZ (w.heap.size+1) M d q:=fun q hq hne hf=>by
   rcases hf with hf | hf
   ·have:=HD.out.lt hf;omega
   ·exact hne hf
  have HOF:=aH (hofx w.heap.size (zA _) (by omega))
  have hA4:∀ a,(some ⟨w3.heap.size,0,none⟩:Option Addr)=some a→¬ aZ (w.heap.size+1) M d a.block:=fun a ha=>(by cases ha;exact hofx w3.heap.size (by have:=HZ3.out;omega) (by have:=HZ3.out;omega))
  have HFI:=aH (aHS B (w.heap.size+1) M d 0 m w.heap.size (some ⟨w3.heap.size,0,none⟩) 3 (fun d=>d.create S.bT) (fun d=>d.sync S.bT) (fun d=>d.syncNames) (w3.alloc (.cells #[.func (.func 92) #[] #[.pointer (some ⟨w.heap.size,0,none⟩)],.func (.func 94) #[] #[.pointer (some ⟨w.heap.size,0,none⟩)],.func (.func 96) #[.pointer (some ⟨M.d,0,none⟩)] #[]] 157)) HL4.out HF.out
   (fun _ _ h=>h.create _) (fun _ _ h=>h.sync _) (fun _ _ h=>h.syncNames) hx4 hA4
   (fun M1 d1 u hl hw hm hf=>aPT B (w.heap.size+1) M1 d1 0 (m+0) w.heap.size u hl hf (by omega) (by rw[hm];exact hw.blk HBX4.out HOF.out))
   (fun M1 d1 u hl hw hm hf=>aPS B (w.heap.size+1) M1 d1 0 (m+1) w.heap.size u hl hf (by omega) (by rw[hm];exact hw.blk HBX4.out HOF.out))
   (fun M1 d1 u hl hw hm hf=>by rw[← hm];exact (jD B M1 d1 u hl.disk (hf.sml (by omega))).mono fun _ _ h=>bF.log hl h))
  have HST:Hid (S.steps d [fun d=>d.create S.bT,fun d=>d.sync S.bT,fun d=>d.syncNames]=S.steps d S.dB):=aH rfl
  rw[HST.out]at HFI
  obtain⟨d3,k3,code,hst⟩:∃ d3 k3 code,S.steps d S.dB=(d3,k3,code):=⟨_,_,_,rfl⟩
  have HSS:=aH hst
  rw[hst]at HFI
  clear hst
  clear hbe hx4 hofx hA4 HOF HBX4 HL4 HBL3 HST
  go_wp2_with fail
  refine HFI.out.mono ?_
  rintro e w5 ⟨rfl,M5,hl5,hw5,hm5⟩
  have HL5:=aH hl5
  have HW5:=aH (HW4.out.trans hw5)
  have HM5:=aH hm5
  clear hl5 hw5 hm5 HFI HW4 z0
  by_cases hc:code=0
  rotate_left
  ·have HC:=aH hc
   clear HL5 HRP
   go_wp2
   (try simp only[Exit.inBlock,Exit.then])
   refine bK (results_tmp3 rfl _ _ _) rfl ?_
   exact .inl ⟨code,HC.out,fun _=>by rw[HSS.out];exact HC.out,rfl,HW5.out.wide (fun _ h=>h) (fun _ h=>h.elim)⟩
  subst hc
  go_wp2_with fail
  refine (HRP.out _).mono ?_
  rintro e w6 ⟨rfl,hb6⟩
  have hl6:=HL5.out.below hb6
  obtain⟨hl7,hw7⟩:=hl6.counted 0
  have HL7:=aH hl7
  have HW7:=aH ((HW5.out.trans (aO.below hb6 _)).trans hw7)
  obtain⟨y0,y1⟩:=hl6.cells
  have f1:=hl6.blk.free 1
  clear hb6 hl6 hl7 hw7 HRP HW5 y0
  go_wp2
  (try simp only[Exit.inBlock,Exit.then])
  refine bK (results_tmp3 rfl _ _ _) rfl ?_
  refine .inr ⟨HDN.out,d3,by rw[HSS.out],by rw[HSS.out],w.heap.size+1,M5,rfl,HL7.out,HW7.out,HM5.out⟩
end Go.Proofs.YthjeglnkgdpijaaGreatDoor
namespace Go.Proofs.YthjeglnkgdpijaaGreatDoor
structure It where
 id:ByteArray
 p:EP
 z:Nat
 k:Nat
namespace Lr
def head (t:Nat):Addr:=⟨t,3,none⟩
def adr (t:Nat) (l:List It):Nat→Addr
 | 0=>head t
 | i+1=>match l[i]? with
  | some x=>⟨x.k,0,none⟩
  | none=>head t
section
variable {t:Nat} {l:List It} {x:It} {i j:Nat}
theorem jS:adr t l (i+1)=(match l[i]? with
  | some x=>⟨x.k,0,none⟩
  | none=>head t):=rfl
theorem fP (h:i < l.length):adr t l (i+1)=⟨(l[i]'h).k,0,none⟩:=by
 rw[jS,List.getElem?_eq_getElem h]
theorem aEK:adr t l (l.length+1)=head t:=by
 rw[jS,List.getElem?_eq_none (zA _)]
theorem aCS:adr t (l.eraseIdx j) i=if i≤j then adr t l i else adr t l (i+1):=by
 cases i with
 | zero=>rw[if_pos (zF _)];rfl
 | succ i =>
  rw[jS,List.getElem?_eraseIdx,jS,jS]
  by_cases h:i < j
  ·rw[if_pos h,if_pos (by omega)]
  ·rw[if_neg h,if_neg (by omega)]
theorem aN1:(adr t l i).spot=none:=by
 cases i with
 | zero=>rfl
 | succ i =>
  rw[jS]
  cases l[i]?<;>rfl
def peek (l:List It) (id:ByteArray):Option It:=l.find? fun x=>decide (x.id=id)
def used (l:List It):Nat:=(l.map (·.z)).sum
def ids (l:List It):List ByteArray:=l.map (·.id)
def tab:List It→D.NM
 | []=>[]
 | x::r=>D.put (tab r) x.id x.k
theorem tZ {id:ByteArray} (h:peek l id=some x):∃ j,∃ hj:j < l.length,l[j]=x∧x.id=id:=by
 have h1:=List.mem_of_find?_eq_some h
 have h2:x.id=id:=by simpa using List.find?_some h
 obtain⟨j,hj,e⟩:=List.getElem_of_mem h1
 exact⟨j,hj,e,h2⟩
theorem aI5 (hn:(ids l).Nodup) (hj:j < l.length):peek l l[j].id=some l[j]:=by
 induction l generalizing j with
 | nil=>exact absurd hj (Nat.not_lt_zero _)
 | cons y r ih =>
  have hn':=hn
  unfold ids at hn'
  rw[List.map_cons,List.nodup_cons]at hn'
  unfold peek
  rw[List.find?_cons]
  cases j with
  | zero=>simp
  | succ j =>
   have hj':j < r.length:=by simpa using hj
   have hne:¬ y.id=r[j].id:=fun e=>hn'.1 (List.mem_map.2 ⟨_,List.getElem_mem hj',e.symm⟩)
   rw[List.getElem_cons_succ,decide_eq_false hne]
   exact ih hn'.2 hj'
theorem aKE (l:List It) (j:Nat):(l.eraseIdx j).Sublist l:=List.eraseIdx_sublist l j
theorem aD9 (hn:(ids l).Nodup) (j:Nat):(ids (l.eraseIdx j)).Nodup:=List.Nodup.sublist (List.Sublist.map _ (aKE l j)) hn
theorem kQ (hn:(ids l).Nodup) (hj:j < l.length) (id:ByteArray):peek (l.eraseIdx j) id=if id=(l[j]'hj).id then none else peek l id:=by
 induction l generalizing j with
 | nil=>exact absurd hj (Nat.not_lt_zero _)
 | cons y r ih =>
  have hn':=hn
  unfold ids at hn'
  rw[List.map_cons,List.nodup_cons]at hn'
  cases j with
  | zero =>
   rw[List.eraseIdx_cons_zero,List.getElem_cons_zero]
   by_cases h:id=y.id
   ·rw[if_pos h]
    unfold peek
    rw[List.find?_eq_none]
    intro z hz
    have:¬ z.id=id:=fun e=>hn'.1 (List.mem_map.2 ⟨z,hz,e.trans h⟩)
    simpa using this
   ·rw[if_neg h]
    unfold peek
    rw[List.find?_cons,decide_eq_false (fun e=>h e.symm)]
  | succ j =>
   have hj':j < r.length:=by simpa using hj
   have ih2:=ih hn'.2 hj'
   rw[List.eraseIdx_cons_succ,List.getElem_cons_succ]
   unfold peek at ih2 ⊢
   rw[List.find?_cons,List.find?_cons]
   by_cases h:y.id=id
   ·rw[decide_eq_true h]
    have hne:¬ id=r[j].id:=fun e=>hn'.1 (List.mem_map.2 ⟨_,List.getElem_mem hj',e.symm.trans h.symm⟩)
    rw[if_neg hne]
   ·rw[decide_eq_false h]
    exact ih2
theorem wV (hj:j < l.length):used (l.eraseIdx j)+(l[j]'hj).z=used l:=by
 induction l generalizing j with
 | nil=>exact absurd hj (Nat.not_lt_zero _)
 | cons y r ih =>
  cases j with
  | zero=>unfold used;simp;omega
  | succ j =>
   have hj':j < r.length:=by simpa using hj
   have:=ih hj'
   unfold used at this ⊢
   simp
   omega
end
end Lr
open Go Go.RowKit Go.Maps
theorem yX (A A2:Option Addr) (n c c2:Nat) (l:List ByteArray) (w:World) (hl:l.length=n) (hn:n≤1099511627776) (hx:Rd w A n 1 (aF l)) (hy:Rd w A2 n 1 (aF l)):Calls Tryz.prog 17 #[.slice A n c,.slice A2 n c2] w (qP w true):=by
 subst hl
 have HX:=aH hx
 have HY:=aH hy
 clear hx hy
 go_enter Tryz.func17,Tryz.ntmps17
 go_wp2_with fail
 go_loopw [5] (fun i wr=>∃ k:Nat,k≤l.length∧i=.int .i64 k∧Below w.heap.size w wr) (fun i _=>l.length - (intOf i).toNat)
 case atStart=>exact⟨0,zF _,rfl,zB _ _⟩
 case round =>
  obtain⟨k,hk,rfl,hb⟩:=hrel
  have HB:=aH hb
  obtain⟨wo,rfl⟩:∃ wo:World,wo=wr:=⟨_,rfl⟩
  by_cases hlt:k < l.length
  ·obtain⟨b,o,rfl,hb1,y0⟩:=(HX.out.below hb).str hlt rfl
   obtain⟨b2,o2,rfl,hb2,y1⟩:=(HY.out.below hb).str hlt rfl
   generalize l[k]'hlt=nm at *
   have hne:(nm.data.toList != nm.data.toList)=false:=by simp
   clear hb
   go_upto_region 6 with fail
   go_region
   go_wp2
   go_roundw
   case rel=>exact⟨k+1,by omega,by go_num,HB.out.drew⟩
   case measure=>simp [intOf];omega
  ·have hke:k=l.length:=by omega
   subst hke
   go_wp2
   go_ret
   exact⟨rfl,HB.out⟩
end Go.Proofs.YthjeglnkgdpijaaGreatDoor
namespace Go.Proofs.YthjeglnkgdpijaaGreatDoor
namespace S
open D (cont Clm)
def fresh (room:Int):D.Dsk:=⟨[],[],[],[],[],room,[],-1,0⟩
theorem oW {room:Int} (h:0≤room):Clm (fresh room) :=
 ⟨rfl,rfl,⟨rfl,List.Pairwise.nil,List.Pairwise.nil,(fun _ h=>by cases h),(fun _ h=>by cases h),(fun _ h=>by cases h),rfl,fun _ h=>absurd h (Nat.not_lt_zero _)⟩,(fun _ h=>by cases h),h⟩
theorem aJ4 {room:Int} (h:0≤room∧room≤1073741824):D.Fit 0 (fresh room) :=
 ⟨⟨(fun _ h=>by cases h),(fun _ h=>by cases h),(fun _ h=>by cases h)⟩,(oW h.1).ok,Int.le_refl _,Int.le_refl _,zA _,zA _,zA _,zF _,h,fun no=>by unfold D.Dsk.size fresh;simp⟩
theorem cZ (n:Nat) (t:D.NM):(marks n t).length=n:=by unfold marks;simp
end S
namespace S
open D (cont Clm)
def born (room:Int):D.Dsk:=(((fresh room).create bT).1.sync bT).1.syncNames.1
theorem yL {room:Int} (h0:0≤room):steps (fresh room) dB=(born room,3,0)∧has (fresh room).list dE=false∧(fresh room).read bT=([],90)∧(∀ nm∈(born room).list,isO nm=false∧nm.size≤4096)∧∀ n:Nat,n≤4096→Inv ⟨born room,0,[],marks n []⟩:=by
 have h:=oW h0
 have hc:∀ x,cont (fresh room) x=none:=fun _=>rfl
 obtain⟨e1,c1,k1⟩:=h.create dZ (hc _)
 obtain⟨e2,c2,k2⟩:=c1.sync dZ (c:=[]) (by rw[k1,if_pos rfl])
 obtain⟨e3,c3,k3⟩:=c2.syncNames
 have k:∀ x,cont (born room) x=if x=bT then some [] else none:=fun x=>by unfold born;rw[k3,k2,k1,hc]
 refine⟨by simp [steps,dB,e1,e2,e3,born],rfl,by rw[h.read dZ,hc],fun nm hm=>?_,fun n hn=>⟨c3,⟨[],by show cont (born room) _=_;rw[k,if_pos rfl]⟩,by show cont (born room) _=_;rw[k,if_neg jM],List.Pairwise.nil,by show (marks n []).length≤_;rw[cZ];omega,(fun _ h=>by cases h),(fun _ h=>by cases h),fun no hn hi=>?_⟩⟩
 ·have:=c3.mem (x:=nm)
  have hm2:=this.1 hm
  have h3:(cont (born room) nm).isSome=true:=hm2
  rw[k]at h3
  by_cases e:nm=bT
  ·rw[e];exact⟨by decide,by decide⟩
  ·rw[if_neg e]at h3;cases h3
 ·change (cont (born room) _).isSome=true at hi
  rw[k,if_neg (aY hn)]at hi
  cases hi
theorem aNR {room:Int} (h:0≤room∧room≤1073741824):D.Fit 3 (born room):=by
 have:=gK dB kY (aJ4 h)
 rw[(yL h.1).1]at this
 exact this
theorem aJH (n:Nat):marks n []=List.replicate n false:=by
 unfold marks
 have:=List.map_const' (l:=List.range n) (b:=false)
 rw[List.length_range]at this
 exact this
end S
end Go.Proofs.YthjeglnkgdpijaaGreatDoor
