/- The walk of the log's Open over a disk without a log, where its three first steps answer OK. The walks of lru's Get and Put at entries. Conditions: as each theorem states them. -/
import Derived.Test.YthjeglnkgdpijaaGreatDoorLruB
set_option maxHeartbeats 4000000
set_option maxRecDepth 100000
namespace Go.Proofs.YthjeglnkgdpijaaGreatDoor
open Go Go.RowKit Go.Maps
section
variable (B l:Nat) (M:DM) (d:D.Dsk) (count m bx:Nat) (w:World)
theorem aOJ (h:jM B l M d count w) (hf:D.Fit m d) (hm:m≤134217728) (hb:Blk w bx #[.pointer (some ⟨M.d,0,none⟩)] 30) :
  Calls Tryz.prog 92 #[.pointer (some ⟨bx,0,none⟩)] w (kU B l M d w ((d.create S.bM).1,count,(d.create S.bM).2)):=by
 have HC:=aH (oH B M d S.bM w h.disk (hf.sml (by omega)) hf.ok dH.1)
 have HD:=aH h
 have z0:=hb.cells1
 clear h hb
 go_enter Tryz.func92,Tryz.ntmps92
 go_wp2_with fail
 refine HC.out.mono ?_
 rintro e w4 hr4
 have h4:=aY.log HD.out hr4
 obtain⟨rfl,h5⟩:=h4
 clear hr4 HC z0
 go_wp2
 go_ret
 exact⟨rfl,h5⟩
theorem aOI (h:jM B l M d count w) (hf:D.Fit m d) (hm:m≤134217728) (hb:Blk w bx #[.pointer (some ⟨M.d,0,none⟩)] 30) :
  Calls Tryz.prog 94 #[.pointer (some ⟨bx,0,none⟩)] w (kU B l M d w ((d.sync S.bM).1,count,(d.sync S.bM).2)):=by
 have HC:=aH (lN B M d S.bM w h.disk (hf.sml (by omega)) hf.ok dH.1)
 have HD:=aH h
 have z0:=hb.cells1
 clear h hb
 go_enter Tryz.func94,Tryz.ntmps94
 go_wp2_with fail
 refine HC.out.mono ?_
 rintro e w4 hr4
 have h4:=aY.log HD.out hr4
 obtain⟨rfl,h5⟩:=h4
 clear hr4 HC z0
 go_wp2
 go_ret
 exact⟨rfl,h5⟩
end
theorem Row.capNone {w:World} {base size n c:Nat} {e:TypeId} {A:Option Addr} {xs:List Value} (h:Row w base e size A n c xs):A=none→c=0:=by
 intro hA
 rcases h with ⟨_,hr⟩ | ⟨_,h,_⟩
 ·rcases hr with ⟨hv,_⟩ | ⟨g,cap,cur,hv,_⟩
  ·injection hv
  ·injection hv with h1 h2 h3
   rw[hA]at h1
   cases h1
 ·exact h
def aPH (B:Nat) (M:DM) (d:D.Dsk) (w:World) (d3:D.Dsk) (e:Ending) (w':World):Prop :=
 ∃ l M',e=.returned (.tuple #[.pointer (some ⟨l,0,none⟩),.slice none 0 0,.int .i64 0])∧jM B l M' d3 0 w'∧aO (M.foot d) w (aX l M' d3) w'∧M'.d=M.d
def aM2 (B:Nat) (M:DM) (d:D.Dsk) (w:World) (e:Ending) (w':World):Prop :=
 (∃ code:Int,code≠0∧(d.down=false→(S.steps d S.bZ).2.2≠0)∧e=.returned (.tuple #[.pointer none,.slice none 0 0,.int .i64 code])∧aO (M.foot d) w (fun _=>False) w') ∨
 (d.down=false∧∃ d3,(S.steps d S.bZ).1=d3∧(S.steps d S.bZ).2.2=0∧aPH B M d w d3 e w')
theorem aBE (B:Nat) (M:DM) (d:D.Dsk) (m:Nat) (w:World) (h:bU B M d w) (hf:D.Fit m d) (hm:m≤134217000) (hnew:S.has d.list S.dB=false) (hrd:d.read S.bM=([],if d.down=true then 93 else 90)) :
  Calls Tryz.prog 51 #[.pointer (some ⟨M.d,0,none⟩)] w (aM2 B M d w):=by
 have HD:=aH h
 have HF:=aH hf
 have hln:d.now.length≤1073741824:=bD hf.now (by omega)
 have HLI:=aH (fun (u:World) (hu:Below w.heap.size w u)=>uC B M d u (h.below hu) hf.ok hln)
 have HRE:=aH (fun (u:World) (hu:Below w.heap.size w u)=>aEB B M d S.bM u (h.below hu) (hf.sml (by omega)) hf.ok dH.1)
 rw[hrd]at HRE
 obtain⟨dn,hdn⟩:∃ dn,d.down=dn:=⟨_,rfl⟩
 have HDN:=aH hdn
 rw[hdn]at HRE
 have HNW:=aH hnew
 have hll:d.list.length≤1099511627776:=by
  have:d.list.length≤d.now.length:=by unfold D.Dsk.list;split<;>simp
  omega
 clear h hf hnew hrd hdn
 go_enter Tryz.func51,Tryz.ntmps51
 go_upto_region 2 with fail
 obtain⟨W1,hW1⟩:∃ W1,(w.alloc (.cells #[.pointer (some ⟨M.d,0,none⟩)] 30)).alloc (.cells #[.pointer (some ⟨M.d,0,none⟩),.int .i64 0] 154)=W1:=⟨_,rfl⟩
 have hs1:(w.alloc (.cells #[.pointer (some ⟨M.d,0,none⟩)] 30)).heap.size=w.heap.size+1:=bJ ..
 have HZ1:Hid (W1.heap.size=w.heap.size+2):=aH (by rw[← hW1,bJ,hs1])
 have hb0:Below w.heap.size w (w.alloc (.cells #[.pointer (some ⟨M.d,0,none⟩)] 30)):=(zB _ _).alloc (zA _) _
 have HB1:Hid (Below w.heap.size w W1):=aH (by rw[← hW1];exact hb0.alloc (by rw[hs1];omega) _)
 have HBX:Hid (Blk W1 w.heap.size #[.pointer (some ⟨M.d,0,none⟩)] 30):=aH (by rw[← hW1];exact (Blk.new w _ _).alloc _)
 have HBL:Hid (Blk W1 (w.heap.size+1) #[.pointer (some ⟨M.d,0,none⟩),.int .i64 0] 154):=aH (by
  have:=Blk.new (w.alloc (.cells #[.pointer (some ⟨M.d,0,none⟩)] 30)) #[.pointer (some ⟨M.d,0,none⟩),.int .i64 0] 154
  rw[← hW1]
  rwa [hs1]at this)
 rw[hW1]
 clear hb0
 have z0:=HBX.out.cells1
 go_wp2_with fail
 refine (HLI.out _ HB1.out).mono ?_
 rintro e w2 ⟨A,c,rfl,hr2,hb2⟩
 have HB2:=aH (aA HB1.out.size HB1.out hb2)
 have HCT:=aH (tY A _ c d.list S.dB w2 rfl hll hr2.rd)
 rw[HNW.out]at HCT
 clear HLI hr2 HNW
 go_wp2_with fail
 refine HCT.out.mono ?_
 rintro e w2' ⟨rfl,rfl⟩
 have HBX2:=aH (HBX.out.below hb2)
 have HBL2:=aH (HBL.out.below hb2)
 have HZ2:Hid (w.heap.size+2≤w2.heap.size):=aH (by have:=hb2.size;have:=HZ1.out;omega)
 have z0:=HBX2.out.cells1
 clear hb2 HB1 HBX HBL HCT HZ1 hW1
 go_wp2_with fail
 refine (HRE.out _ HB2.out).mono ?_
 rintro e w3 ⟨A3,c3,rfl,hr3,hb3⟩
 cases dn with
 | true =>
  have HW3:=aH (aO.below (aA HB2.out.size HB2.out hb3) (M.foot d))
  clear hb3 hr3 HRE z0
  go_wp2
  (try simp only[Exit.inBlock,Exit.then])
  refine bK (results_tmp3 rfl _ _ _) rfl ?_
  exact .inl ⟨93,by decide,fun h=>absurd (HDN.out.symm.trans h) (by decide),rfl,HW3.out.wide (fun _ h=>h) (fun _ h=>h.elim)⟩
 | false =>
  have HB3:=aH (aA HB2.out.size HB2.out hb3)
  have HBX3:=aH (HBX2.out.below hb3)
  have HBL3:=aH (HBL2.out.below hb3)
  have HZ3:Hid (w.heap.size+2≤w3.heap.size):=aH (by have:=hb3.size;have:=HZ2.out;omega)
  have HRP:=aH (fun u=>aCV A3 c3 hr3.capNone u)
  clear hb3 hr3 HRE HB2 HBX2 HBL2 HZ2 z0
  have z0:=HBX3.out.cells1
  have hbe:Below w3.heap.size w3 (w3.alloc (.cells #[.func (.func 92) #[] #[.pointer (some ⟨w.heap.size,0,none⟩)],.func (.func 94) #[] #[.pointer (some ⟨w.heap.size,0,none⟩)],.func (.func 96) #[.pointer (some ⟨M.d,0,none⟩)] #[]] 157)):=(zB _ _).alloc (zA _) _
  have HB4:=aH (aA HB3.out.size HB3.out hbe)
  have HL4:=aH (show jM B (w.heap.size+1) M d 0 (w3.alloc (.cells #[.func (.func 92) #[] #[.pointer (some ⟨w.heap.size,0,none⟩)],.func (.func 94) #[] #[.pointer (some ⟨w.heap.size,0,none⟩)],.func (.func 96) #[.pointer (some ⟨M.d,0,none⟩)] #[]] 157)) from⟨HD.out.below HB4.out,HBL3.out.below hbe,by have:=HD.out.base;omega⟩)
  have HW4:Hid (aO (M.foot d) w (aX (w.heap.size+1) M d) (w3.alloc (.cells #[.func (.func 92) #[] #[.pointer (some ⟨w.heap.size,0,none⟩)],.func (.func 94) #[] #[.pointer (some ⟨w.heap.size,0,none⟩)],.func (.func 96) #[.pointer (some ⟨M.d,0,none⟩)] #[]] 157))):=aH ((aO.below HB4.out (M.foot d)).wide (fun _ h=>h) (fun k hk=>by
   rcases hk with hk | hk
   ·exact .inl hk
   ·exact .inr (.inr (by omega))))
  have HBX4:=aH (HBX3.out.below hbe)
  have hx4:Rd (w3.alloc (.cells #[.func (.func 92) #[] #[.pointer (some ⟨w.heap.size,0,none⟩)],.func (.func 94) #[] #[.pointer (some ⟨w.heap.size,0,none⟩)],.func (.func 96) #[.pointer (some ⟨M.d,0,none⟩)] #[]] 157)) (some ⟨w3.heap.size,0,none⟩) 3 1 (#[.func (.func 92) #[] #[.pointer (some ⟨w.heap.size,0,none⟩)],.func (.func 94) #[] #[.pointer (some ⟨w.heap.size,0,none⟩)],.func (.func 96) #[.pointer (some ⟨M.d,0,none⟩)] #[]]:Array Value).toList:=Rd.newRow w3 157 #[.func (.func 92) #[] #[.pointer (some ⟨w.heap.size,0,none⟩)],.func (.func 94) #[] #[.pointer (some ⟨w.heap.size,0,none⟩)],.func (.func 96) #[.pointer (some ⟨M.d,0,none⟩)] #[]] 3 1 rfl
  have hofx:∀ q,w.heap.size≤q→q≠w.heap.size+1→¬ aX (w.heap.size+1) M d q:=fun q hq hne hf=>by
   rcases hf with hf | hf
   ·have:=HD.out.lt hf;omega
   ·exact hne hf
  have HOF:=aH (hofx w.heap.size (zA _) (by omega))
  have hA4:∀ a,(some ⟨w3.heap.size,0,none⟩:Option Addr)=some a→¬ aX (w.heap.size+1) M d a.block:=fun a ha=>(by cases ha;exact hofx w3.heap.size (by have:=HZ3.out;omega) (by have:=HZ3.out;omega))
  have HFI:=aH (aGT B (w.heap.size+1) M d 0 m w.heap.size (some ⟨w3.heap.size,0,none⟩) 3 (fun d=>d.create S.bM) (fun d=>d.sync S.bM) (fun d=>d.syncNames) (w3.alloc (.cells #[.func (.func 92) #[] #[.pointer (some ⟨w.heap.size,0,none⟩)],.func (.func 94) #[] #[.pointer (some ⟨w.heap.size,0,none⟩)],.func (.func 96) #[.pointer (some ⟨M.d,0,none⟩)] #[]] 157)) HL4.out HF.out
   (fun _ _ h=>h.create _) (fun _ _ h=>h.sync _) (fun _ _ h=>h.syncNames) hx4 hA4
   (fun M1 d1 u hl hw hm hf=>aOJ B (w.heap.size+1) M1 d1 0 (m+0) w.heap.size u hl hf (by omega) (by rw[hm];exact hw.blk HBX4.out HOF.out))
   (fun M1 d1 u hl hw hm hf=>aOI B (w.heap.size+1) M1 d1 0 (m+1) w.heap.size u hl hf (by omega) (by rw[hm];exact hw.blk HBX4.out HOF.out))
   (fun M1 d1 u hl hw hm hf=>by rw[← hm];exact (iQ B M1 d1 u hl.disk (hf.sml (by omega))).mono fun _ _ h=>aY.log hl h))
  have HST:Hid (S.steps d [fun d=>d.create S.bM,fun d=>d.sync S.bM,fun d=>d.syncNames]=S.steps d S.bZ):=aH rfl
  rw[HST.out]at HFI
  obtain⟨d3,k3,code,hst⟩:∃ d3 k3 code,S.steps d S.bZ=(d3,k3,code):=⟨_,_,_,rfl⟩
  have HSS:=aH hst
  rw[hst]at HFI
  clear hst
  clear hbe hx4 hofx hA4 HOF HBX4 HL4 HBL3 HST
  go_wp2_with fail
  refine HFI.out.mono ?_
  rintro e w5 ⟨rfl,M5,hl5,hw5,hm5⟩
  have HL5:=aH hl5
  have HW5:=aH (HW4.out.trans hw5)
  have HM5:=aH hm5
  clear hl5 hw5 hm5 HFI HW4 z0
  by_cases hc:code=0
  rotate_left
  ·have HC:=aH hc
   clear HL5 HRP
   go_wp2
   (try simp only[Exit.inBlock,Exit.then])
   refine bK (results_tmp3 rfl _ _ _) rfl ?_
   exact .inl ⟨code,HC.out,fun _=>by rw[HSS.out];exact HC.out,rfl,HW5.out.wide (fun _ h=>h) (fun _ h=>h.elim)⟩
  subst hc
  go_wp2_with fail
  refine (HRP.out _).mono ?_
  rintro e w6 ⟨rfl,hb6⟩
  have hl6:=HL5.out.below hb6
  obtain⟨hl7,hw7⟩:=hl6.counted 0
  have HL7:=aH hl7
  have HW7:=aH ((HW5.out.trans (aO.below hb6 _)).trans hw7)
  obtain⟨y0,y1⟩:=hl6.cells
  have f1:=hl6.blk.free 1
  clear hb6 hl6 hl7 hw7 HRP HW5 y0
  go_wp2
  (try simp only[Exit.inBlock,Exit.then])
  refine bK (results_tmp3 rfl _ _ _) rfl ?_
  refine .inr ⟨HDN.out,d3,by rw[HSS.out],by rw[HSS.out],w.heap.size+1,M5,rfl,HL7.out,HW7.out,HM5.out⟩
open Lr (Ring nG aHA Fr nx pv adr)
namespace Lr
section
variable {l:List It} {j:Nat}
theorem aGR (hj:j < l.length):(l[j]::l.eraseIdx j).Perm l:=by
 induction l generalizing j with
 | nil=>exact absurd hj (Nat.not_lt_zero _)
 | cons y r ih =>
  cases j with
  | zero=>exact List.Perm.refl _
  | succ j=>exact (List.Perm.swap _ _ _).trans ((ih (by simpa using hj)).cons y)
theorem aGQ (hn:(ids l).Nodup) (hj:j < l.length):aNP l (l[j]::l.eraseIdx j):=fun id=>by
 unfold peek
 rw[List.find?_cons]
 by_cases h:(l[j]).id=id
 ·rw[decide_eq_true h,← h]
  exact (aH9 hn hj).symm
 ·rw[decide_eq_false h]
  have:=kD hn hj id
  rw[if_neg (fun e=>h e.symm)]at this
  exact this
theorem aGP (hj:j < l.length):used (l[j]::l.eraseIdx j)=used l:=by
 have:=vX hj
 unfold used at this ⊢
 rw[List.map_cons,List.sum_cons]
 omega
end
end Lr
section
variable {F F':Nat→Prop} {w w1:World} {b:Nat}
theorem fJ (h:aO F w F' w1) (hb:w.heap.size≤b) (i:Nat) (v:Value):aO F w F' (w1.setCell ⟨b,i,none⟩ v) :=
 ⟨h.os,h.tape,h.output,by rw[World.size_setCell];exact h.size,fun k hk hn=>(Below.heap_setCell w1 ⟨b,i,none⟩ v k (by show k≠b;omega)).trans (h.block k hk hn),h.foot⟩
theorem iO (h:aO F w F' w1) (hb:w.heap.size≤b) (y0 y1 y2 y3 y4 y5 y6 y7 y8:Value):aO F w F' (nine w1 b y0 y1 y2 y3 y4 y5 y6 y7 y8) :=
 fJ (fJ (fJ (fJ (fJ (fJ (fJ (fJ (fJ h hb 0 y0) hb 1 y1) hb 2 y2) hb 3 y3) hb 4 y4) hb 5 y5) hb 6 y6) hb 7 y7) hb 8 y8
theorem dW (hF:F b) (y0 y1 y2 y3 y4 y5 y6 y7 y8:Value):aO F w F (nine w b y0 y1 y2 y3 y4 y5 y6 y7 y8) :=
 (((((((((dV hF 0 y0).trans (dV hF 1 y1)).trans (dV hF 2 y2)).trans (dV hF 3 y3)).trans (dV hF 4 y4)).trans (dV hF 5 y5)).trans (dV hF 6 y6)).trans (dV hF 7 y7)).trans (dV hF 8 y8))
theorem LrF.perm {t m k:Nat} {l l':List It} (hp:l'.Perm l) (hk:LrF t m l' k):LrF t m l k:=hk.imp id (fun h=>h.imp id (fun⟨y,hy,e⟩=>⟨y,hp.mem_iff.1 hy,e⟩))
theorem fG.nine {B t m room:Nat} {l:List It} (h:fG B t m room l w) (h0:¬ LrF t m l b) (hr:∀ x∈l,∀ k,ownB x.p.A x.p.c=some k∨ownB x.p.X x.p.d=some k→k≠b) (y0 y1 y2 y3 y4 y5 y6 y7 y8:Value):fG B t m room l (Go.Proofs.YthjeglnkgdpijaaGreatDoor.nine w b y0 y1 y2 y3 y4 y5 y6 y7 y8) :=
 h.went (F:=fun k=>k=b) (F':=fun k=>k=b) (dW (F:=fun k=>k=b) rfl _ _ _ _ _ _ _ _ _) (fun _ hk e=>h0 (e ▸ hk)) (fun x hx k hk e=>hr x hx k hk e)
end
theorem aIN (B t m room:Nat) (l:List It) (id:ByteArray) (w:World) (h:fG B t m room l w) (hs:id.size≤1073741824) :
  Calls Tryz.prog 37 #[.pointer (some ⟨t,0,none⟩),.string id] w (fun e w'=>∃ l',e=.returned (.tuple #[itV (Lr.peek l id),.bool (Lr.peek l id).isSome])∧fG B t m room l' w'∧aO (LrF t m l) w (LrF t m l') w'∧aNP l l'):=by
 obtain⟨w0,hw0⟩:∃ w0,w.alloc (.cells #[.string ⟨#[]⟩,.string ⟨#[]⟩,.int .i64 0,.string ⟨#[]⟩,.int .i64 0,.slice none 0 0,.slice none 0 0,.int .i64 0,.int .i64 0] 41)=w0:=⟨_,rfl⟩
 have hb0:Below w.heap.size w w0:=by rw[← hw0];exact (zB _ _).alloc (zA _) _
 have hk0:=Blk.new w #[.string ⟨#[]⟩,.string ⟨#[]⟩,.int .i64 0,.string ⟨#[]⟩,.int .i64 0,.slice none 0 0,.slice none 0 0,.int .i64 0,.int .i64 0] 41
 rw[hw0]at hk0
 have h0:=h.below hb0
 have hnk:¬ LrF t m l w.heap.size:=fun hk=>Nat.lt_irrefl _ (h.lt hk)
 obtain⟨tb,t1,t2,hb⟩:=h0.base
 have hlk:=hb.look id hs
 rw[t2]at hlk
 obtain⟨y0,y1,y2⟩:=h0.tabc
 have HB0:=aH hb0
 have HK0:=aH hk0
 have HH:=aH h
 have H0:=aH h0
 have HNK:=aH hnk
 have HRN:Hid (∀ x∈l,∀ k,ownB x.p.A x.p.c=some k∨ownB x.p.X x.p.d=some k→k≠w.heap.size):=aH (fun x hx k hk=>by
  rcases hk with hk | hk
  ·have:=(h.own x hx).1.lt _ hk;omega
  ·have:=(h.own x hx).2.lt _ hk;omega)
 have HT1:=aH t1
 have HT2:=aH t2
 have HBA:=aH hb
 clear t1 t2 hb hb0 hk0 hnk h
 cases hp:Lr.peek l id with
 | none =>
  rw[hp]at hlk
  change _=Result.ok (Value.pointer none) w0 at hlk
  have HP:=aH hp
  have HPK:=aH (kG B t m room l id w0 h0 hs)
  rw[hp]at HPK
  clear h0 hp
  go_enter Tryz.func37,Tryz.ntmps37
  go_wp2_with fail
  clear hlk y0 y1 y2 hw0
  refine HPK.out.mono ?_
  rintro e w1 ⟨rfl,hb1⟩
  have hka:=HK0.out.below hb1
  have HB1:=aH (aA HB0.out.size HB0.out hb1)
  obtain⟨x0,x1,x2,x3,x4,x5,x6,x7,x8⟩:=hka.cells9
  obtain⟨f0,f1,f2,f3,f4,f5,f6,f7,f8⟩:=hka.free9
  have HKA:=aH hka
  have H1:=aH (H0.out.below hb1)
  clear hb1 hka HPK
  unfold itV EP.nil EP.v kK O.Ent.zero
  dsimp only[Option.isSome_none]
  go_wp2
  clear x0 x1 x2 x3 x4 x5 x6 x7 x8 f0 f1 f2 f3 f4 f5 f6 f7 f8
  obtain⟨d0,d1,d2,d3,d4,d5,d6,d7,d8⟩:=(HKA.out.set9 (.string ⟨#[]⟩) (.string ⟨#[]⟩) (.int .i64 0) (.string ⟨#[]⟩) (.int .i64 0) (.slice none 0 0) (.slice none 0 0) (.int .i64 0) (.int .i64 0)).cells9
  have hbz:=aK HB1.out (zA _) (.string ⟨#[]⟩) (.string ⟨#[]⟩) (.int .i64 0) (.string ⟨#[]⟩) (.int .i64 0) (.slice none 0 0) (.slice none 0 0) (.int .i64 0) (.int .i64 0)
  have HBZ:=aH hbz
  have hlz:=H1.out.nine HNK.out HRN.out (.string ⟨#[]⟩) (.string ⟨#[]⟩) (.int .i64 0) (.string ⟨#[]⟩) (.int .i64 0) (.slice none 0 0) (.slice none 0 0) (.int .i64 0) (.int .i64 0)
  have HLZ:=aH hlz
  unfold nine at d0 d1 d2 d3 d4 d5 d6 d7 d8
  refine bK (v:=.tuple #[.agg #[.string ⟨#[]⟩,.string ⟨#[]⟩,.int .i64 0,.string ⟨#[]⟩,.int .i64 0,.slice none 0 0,.slice none 0 0,.int .i64 0,.int .i64 0],.bool false]) (by simp [results,Tryz.results37,go_sem,d0,d1,d2,d3,d4,d5,d6,d7,d8]) rfl ?_
  exact⟨l,rfl,HLZ.out,(aO.below HBZ.out _),fun _=>rfl⟩
 | some y =>
  rw[hp]at hlk
  change _=Result.ok (Value.pointer (some ⟨y.k,0,none⟩)) w0 at hlk
  obtain⟨j,hj,e1,e2⟩:=Lr.sN hp
  have HP:=aH hp
  obtain⟨b1,o1,f1,g1,lt1,k1⟩:=h0.ring.form j
  obtain⟨b2,o2,f2,g2,lt2,k2⟩:=h0.ring.form (j+2)
  obtain⟨c1,c2,d1,d2⟩:=h0.ring.unlinks hj f1 f2
  have hxm:=List.getElem_mem hj
  have HUN:=aH (vY t (l[j]'hj).k b1 o1 b2 o2 w0 c1 c2 (h0.ring.nd _ hxm).lt lt1 lt2 d1 d2 (h0.ring.freeAt k1 _) (h0.ring.freeAt k2 _))
  obtain⟨p1,p2,p3⟩:=HBA.out.unlink h0.ring (fun _ hy=>hy) hj f1 f2 k1 k2
  have hnd:=h0.one
  have hfp:=Lr.aGR hj
  have hfs:=Lr.aGQ hnd hj
  have hfu:=Lr.aGP hj
  rw[e1]at HUN hfp hfs hfu
  obtain⟨W1,hW1⟩:∃ W1,(w0.setCell ⟨b1,o1+12,none⟩ (.pointer (some ⟨b2,o2,none⟩))).setCell ⟨b2,o2+11,none⟩ (.pointer (some ⟨b1,o1,none⟩))=W1:=⟨_,rfl⟩
  rw[hW1]at p1 p2 p3 HUN
  have HP1:=aH p1
  have HP2:=aH p2
  have HP3:=aH p3
  have HFP:=aH hfp
  have HFS:=aH hfs
  have HFU:=aH hfu
  have HYM:Hid (y∈l):=aH (e1 ▸ hxm)
  have HYN:Hid (∀ z∈l.eraseIdx j,z.k≠y.k):=aH (fun z hz ez=>by
   have h9:=(hfp.map It.k).nodup_iff.2 (List.nodup_cons.1 h0.ring.apart).2
   rw[List.map_cons,List.nodup_cons]at h9
   exact h9.1 (List.mem_map.2 ⟨z,hz,ez⟩))
  -- the cells of the node that is out of the ring
  have hc11:=cell?_setCell_some (p:=⟨b1,o1+12,none⟩) (x:=.pointer (some ⟨b2,o2,none⟩)) c1
  have hc12:=cell?_setCell_some (p:=⟨b1,o1+12,none⟩) (x:=.pointer (some ⟨b2,o2,none⟩)) c2
  obtain⟨v11,hc11⟩:=hc11
  obtain⟨v12,hc12⟩:=hc12
  have hc11:=cell?_setCell_some (p:=⟨b2,o2+11,none⟩) (x:=.pointer (some ⟨b1,o1,none⟩)) hc11
  have hc12:=cell?_setCell_some (p:=⟨b2,o2+11,none⟩) (x:=.pointer (some ⟨b1,o1,none⟩)) hc12
  rw[hW1,e1]at hc11 hc12
  have HC11:=aH hc11
  have HC12:=aH hc12
  clear h0 hp c1 c2 d1 d2 g1 g2 lt1 lt2 k1 k2 f1 f2 p1 p2 p3 hW1 hfp hfs hfu hnd hxm hc11 hc12 e1 e2 HBA
  go_enter Tryz.func37,Tryz.ntmps37
  go_wp2_with fail
  clear hlk y0 y1 y2 hw0
  refine HUN.out.mono ?_
  rintro e w1 ⟨rfl,ha1⟩
  have HQ1:=aH (HP1.out.below ha1)
  have HR1:=aH (HP2.out.below ha1)
  have HW1:=aH (HP3.out.trans (aO.below ha1 _))
  have HA1:=aH ha1
  obtain⟨b,o,fb,gb,ltb,kb⟩:=HR1.out.form 1
  obtain⟨m1,m2⟩:=HR1.out.link 0 (zF _)
  rw[show (0:Nat)+1=1 from rfl,fb]at m1 m2
  have hyf:=(HQ1.out.node y HYM.out).2
  have h11:∃ v,w1.cell? ⟨y.k,11,none⟩=some v:=by
   obtain⟨v,hv⟩:=HC11.out
   exact⟨v,(ha1.cell (p:=⟨y.k,11,none⟩) (HP1.out.node y HYM.out).2.lt).trans hv⟩
  have h12:∃ v,w1.cell? ⟨y.k,12,none⟩=some v:=by
   obtain⟨v,hv⟩:=HC12.out
   exact⟨v,(ha1.cell (p:=⟨y.k,12,none⟩) (HP1.out.node y HYM.out).2.lt).trans hv⟩
  have HFR:=aH (aBN t y.k b o w1 m1 HR1.out.tb.lt hyf.lt ltb h11 h12 ⟨_,m2⟩ (fun i=>hyf.free i) (fun i=>HR1.out.tb.free i) (fun i=>HR1.out.freeAt kb i))
  obtain⟨u1,h11⟩:=h11
  obtain⟨u2,h12⟩:=h12
  obtain⟨q1,q2,q3⟩:=HQ1.out.front (x:=y) HR1.out (fun z hz=>List.mem_of_mem_eraseIdx hz) HYM.out HYN.out fb kb h11 h12
  have HQ2:=aH q1
  have HR2:=aH q2
  have HW2:=aH (HW1.out.trans q3)
  generalize (((w1.setCell ⟨y.k,11,none⟩ (.pointer (some ⟨t,3,none⟩))).setCell ⟨y.k,12,none⟩ (.pointer (some ⟨b,o,none⟩))).setCell ⟨t,15,none⟩ (.pointer (some ⟨y.k,0,none⟩))).setCell ⟨b,o+11,none⟩ (.pointer (some ⟨y.k,0,none⟩))=W2 at *
  clear ha1 fb gb ltb kb m1 m2 hyf h11 h12 q1 q2 q3 HUN HP1 HP2 HP3 HC11 HC12
  go_wp2_with fail
  refine HFR.out.mono ?_
  rintro e w2 ⟨rfl,ha2⟩
  have hl2:fG B t m room (y::l.eraseIdx j) w2:=by
   refine bF.at_ (tb:=tb) (l0:=l) (by rw[HFU.out];exact HQ2.out.below ha2) (HR2.out.below ha2) (fun z hz=>(HFP.out.mem_iff).1 hz) HT1.out (fun x=>by rw[HFS.out x];exact HT2.out x) ?_ (by rw[HFU.out];exact HH.out.fits) (fun z hz=>HH.out.pos z ((HFP.out.mem_iff).1 hz)) (fun z hz=>HH.out.small z ((HFP.out.mem_iff).1 hz)) ⟨HH.out.ge.1,HH.out.ge.2.1,fun z hz=>HH.out.ge.2.2 z ((HFP.out.mem_iff).1 hz)⟩
   exact (HFP.out.map It.id).nodup_iff.2 HH.out.one
  have HL2:=aH hl2
  have HPK:=aH (kG B t m room _ id w2 hl2 hs)
  rw[HFS.out,HP.out]at HPK
  have HW3:=aH (HW2.out.trans (aO.below ha2 _))
  clear ha2 hl2 HFR HQ2 HR2 HW2
  go_wp2_with fail
  refine HPK.out.mono ?_
  rintro e w3 ⟨rfl,hb3⟩
  have HL3:=aH (HL2.out.below hb3)
  have HW4:=aH (HW3.out.trans (aO.below hb3 _))
  have hka:=HW4.out.blk HK0.out HNK.out
  obtain⟨x0,x1,x2,x3,x4,x5,x6,x7,x8⟩:=hka.cells9
  obtain⟨f0,f1,f2,f3,f4,f5,f6,f7,f8⟩:=hka.free9
  have HKA:=aH hka
  clear hb3 hka HPK HL2 HW3
  unfold itV EP.v kK
  dsimp only[Option.isSome_some]
  go_wp2
  clear x0 x1 x2 x3 x4 x5 x6 x7 x8 f0 f1 f2 f3 f4 f5 f6 f7 f8
  obtain⟨d0,d1,d2,d3,d4,d5,d6,d7,d8⟩:=(HKA.out.set9 (.string y.p.E.k) (.string y.p.E.v) (.int .i64 y.p.E.s) (.string y.p.E.r) (.int .i64 y.p.E.m) (.slice y.p.A y.p.E.fs.length y.p.c) (.slice y.p.X y.p.E.body.length y.p.d) (.int .i64 y.p.E.asked) (.int .i64 y.p.E.got)).cells9
  have hlz:=HL3.out.nine (fun hk=>HNK.out (LrF.perm HFP.out hk)) (fun x hx=>HRN.out x ((HFP.out.mem_iff).1 hx)) (.string y.p.E.k) (.string y.p.E.v) (.int .i64 y.p.E.s) (.string y.p.E.r) (.int .i64 y.p.E.m) (.slice y.p.A y.p.E.fs.length y.p.c) (.slice y.p.X y.p.E.body.length y.p.d) (.int .i64 y.p.E.asked) (.int .i64 y.p.E.got)
  have HLZ:=aH hlz
  have HWZ:=aH (aDZ (iO ((aO.below HB0.out (LrF t m l)).trans HW4.out) (zA _) (.string y.p.E.k) (.string y.p.E.v) (.int .i64 y.p.E.s) (.string y.p.E.r) (.int .i64 y.p.E.m) (.slice y.p.A y.p.E.fs.length y.p.c) (.slice y.p.X y.p.E.body.length y.p.d) (.int .i64 y.p.E.asked) (.int .i64 y.p.E.got)) (fun k hk=>LrF.perm HFP.out hk))
  unfold nine at d0 d1 d2 d3 d4 d5 d6 d7 d8
  refine bK (v:=.tuple #[.agg #[.string y.p.E.k,.string y.p.E.v,.int .i64 y.p.E.s,.string y.p.E.r,.int .i64 y.p.E.m,.slice y.p.A y.p.E.fs.length y.p.c,.slice y.p.X y.p.E.body.length y.p.d,.int .i64 y.p.E.asked,.int .i64 y.p.E.got],.bool true]) (by simp [results,Tryz.results37,go_sem,d0,d1,d2,d3,d4,d5,d6,d7,d8]) rfl ?_
  exact⟨_,rfl,HLZ.out,HWZ.out,HFS.out⟩
end Go.Proofs.YthjeglnkgdpijaaGreatDoor
