/- The walks of slices.Contains at names, slices.Index at numbers' marks, and of the store's lay. The walks of the store's free and tidy. The walks of the store's read, Get and free. Conditions: as each theorem states them. -/
import Derived.Test.YthjeglnkgdpijaaGreatDoorZ27
import Derived.Test.YthjeglnkgdpijaaGreatDoorObjB
set_option maxHeartbeats 4000000
set_option maxRecDepth 100000
namespace Go.Proofs.YthjeglnkgdpijaaGreatDoor
open Go Go.RowKit Go.Maps
theorem uP (A:Option Addr) (n c:Nat) (ns:List ByteArray) (x:ByteArray) (w:World) (hl:ns.length=n) (hn:n≤1099511627776) (hx:Rd w A n 1 (aF ns)) :
  Calls Tryz.prog 67 #[.slice A n c,.string x] w (vX w (.bool (S.has ns x))):=by
 subst hl
 by_cases h0:ns.length=0
 ·have hns:ns=[]:=List.eq_nil_of_length_eq_zero h0
  subst hns
  exact (Tryz.slices_Contains_string_empty A c x w).mono fun e w' ⟨h1,h2⟩=>⟨h1,h2.symm⟩
 ·obtain⟨b,o,rfl,_,hc⟩:=hx.2 (by omega)
  refine (Tryz.slices_Contains_string b o ns.length c ns x w (zA _) (by omega) (fun j hj=>?_)).mono fun e w' ⟨h1,h2⟩=>⟨?_,h2.symm⟩
  ·refine hc j _ ?_
   unfold aF
   rw[List.getElem?_map,List.getElem?_eq_getElem hj]
   simp [List.getD,hj]
  ·rw[h1,List.take_length]
   congr 2
   rw[Bool.eq_iff_iff,Lib.containsS_iff,S.has_iff]
def S.idxF (bl:List Bool):Int:=match bl.findIdx? (fun x=>decide (x=false)) with | some k=>(k:Int) | none=>-1
theorem S.idxF_some {bl:List Bool} {k:Nat} (h:bl.findIdx? (fun x=>decide (x=false))=some k):S.idxF bl=k:=by unfold S.idxF;rw[h]
theorem S.idxF_none {bl:List Bool} (h:bl.findIdx? (fun x=>decide (x=false))=none):S.idxF bl=-1:=by unfold S.idxF;rw[h]
theorem aHE (A:Option Addr) (n c:Nat) (bl:List Bool) (w:World) (hn:n≤1099511627776) (hl:bl.length=n) (hx:Rd w A n 1 (S.bools bl)) :
  Calls Tryz.prog 73 #[.slice A n c,.bool false] w (vX w (.int .i64 (S.idxF bl))):=by
 have HX:=aH hx
 have HL:=aH hl
 obtain⟨G,hG⟩:∃ G:Int,S.idxF bl=G:=⟨_,rfl⟩
 have HG:=aH hG
 rw[hG]
 clear hx hl hG
 go_enter Tryz.func73,Tryz.ntmps73
 go_wp2
 go_loopw [8] (fun i wr=>∃ k:Nat,k≤n∧i=.int .i64 k∧wr=w∧∀ j,j < k→∀ h:j < bl.length,bl[j]=true) (fun i _=>n - (intOf i).toNat)
 case atStart=>exact⟨0,zF _,rfl,rfl,fun j hj=>absurd hj (Nat.not_lt_zero _)⟩
 case round =>
  obtain⟨k,hk,rfl,rfl,hno⟩:=hrel
  have HNO:=aH hno
  clear hno
  by_cases hlt:k < n
  ·obtain⟨b,o,u,rfl,hb,hu,hc⟩:=HX.out.at1 hlt
   have hkl:k < bl.length:=by rw[HL.out];exact hlt
   have hu2:u=.bool (bl[k]'hkl):=by
    unfold S.bools at hu
    rw[List.getElem?_map,List.getElem?_eq_getElem hkl]at hu
    exact (Option.some.inj hu).symm
   subst hu2
   have HK:=aH (rfl:bl[k]'hkl=bl[k]'hkl)
   cases hv:bl[k]'hkl
   ·rw[hv]at hc
    have HF:Hid (bl.findIdx? (fun x=>decide (x=false))=some k):=aH (by
     rw[List.findIdx?_eq_some_iff_getElem]
     exact⟨hkl,by rw[hv];rfl,fun j hj=>by rw[HNO.out j hj (by omega)];decide⟩)
    clear hu hv
    go_wp2
    go_ret
    exact⟨by rw[← HG.out,S.idxF_some HF.out]<;>rfl,rfl⟩
   ·rw[hv]at hc
    have HV:=aH hv
    clear hu hv
    go_wp2
    go_roundw
    case rel=>exact⟨k+1,by omega,by go_num,trivial,fun j hj h=>by
     rcases Nat.lt_succ_iff_lt_or_eq.1 hj with h1 | h1
     ·exact HNO.out j h1 h
     ·subst h1;exact HV.out⟩
    case measure=>simp [intOf];omega
  ·have hkn:k=n:=by omega
   have HF:Hid (bl.findIdx? (fun x=>decide (x=false))=none):=aH (by
    rw[List.findIdx?_eq_none_iff]
    intro x hx2
    obtain⟨j,hj,rfl⟩:=List.getElem_of_mem hx2
    rw[HNO.out j (by have:=HL.out;omega) hj]
    decide)
   clear hkn HNO
   go_wp2
   go_ret
   exact⟨by rw[← HG.out,S.idxF_none HF.out]<;>rfl,rfl⟩
def aSB (B:Nat) (X:SM) (s:S.Sto) (w:World) (x:D.Dsk × Bool × Int) (e:Ending) (w':World):Prop :=
 e=.returned (.tuple #[.bool x.2.1,.int .i64 x.2.2])∧∃ M',eU B { X with M:=M' } { s with d:=x.1 } w'∧aO (X.foot s) w (({ X with M:=M' }:SM).foot { s with d:=x.1 }) w'∧M'.d=X.M.d
theorem bF.sto {B:Nat} {X:SM} {s:S.Sto} {w:World} {x:D.Dsk × Int} {e:Ending} {w':World} (h:eU B X s w) (hr:bF B X.M s.d w x e w') :
  e=.returned (.int .i64 x.2)∧∃ M',eU B { X with M:=M' } { s with d:=x.1 } w'∧aO (X.foot s) w (({ X with M:=M' }:SM).foot { s with d:=x.1 }) w'∧M'.d=X.M.d:=by
 obtain⟨he,M',hd,hs⟩:=hr
 obtain⟨h1,h2⟩:=h.step hd hs
 exact⟨he,M',h1,h2,hs.same⟩
theorem aL4 (B:Nat) (X:SM) (s:S.Sto) (m:Nat) (p:ByteArray) (A:Option Addr) (n c:Nat) (bs:List UInt8) (w:World) (h:eU B X s w) (hf:D.Fit m s.d) (hm:m≤134217000) (hp:p.size≤1099511627776) (hl:bs.length=n) (hn:n≤1099511627776) (hx:Rd w A n 1 (aB bs)) (hA:0 < n→∀ a,A=some a→¬ X.foot s a.block) :
  Calls Tryz.prog 74 #[.pointer (some ⟨X.st,0,none⟩),.string p,.slice A n c] w (aSB B X s w (S.lay s.d p bs)):=by
 have HD:=aH h
 have HX:=aH hx
 have HA:=aH hA
 have HF:=aH hf
 have HLI:=aH (uU B X.M s.d w h.log.disk hf.ok (by have:=hf.now;omega))
 have HHN:=aH (fun (A:Option Addr) (c:Nat) (u:World) (hr:Rd u A s.d.list.length 1 (aF s.d.list))=>uP A s.d.list.length c s.d.list p u rfl (by
  have:=hf.now
  unfold D.Dsk.list
  split
  ·exact zF _
  ·rw[List.length_map];omega) hr)
 obtain⟨y0,y1,y2,y3⟩:=h.cells
 obtain⟨x,hxx⟩:∃ x,x=if S.has s.d.list p then s.d.remove p else (s.d,0):=⟨_,rfl⟩
 obtain⟨G,hG⟩:∃ G,S.lay s.d p bs=G:=⟨_,rfl⟩
 have HG:Hid (G=if x.2≠0 then (x.1,false,x.2) else if (x.1.create p).2≠0 then ((x.1.create p).1,false,(x.1.create p).2)
  else if ((x.1.create p).1.append p bs).2≠0 then (((x.1.create p).1.append p bs).1,true,((x.1.create p).1.append p bs).2)
  else if (((x.1.create p).1.append p bs).1.sync p).2≠0 then ((((x.1.create p).1.append p bs).1.sync p).1,true,(((x.1.create p).1.append p bs).1.sync p).2)
  else ((((x.1.create p).1.append p bs).1.sync p).1.syncNames.1,true,(((x.1.create p).1.append p bs).1.sync p).1.syncNames.2)):=aH (by rw[← hG,hxx];rfl)
 have HXX:=aH hxx
 have hfx:D.Fit (m+1) x.1:=by
  rw[hxx]
  split
  ·exact hf.remove _
  ·exact hf.mono (by omega)
 have HFX:=aH hfx
 rw[hG]
 clear h hx hA hf y1 y2 y3 hxx hG hfx
 go_enter Tryz.func74,Tryz.ntmps74
 go_wp2_with fail
 refine HLI.out.mono ?_
 rintro e w1 ⟨A1,c1,rfl,hr1,hb1⟩
 have HD1:=aH (HD.out.below hb1)
 have HB1:=aH hb1
 have HHN1:=aH (HHN.out A1 c1 w1 hr1.rd)
 clear hr1 hb1 HLI HHN HD y0
 obtain⟨y0,y1,y2,y3⟩:=HD1.out.cells
 clear y1 y2 y3
 go_wp2_with fail
 refine HHN1.out.mono ?_
 rintro e w2 ⟨rfl,rfl⟩
 clear HHN1
 go_upto_if 18 with fail
 go_cut [] (fun wx=>x.2=0∧∃ M',eU B { X with M:=M' } { s with d:=x.1 } wx∧aO (X.foot s) w (({ X with M:=M' }:SM).foot { s with d:=x.1 }) wx∧M'.d=X.M.d)
 case first =>
  cases hh:S.has s.d.list p
  ·have HX0:Hid (x=(s.d,0)):=aH (by rw[HXX.out,hh];rfl)
   go_wp2
   go_meet
   exact⟨by rw[HX0.out],X.M,by rw[HX0.out];exact HD1.out,by rw[HX0.out];exact aO.below HB1.out _,rfl⟩
  ·have HX0:Hid (x=s.d.remove p):=aH (by rw[HXX.out,hh];rfl)
   have HRM:=aH (kP B X.M s.d p w1 HD1.out.log.disk (HF.out.sml (by omega)) hp)
   rw[← HX0.out]at HRM
   go_wp2_with fail
   refine HRM.out.mono ?_
   rintro e w3 hr3
   obtain⟨rfl,M3,h3,hw3,hm3⟩:=bF.sto HD1.out hr3
   have HD3:=aH h3
   have HW3:=aH ((aO.below HB1.out (X.foot s)).trans hw3)
   clear hr3 h3 hw3 HRM y0
   by_cases h0:x.2=0
   ·have h0b:(x.2 != 0)=false:=by rw[h0];rfl
    go_wp2
    go_meet
    exact⟨h0,M3,HD3.out,HW3.out,hm3⟩
   ·have h0b:(x.2 != 0)=true:=by simpa using h0
    rw[if_pos h0]at HG
    go_wp2
    go_ret2
    exact⟨by rw[HG.out]<;>rfl,M3,by rw[HG.out];exact HD3.out,by rw[HG.out];exact HW3.out,hm3⟩
 case rest =>
  obtain⟨hx0,M2,hd2,hw2,hm2⟩:=hcut
  have HD2:=aH hd2
  have HW2:=aH hw2
  have HM2:=aH hm2
  rw[if_neg (by rw[hx0];decide)]at HG
  obtain⟨d2,hd2e⟩:∃ d2,d2=x.1:=⟨_,rfl⟩
  rw[← hd2e]at HD2 HW2 HG HFX
  clear hd2 hw2 hm2 hx0 hd2e HXX HD1 HB1 y0
  obtain⟨w2,rfl⟩:∃ w2:World,w2=wc:=⟨_,rfl⟩
  have HF2:=HFX
  have HO2:=aH (mF HW2.out HX.out HA.out)
  obtain⟨Y3,hY3⟩:∃ Y,d2.create p=Y:=⟨_,rfl⟩
  have HC3:=aH (oZ B M2 d2 p w2 HD2.out.log.disk (HF2.out.sml (by omega)) HF2.out.ok hp)
  have HFa3:=aH (HF2.out.create p)
  rw[hY3]at HC3 HG HFa3
  obtain⟨d3,e3⟩:=Y3
  dsimp only at HG HFa3
  obtain⟨y0,y1,y2,y3⟩:=HD2.out.cells
  dsimp only at y0
  clear y1 y2 y3 hY3
  go_wp2_with fail
  refine HC3.out.mono ?_
  rintro e w3 hr3
  obtain⟨rfl,M3,h3,hw3,hm3⟩:=bF.sto HD2.out hr3
  have HD3:Hid (eU B { X with M:=M3 } { s with d:=d3 } w3):=aH h3
  have HW3:Hid (aO (X.foot s) w (({ X with M:=M3 }:SM).foot { s with d:=d3 }) w3):=aH (HW2.out.trans hw3)
  have HM3:Hid (M3.d=X.M.d):=aH (hm3.trans HM2.out)
  have HF3:=HFa3
  have HO3:=aH (mF HW3.out HX.out HA.out)
  clear hr3 h3 hw3 hm3 HC3 HFa3 y0 HD2 HW2 HF2 HO2
  dsimp only
  by_cases h0:e3=0
  rotate_left
  ·have h0b:(e3 != 0)=true:=by simpa using h0
   rw[if_pos h0]at HG
   go_wp2
   go_ret2
   exact⟨by rw[HG.out]<;>rfl,M3,by rw[HG.out];exact HD3.out,by rw[HG.out];exact HW3.out,HM3.out⟩
  subst h0
  rw[if_neg (by simp)]at HG
  obtain⟨Y4,hY4⟩:∃ Y,d3.append p bs=Y:=⟨_,rfl⟩
  have HC4:=aH (pR B M3 d3 p A n c bs w3 HD3.out.log.disk (HF3.out.sml (by omega)) HF3.out.ok (HF3.out.used (by omega)) (Fit.roomy HF3.out) hp hl hn (HW3.out.rd HX.out HA.out) (fun hn0 a ha hfo=>HO3.out hn0 a ha (.inl hfo)))
  have HFa4:=aH (HF3.out.append p bs)
  rw[hY4]at HC4 HG HFa4
  obtain⟨d4,e4⟩:=Y4
  dsimp only at HG HFa4
  obtain⟨y0,y1,y2,y3⟩:=HD3.out.cells
  dsimp only at y0
  clear y1 y2 y3 hY4
  go_wp2_with fail
  refine HC4.out.mono ?_
  rintro e w4 hr4
  obtain⟨rfl,M4,h4,hw4,hm4⟩:=bF.sto HD3.out hr4
  have HD4:Hid (eU B { X with M:=M4 } { s with d:=d4 } w4):=aH h4
  have HW4:Hid (aO (X.foot s) w (({ X with M:=M4 }:SM).foot { s with d:=d4 }) w4):=aH (HW3.out.trans hw4)
  have HM4:Hid (M4.d=X.M.d):=aH (hm4.trans HM3.out)
  have HF4:=HFa4
  have HO4:=aH (mF HW4.out HX.out HA.out)
  clear hr4 h4 hw4 hm4 HC4 HFa4 y0 HD3 HW3 HF3 HO3
  dsimp only
  by_cases h0:e4=0
  rotate_left
  ·have h0b:(e4 != 0)=true:=by simpa using h0
   rw[if_pos h0]at HG
   go_wp2
   go_ret2
   exact⟨by rw[HG.out]<;>rfl,M4,by rw[HG.out];exact HD4.out,by rw[HG.out];exact HW4.out,HM4.out⟩
  subst h0
  rw[if_neg (by simp)]at HG
  obtain⟨Y5,hY5⟩:∃ Y,d4.sync p=Y:=⟨_,rfl⟩
  have HC5:=aH (mO B M4 d4 p w4 HD4.out.log.disk (HF4.out.sml (by omega)) HF4.out.ok hp)
  have HFa5:=aH (HF4.out.sync p)
  rw[hY5]at HC5 HG HFa5
  obtain⟨d5,e5⟩:=Y5
  dsimp only at HG HFa5
  obtain⟨y0,y1,y2,y3⟩:=HD4.out.cells
  dsimp only at y0
  clear y1 y2 y3 hY5
  go_wp2_with fail
  refine HC5.out.mono ?_
  rintro e w5 hr5
  obtain⟨rfl,M5,h5,hw5,hm5⟩:=bF.sto HD4.out hr5
  have HD5:Hid (eU B { X with M:=M5 } { s with d:=d5 } w5):=aH h5
  have HW5:Hid (aO (X.foot s) w (({ X with M:=M5 }:SM).foot { s with d:=d5 }) w5):=aH (HW4.out.trans hw5)
  have HM5:Hid (M5.d=X.M.d):=aH (hm5.trans HM4.out)
  have HF5:=HFa5
  have HO5:=aH (mF HW5.out HX.out HA.out)
  clear hr5 h5 hw5 hm5 HC5 HFa5 y0 HD4 HW4 HF4 HO4
  dsimp only
  by_cases h0:e5=0
  rotate_left
  ·have h0b:(e5 != 0)=true:=by simpa using h0
   rw[if_pos h0]at HG
   go_wp2
   go_ret2
   exact⟨by rw[HG.out]<;>rfl,M5,by rw[HG.out];exact HD5.out,by rw[HG.out];exact HW5.out,HM5.out⟩
  subst h0
  rw[if_neg (by simp)]at HG
  have HC6:=aH (jD B M5 d5 w5 HD5.out.log.disk (HF5.out.sml (by omega)))
  obtain⟨y0,y1,y2,y3⟩:=HD5.out.cells
  dsimp only at y0
  clear y1 y2 y3
  go_wp2_with fail
  refine HC6.out.mono ?_
  rintro e w6 hr6
  obtain⟨rfl,M6,h6,hw6,hm6⟩:=bF.sto HD5.out hr6
  have HD6:Hid (eU B { X with M:=M6 } { s with d:=d5.syncNames.1 } w6):=aH h6
  have HW6:Hid (aO (X.foot s) w (({ X with M:=M6 }:SM).foot { s with d:=d5.syncNames.1 }) w6):=aH (HW5.out.trans hw6)
  have HM6:Hid (M6.d=X.M.d):=aH (hm6.trans HM5.out)
  clear hr6 h6 hw6 hm6 HC6 y0
  go_wp2
  go_ret2
  exact⟨by rw[HG.out]<;>rfl,M6,by rw[HG.out];exact HD6.out,by rw[HG.out];exact HW6.out,HM6.out⟩
theorem oK (no:Nat):(S.path no).size≤1099511627776:=by
 unfold S.path
 split
 ·show 7≤_;decide
 ·show 0≤_;decide
theorem aFQ (B:Nat) (X:SM) (s:S.Sto) (no m:Nat) (w:World) (h:eU B X s w) (hf:D.Fit m s.d) (hm:m≤134217000) (hn:no < s.used.length) (hn4:no < 4096) :
  Calls Tryz.prog 70 #[.pointer (some ⟨X.st,0,none⟩),.int .i64 no] w (yN B X s w (s.free no) (.tuple #[])):=by
 have HD:=aH h
 have HF:=aH hf
 have HP:=aH (fun u=>zL no u hn4)
 have hps:=oK no
 obtain⟨nm,hnm⟩:∃ nm,nm=S.path no:=⟨_,rfl⟩
 have HNM:=aH hnm
 rw[← hnm]at HP hps
 have HRM:=aH (fun (u:World) (hb:Below w.heap.size w u)=>kP B X.M s.d nm u (h.below hb).log.disk (hf.sml (by omega)) hps)
 clear h hf hnm
 have hS0:Below w.heap.size w w.drew:=(zB _ _).drew
 go_enter Tryz.func70,Tryz.ntmps70
 go_upto_region 0 with fail
 refine wp_region_noPanic ?_
 refine HT.begin (n:=6) (S:=(fun u=>Below w.heap.size w u)) (by kernel_rfl) hS0 ?_
 generalize w.drew=wd at *
 refine HT.take 0 (.pointer (some ⟨X.st,0,none⟩)) rfl (by kernel_rfl) (fun _ _ _ h=>h) (Or.inl ⟨by rfl,?_⟩) ?_
 ·intro u hu
  go_simp
 refine HT.take 1 (.pointer (some ⟨X.st,0,none⟩)) rfl (by kernel_rfl) (fun _ _ _ h=>h) (Or.inl ⟨by rfl,?_⟩) ?_
 ·intro u hu
  go_simp
 refine HT.take 2 (.pointer (some ⟨X.st,0,none⟩)) rfl (by kernel_rfl) (fun _ _ _ h=>h) (Or.inl ⟨by rfl,?_⟩) ?_
 ·intro u hu
  go_simp
 refine HT.take 3 (.pointer (some ⟨X.M.d,0,none⟩)) rfl (by kernel_rfl) (fun _ _ _ h=>h) (Or.inl ⟨by rfl,?_⟩) ?_
 ·intro u hu
  obtain⟨y0,y1,y2,y3⟩:=(HD.out.below hu).cells
  go_simp
 refine HT.take 4 (.int .i64 no) rfl (by kernel_rfl) (fun _ _ _ h=>h) (Or.inl ⟨by rfl,?_⟩) (?_:HT _ _ _ _ _ _ _ ⟨#[.pointer (some ⟨X.st,0,none⟩),.int .i64 no,_,_,.pointer (some ⟨X.st,0,none⟩),.pointer (some ⟨X.st,0,none⟩),.pointer (some ⟨X.st,0,none⟩),.pointer (some ⟨X.M.d,0,none⟩),.int .i64 no,_,_,_,_,_,_,_,_],[]⟩ _)
 ·intro u hu
  go_simp
 refine HT.step 5 rfl (by kernel_rfl) (fun hS K hK=>?_)
 go_simp
 refine (HP.out _).mono ?_
 rintro e w5 ⟨rfl,hb⟩
 refine hK.out _ _ (aA hS.size hS hb) ?_
 clear hK hS hb
 refine HT.tail _ rfl rfl (by kernel_rfl) (fun hS=>?_)
 have HB1:=aH hS
 clear hS hS0
 have HD1:=aH (HD.out.below HB1.out)
 go_wp2_with fail
 refine (HRM.out _ HB1.out).mono ?_
 rintro e w2 hr2
 obtain⟨rfl,M2,h2,hw2,hm2⟩:=bF.sto HD1.out hr2
 have HD2:=aH h2
 have HW2:=aH ((aO.below HB1.out (X.foot s)).trans hw2)
 have HM2:=aH hm2
 clear hr2 h2 hw2 hm2 HRM HD1 HP HB1 HD
 obtain⟨y0,y1,y2,y3⟩:=HD2.out.cells
 obtain⟨g,hU,hfr,hce,hd3,hw3⟩:=HD2.out.marked (no:=no) hn false
 have HD3:=aH hd3
 have HW3:=aH (HW2.out.trans hw3)
 dsimp only at y3 hU
 rw[hU]at y3
 have hni:(no:Int) < (s.used.length:Int):=by omega
 clear hd3 hw3 HD2 HW2 y0 y1 y2
 go_wp2
 refine NoPanic.normal ?_
 go_wp2
 go_end0
 refine⟨rfl,{ X with M:=M2 },?_,?_,rfl,HM2.out,rfl⟩
 ·unfold S.Sto.free
  rw[← HNM.out]
  exact HD3.out
 ·unfold S.Sto.free
  rw[← HNM.out]
  exact HW3.out
theorem yT (B:Nat) (X:SM) (s:S.Sto) (m:Nat) (w:World) (h:eU B X s w) (hf:D.Fit m s.d) (hm:m≤134217000) (hu:D.Up s.tab) (hl:s.tab.length≤524288) (hz:∀ p∈s.tab,p.1.size≤1048576) (_hc:s.count≤1099511627776) :
  Calls Tryz.prog 60 #[.pointer (some ⟨X.st,0,none⟩)] w (yN B X s w s.tidy (.tuple #[])):=by
 have HD:=aH h
 have HCN:=aH (fun (u:World) (hb:Below w.heap.size w u)=>count_any B X.lg X.M s.d s.count u (h.below hb).log)
 have HRE:=aH (fun (u:World) (hb:Below w.heap.size w u)=>aDP B X s u (h.below hb) hu (by omega) (fun p hp=>by have:=hz p hp;omega))
 have hrl:(S.records s.tab).length=s.tab.length:=by unfold S.records;rw[List.length_map]
 have HRW:=aH (fun (A:Option Addr) (c:Nat) (u:World) (hb:Below w.heap.size w u) (hr:Rd u A (S.records s.tab).length 4 (dH (S.records s.tab)))=>aDI B X.lg X.M s.d s.count m (S.records s.tab) A (S.records s.tab).length c u (h.below hb).log hf (by omega) rfl (by rw[hrl];exact hl) (fun r hr=>by
  unfold S.records at hr
  obtain⟨p,hp,rfl⟩:=List.mem_map.1 hr
  exact hz p hp) hr)
 have HG:Hid (s.tidy=if s.count≤2 * s.tab.length+16 then s else s.rewrite.1):=aH rfl
 have hT:∀ u,Below w.heap.size w u→u.ownsMap Tryz.prog 9 S.xW X.tb s.tab.length (S.rY s.tab):=fun u hb=>(h.below hb).tab
 have HT1:=aH hT
 have hsz:Maps.size (S.rY s.tab)=s.tab.length:=by
  unfold S.rY D.datum
  rw[Maps.size_eq]
  simp
 have HSZ:=aH hsz
 clear h hf hz hrl hT hsz
 obtain⟨nt,hnt⟩:∃ nt,nt=s.tab.length:=⟨_,rfl⟩
 have hS0:Below w.heap.size w w.drew:=(zB _ _).drew
 go_enter Tryz.func60,Tryz.ntmps60
 go_upto_region 0 with fail
 refine wp_region_noPanic ?_
 refine HT.begin (n:=9) (S:=(fun u=>Below w.heap.size w u)) (by kernel_rfl) hS0 ?_
 generalize w.drew=wd at *
 refine HT.take 0 (.pointer (some ⟨X.st,0,none⟩)) rfl (by kernel_rfl) (fun _ _ _ h=>h) (Or.inl ⟨by rfl,?_⟩) ?_
 ·intro u hu
  go_simp
 refine HT.take 1 (.pointer (some ⟨X.st,0,none⟩)) rfl (by kernel_rfl) (fun _ _ _ h=>h) (Or.inl ⟨by rfl,?_⟩) ?_
 ·intro u hu
  go_simp
 refine HT.take 2 (.pointer (some ⟨X.st,1,none⟩)) rfl (by kernel_rfl) (fun _ _ _ h=>h) (Or.inl ⟨by rfl,?_⟩) ?_
 ·intro u hu
  go_simp
 refine HT.take 3 (.pointer (some ⟨X.lg,0,none⟩)) rfl (by kernel_rfl) (fun _ _ _ h=>h) (Or.inl ⟨by rfl,?_⟩) ?_
 ·intro u hu
  obtain⟨y0,y1,y2,y3⟩:=(HD.out.below hu).cells
  go_simp
 refine HT.take 5 (.pointer (some ⟨X.st,0,none⟩)) rfl (by kernel_rfl) (fun _ _ _ h=>h) (Or.inl ⟨by rfl,?_⟩) ?_
 ·intro u hu
  go_simp
 refine HT.take 6 (.pointer (some ⟨X.st,0,none⟩)) rfl (by kernel_rfl) (fun _ _ _ h=>h) (Or.inl ⟨by rfl,?_⟩) ?_
 ·intro u hu
  go_simp
 refine HT.take 7 (.pointer (some ⟨X.st,2,none⟩)) rfl (by kernel_rfl) (fun _ _ _ h=>h) (Or.inl ⟨by rfl,?_⟩) ?_
 ·intro u hu
  go_simp
 refine HT.take 8 (.map (some X.tb)) rfl (by kernel_rfl) (fun _ _ _ h=>h) (Or.inl ⟨by rfl,?_⟩) (?_:HT _ _ _ _ _ _ _ ⟨#[.pointer (some ⟨X.st,0,none⟩),_,.pointer (some ⟨X.st,0,none⟩),.pointer (some ⟨X.st,0,none⟩),.pointer (some ⟨X.st,1,none⟩),.pointer (some ⟨X.lg,0,none⟩),_,.pointer (some ⟨X.st,0,none⟩),.pointer (some ⟨X.st,0,none⟩),.pointer (some ⟨X.st,2,none⟩),.map (some X.tb),_,_,_,_,_,_,_,_,_,_,_],[]⟩ _)
 ·intro u hu
  obtain⟨y0,y1,y2,y3⟩:=(HD.out.below hu).cells
  go_simp
 refine HT.step 4 rfl (by kernel_rfl) (fun hS K hK=>?_)
 go_simp
 refine (HCN.out _ hS).mono ?_
 rintro e w5 ⟨rfl,rfl⟩
 refine hK.out _ _ hS ?_
 clear hK hS
 refine HT.tail _ rfl rfl (by kernel_rfl) (fun hS=>?_)
 have HB1:=aH hS
 clear hS hS0
 have hlen:=aC6 (HT1.out _ HB1.out) 3
 rw[← hnt]at HG hlen
 have hnt2:nt≤524288:=by omega
 by_cases hle:s.count≤2 * nt+16
 ·rw[if_pos hle]at HG
  have hlei:(s.count:Int)≤2 * (nt:Int)+16:=by omega
  go_wp2
  refine NoPanic.normal ?_
  go_wp2
  go_end0
  exact⟨rfl,X,by rw[HG.out];exact HD.out.below HB1.out,by rw[HG.out];exact aO.below HB1.out _,rfl,rfl,rfl⟩
 rw[if_neg hle]at HG
 have hlei:¬ (s.count:Int)≤2 * (nt:Int)+16:=by omega
 go_wp2
 refine NoPanic.normal ?_
 go_upto_region 1 with fail
 have hS1:Below w.heap.size w wd.drew:=HB1.out.drew
 clear hlen HB1
 refine wp_region_noPanic ?_
 refine HT.begin (n:=6) (S:=(fun u=>Below w.heap.size w u)) (by kernel_rfl) hS1 ?_
 generalize wd.drew=we at *
 refine HT.take 0 (.pointer (some ⟨X.st,0,none⟩)) rfl (by kernel_rfl) (fun _ _ _ h=>h) (Or.inl ⟨by rfl,?_⟩) ?_
 ·intro u hu
  go_simp
 refine HT.take 1 (.pointer (some ⟨X.st,0,none⟩)) rfl (by kernel_rfl) (fun _ _ _ h=>h) (Or.inl ⟨by rfl,?_⟩) ?_
 ·intro u hu
  go_simp
 refine HT.take 2 (.pointer (some ⟨X.st,1,none⟩)) rfl (by kernel_rfl) (fun _ _ _ h=>h) (Or.inl ⟨by rfl,?_⟩) ?_
 ·intro u hu
  go_simp
 refine HT.take 3 (.pointer (some ⟨X.lg,0,none⟩)) rfl (by kernel_rfl) (fun _ _ _ h=>h) (Or.inl ⟨by rfl,?_⟩) ?_
 ·intro u hu
  obtain⟨y0,y1,y2,y3⟩:=(HD.out.below hu).cells
  go_simp
 refine HT.take 4 (.pointer (some ⟨X.st,0,none⟩)) rfl (by kernel_rfl) (fun _ _ _ h=>h) (Or.inl ⟨by rfl,?_⟩) (?_:HT _ _ _ _ _ _ _ ⟨#[.pointer (some ⟨X.st,0,none⟩),_,_,_,_,_,_,_,_,_,_,_,_,_,_,.pointer (some ⟨X.st,0,none⟩),.pointer (some ⟨X.st,0,none⟩),.pointer (some ⟨X.st,1,none⟩),.pointer (some ⟨X.lg,0,none⟩),.pointer (some ⟨X.st,0,none⟩),_,_],[]⟩ _)
 ·intro u hu
  go_simp
 refine HT.step 5 rfl (by kernel_rfl) (fun hS K hK=>?_)
 go_simp
 refine (HRE.out _ hS).mono ?_
 rintro e w5 ⟨A5,c5,rfl,hr5,hb⟩
 refine hK.out _ _ (aA hS.size hS hb) ?_
 have HR5:=aH hr5.rd
 clear hK hS hb hr5
 refine HT.tail _ rfl rfl (by kernel_rfl) (fun hS=>?_)
 have HB1:=aH hS
 clear hS hS1
 have HD1:=aH (HD.out.below HB1.out)
 go_wp2_with fail
 refine (HRW.out A5 c5 _ HB1.out HR5.out).mono ?_
 rintro e w6 ⟨rfl,M6,h6,hw6,hm6⟩
 obtain⟨h7,hw7⟩:=HD1.out.logged h6 hw6 hm6
 have HD7:=aH h7
 have HW7:=aH ((aO.below HB1.out (X.foot s)).trans hw7)
 have HM7:=aH hm6
 clear h6 hw6 hm6 h7 hw7 HRW HRE HR5 HD1
 go_wp2
 refine NoPanic.normal ?_
 go_wp2
 go_end0
 exact⟨rfl,{ X with M:=M6 },by rw[HG.out];exact HD7.out,by rw[HG.out];exact HW7.out,rfl,HM7.out,rfl⟩
def lW (E:O.Ent) (A:Option Addr) (c:Nat) (X:Option Addr) (d:Nat):Value:=.agg #[.string E.k,.string E.v,.int .i64 E.s,.string E.r,.int .i64 E.m,.slice A E.fs.length c,.slice X E.body.length d,.int .i64 E.asked,.int .i64 E.got]
def vT (w:World) (x:Option O.Ent) (e:Ending) (w':World):Prop :=
 ∃ (A:Option Addr) (c:Nat) (X:Option Addr) (d:Nat),e=.returned (.tuple #[lW (x.getD O.Ent.zero) A c X d,.bool x.isSome]) ∧
  Row w' w.heap.size 60 2 A (x.getD O.Ent.zero).fs.length c (aJ (x.getD O.Ent.zero).fs)∧Row w' w.heap.size 5 1 X (x.getD O.Ent.zero).body.length d (aB (x.getD O.Ent.zero).body)∧Below w.heap.size w w'
theorem vT.none_ {w w':World} {v:Value} (hv:v=lW O.Ent.zero none 0 none 0) (hb:Below w.heap.size w w'):vT w none (.returned (.tuple #[v,.bool false])) w' :=
 ⟨none,0,none,0,by rw[hv];rfl,Row.none_ _ _ _ _,Row.none_ _ _ _ _,hb⟩
def Tabs (w:World):Prop:=lH w∧aAQ w∧iY w
theorem Tabs.below {w w':World} (h:Tabs w) (hb:Below w.heap.size w w'):Tabs w':=⟨h.1.below hb,h.2.1.below hb,h.2.2.below hb⟩
theorem aIV (B:Nat) (X:SM) (s:S.Sto) (no m:Nat) (w:World) (h:eU B X s w) (hf:D.Fit m s.d) (hm:m≤268435456) (hn:no < 4096) (ht:Tabs w) :
  Calls Tryz.prog 100 #[.pointer (some ⟨X.st,0,none⟩),.int .i64 no] w (vT w (S.read s.d no)):=by
 have HD:=aH h
 have HTB:=aH ht
 have HP:=aH (fun u=>zL no u hn)
 have HF:=aH hf
 have HS:=aH (hf.sml hm)
 have hps:=oK no
 obtain⟨G,hG⟩:∃ G,S.read s.d no=G:=⟨_,rfl⟩
 have HG:Hid (G=if (s.d.read (S.path no)).2≠0 then none else O.dec (s.d.read (S.path no)).1):=aH hG.symm
 rw[hG]
 generalize S.path no=nm at *
 have hsz:(s.d.read nm).1.length≤1073741824:=by
  have:=hf.size
  unfold D.Dsk.read D.Dsk.size at *
  split
  ·exact zF _
  ·split
   ·exact zF _
   ·split
    ·exact zF _
    ·exact this _
 have HRD:=aH (fun (u:World) (hb:Below w.heap.size w u)=>aE6 B X.M s.d nm u (h.below hb).log.disk (hf.sml hm) hf.ok hps)
 obtain⟨R,hR⟩:∃ R,s.d.read nm=R:=⟨_,rfl⟩
 rw[hR]at HRD HG hsz
 obtain⟨bs,code⟩:=R
 dsimp only at HG hsz
 have HK0:=aH (Blk.new w #[.string ⟨#[]⟩,.string ⟨#[]⟩,.int .i64 0,.string ⟨#[]⟩,.int .i64 0,.slice none 0 0,.slice none 0 0,.int .i64 0,.int .i64 0] 41)
 have HB0:=aH ((zB w.heap.size w).alloc (zA _) (.cells #[.string ⟨#[]⟩,.string ⟨#[]⟩,.int .i64 0,.string ⟨#[]⟩,.int .i64 0,.slice none 0 0,.slice none 0 0,.int .i64 0,.int .i64 0] 41))
 clear h hf ht hG hR hps
 go_enter Tryz.func100,Tryz.ntmps100
 go_upto_region 1 with fail
 obtain⟨w0,hw0⟩:∃ w0,w.alloc (.cells #[.string ⟨#[]⟩,.string ⟨#[]⟩,.int .i64 0,.string ⟨#[]⟩,.int .i64 0,.slice none 0 0,.slice none 0 0,.int .i64 0,.int .i64 0] 41)=w0:=⟨_,rfl⟩
 rw[hw0]at HK0 HB0 ⊢
 clear hw0
 have hS0:Below w.heap.size w w0.drew∧Blk w0.drew w.heap.size #[.string ⟨#[]⟩,.string ⟨#[]⟩,.int .i64 0,.string ⟨#[]⟩,.int .i64 0,.slice none 0 0,.slice none 0 0,.int .i64 0,.int .i64 0] 41:=⟨HB0.out.drew,HK0.out.drew⟩
 clear HB0 HK0
 refine wp_region_noPanic ?_
 refine HT.begin (n:=11) (S:=(fun u=>Below w.heap.size w u∧Blk u w.heap.size #[.string ⟨#[]⟩,.string ⟨#[]⟩,.int .i64 0,.string ⟨#[]⟩,.int .i64 0,.slice none 0 0,.slice none 0 0,.int .i64 0,.int .i64 0] 41)) (by kernel_rfl) hS0 ?_
 generalize w0.drew=wd at *
 refine HT.take 0 (.pointer (some ⟨X.st,0,none⟩)) rfl (by kernel_rfl) (fun _ _ _ h=>h) (Or.inl ⟨by rfl,?_⟩) ?_
 ·intro u hu
  go_simp
 refine HT.take 1 (.pointer (some ⟨X.st,0,none⟩)) rfl (by kernel_rfl) (fun _ _ _ h=>h) (Or.inl ⟨by rfl,?_⟩) ?_
 ·intro u hu
  go_simp
 refine HT.take 2 (.pointer (some ⟨X.st,0,none⟩)) rfl (by kernel_rfl) (fun _ _ _ h=>h) (Or.inl ⟨by rfl,?_⟩) ?_
 ·intro u hu
  go_simp
 refine HT.take 3 (.pointer (some ⟨X.M.d,0,none⟩)) rfl (by kernel_rfl) (fun _ _ _ h=>h) (Or.inl ⟨by rfl,?_⟩) ?_
 ·intro u hu
  obtain⟨y0,y1,y2,y3⟩:=(HD.out.below hu.1).cells
  go_simp
 refine HT.take 4 (.int .i64 no) rfl (by kernel_rfl) (fun _ _ _ h=>h) (Or.inl ⟨by rfl,?_⟩) (?_:HT _ _ _ _ _ _ _ ⟨#[.pointer (some ⟨X.st,0,none⟩),.int .i64 no,_,_,_,_,_,_,_,_,.pointer (some ⟨X.st,0,none⟩),.pointer (some ⟨X.st,0,none⟩),.pointer (some ⟨X.st,0,none⟩),.pointer (some ⟨X.M.d,0,none⟩),.int .i64 no,_,_,_,_,_,_,_,_,_,_,_,_,_,_,_],[]⟩ _)
 ·intro u hu
  go_simp
 refine HT.step 5 rfl (by kernel_rfl) (fun hS K hK=>?_)
 go_simp
 refine (HP.out _).mono ?_
 rintro e w5 ⟨rfl,hb⟩
 refine hK.out _ _ ⟨aA hS.1.size hS.1 hb,hS.2.below hb⟩ ?_
 clear hK hS hb
 refine HT.step 6 rfl (by kernel_rfl) (fun hS K hK=>?_)
 go_simp
 refine (HRD.out _ hS.1).mono ?_
 rintro e w2 ⟨A2,c2,rfl,hr2,hb⟩
 dsimp only at hr2 ⊢
 refine hK.out _ _ ⟨aA hS.1.size hS.1 hb,hS.2.below hb⟩ ?_
 have HR2:=aH hr2.rd
 have hc2:=hr2.cap.1
 clear hK hS hb hr2
 refine HT.take 7 (.tuple #[.slice A2 bs.length c2,.int .i64 code]) rfl (by kernel_rfl) (fun _ _ _ h=>h) (Or.inl ⟨by rfl,?_⟩) ?_
 ·intro u hu
  go_simp
 refine HT.take 8 (.slice A2 bs.length c2) rfl (by kernel_rfl) (fun _ _ _ h=>h) (Or.inl ⟨by rfl,?_⟩) ?_
 ·intro u hu
  go_simp
 refine HT.take 9 (.int .i64 code) rfl (by kernel_rfl) (fun _ _ _ h=>h) (Or.inl ⟨by rfl,?_⟩) ?_
 ·intro u hu
  go_simp
 refine HT.take 10 (.slice A2 bs.length c2) rfl (by kernel_rfl) (fun _ _ _ h=>h) (Or.inl ⟨by rfl,?_⟩) (?_:HT _ _ _ _ _ _ _ ⟨#[.pointer (some ⟨X.st,0,none⟩),.int .i64 no,_,_,_,_,.slice A2 bs.length c2,_,_,.tuple #[.slice A2 bs.length c2,.int .i64 code],.pointer (some ⟨X.st,0,none⟩),.pointer (some ⟨X.st,0,none⟩),.pointer (some ⟨X.st,0,none⟩),.pointer (some ⟨X.M.d,0,none⟩),.int .i64 no,.string nm,.tuple #[.slice A2 bs.length c2,.int .i64 code],.slice A2 bs.length c2,.int .i64 code,_,_,_,_,_,_,_,_,_,_,_],[]⟩ _)
 ·intro u hu
  go_simp
 refine HT.tail _ rfl rfl (by kernel_rfl) (fun hS=>?_)
 have HB2:=aH hS.1
 have HK2:=aH hS.2
 clear hS hS0 HRD
 by_cases hcd:code=0
 rotate_left
 ·have hcb:(code != 0)=true:=by simpa using hcd
  rw[if_pos hcd]at HG
  obtain⟨a0,a1,a2,a3,a4,a5,a6,a7,a8⟩:=HK2.out.cells9
  obtain⟨g0,g1,g2,g3,g4,g5,g6,g7,g8⟩:=HK2.out.free9
  go_wp2
  refine NoPanic.normal ?_
  go_wp2
  obtain⟨z0,z1,z2,z3,z4,z5,z6,z7,z8⟩:=(HK2.out.set9 (.string ⟨#[]⟩) (.string ⟨#[]⟩) (.int .i64 0) (.string ⟨#[]⟩) (.int .i64 0) (.slice none 0 0) (.slice none 0 0) (.int .i64 0) (.int .i64 0)).cells9
  unfold nine at z0 z1 z2 z3 z4 z5 z6 z7 z8
  refine bK (v:=.tuple #[.agg #[.string ⟨#[]⟩,.string ⟨#[]⟩,.int .i64 0,.string ⟨#[]⟩,.int .i64 0,.slice none 0 0,.slice none 0 0,.int .i64 0,.int .i64 0],.bool false]) (by simp [results,Tryz.results100,go_sem,z0,z1,z2,z3,z4,z5,z6,z7,z8]) rfl ?_
  rw[HG.out]
  exact vT.none_ rfl (aN HB2.out (zA _) _ _ _ _ _ _ _ _ _)
 subst hcd
 rw[if_neg (by simp)]at HG
 have HDE:=aH (aDX A2 c2 bs w2 hsz hc2 HR2.out (HTB.out.below HB2.out).1 (HTB.out.below HB2.out).2.1 (HTB.out.below HB2.out).2.2)
 go_wp2
 refine NoPanic.normal ?_
 go_wp2_with fail
 refine HDE.out.mono ?_
 rintro e w3 (⟨E,A3,c3,X3,d3,hd,rfl,hr3,hx3,hb3⟩ | ⟨hd,rfl,hb3⟩)
 ·have HG3:=aH (HG.out.trans hd)
  have HB4:=aH ((aA HB2.out.size HB2.out hb3).alloc (bD HB2.out.size hb3.size) (.cells #[.string E.k,.string E.v,.int .i64 E.s,.string E.r,.int .i64 E.m,.slice A3 E.fs.length c3,.slice X3 E.body.length d3,.int .i64 E.asked,.int .i64 E.got] 41))
  have HK4:=aH ((HK2.out.below hb3).alloc (.cells #[.string E.k,.string E.v,.int .i64 E.s,.string E.r,.int .i64 E.m,.slice A3 E.fs.length c3,.slice X3 E.body.length d3,.int .i64 E.asked,.int .i64 E.got] 41))
  have HN4:=aH (Blk.new w3 #[.string E.k,.string E.v,.int .i64 E.s,.string E.r,.int .i64 E.m,.slice A3 E.fs.length c3,.slice X3 E.body.length d3,.int .i64 E.asked,.int .i64 E.got] 41)
  have HF4:=aH ((hr3.mono HB2.out.size).alloc (.cells #[.string E.k,.string E.v,.int .i64 E.s,.string E.r,.int .i64 E.m,.slice A3 E.fs.length c3,.slice X3 E.body.length d3,.int .i64 E.asked,.int .i64 E.got] 41))
  have HX4:=aH ((hx3.mono HB2.out.size).alloc (.cells #[.string E.k,.string E.v,.int .i64 E.s,.string E.r,.int .i64 E.m,.slice A3 E.fs.length c3,.slice X3 E.body.length d3,.int .i64 E.asked,.int .i64 E.got] 41))
  clear hb3 hd HDE HG HB2 HK2 HR2 hr3 hx3
  go_upto_region 5 with fail
  generalize w3.alloc (.cells #[.string E.k,.string E.v,.int .i64 E.s,.string E.r,.int .i64 E.m,.slice A3 E.fs.length c3,.slice X3 E.body.length d3,.int .i64 E.asked,.int .i64 E.got] 41)=w4 at *
  generalize w3.heap.size=b4 at *
  obtain⟨x0,x1,x2,x3,x4,x5,x6,x7,x8⟩:=HN4.out.cells9
  obtain⟨a0,a1,a2,a3,a4,a5,a6,a7,a8⟩:=HK4.out.cells9
  obtain⟨g0,g1,g2,g3,g4,g5,g6,g7,g8⟩:=HK4.out.free9
  go_wp2
  obtain⟨z0,z1,z2,z3,z4,z5,z6,z7,z8⟩:=(HK4.out.set9 (.string E.k) (.string E.v) (.int .i64 E.s) (.string E.r) (.int .i64 E.m) (.slice A3 E.fs.length c3) (.slice X3 E.body.length d3) (.int .i64 E.asked) (.int .i64 E.got)).cells9
  unfold nine at z0 z1 z2 z3 z4 z5 z6 z7 z8
  refine bK (v:=.tuple #[.agg #[.string E.k,.string E.v,.int .i64 E.s,.string E.r,.int .i64 E.m,.slice A3 E.fs.length c3,.slice X3 E.body.length d3,.int .i64 E.asked,.int .i64 E.got],.bool true]) (by simp [results,Tryz.results100,go_sem,z0,z1,z2,z3,z4,z5,z6,z7,z8]) rfl ?_
  rw[HG3.out]
  exact⟨A3,c3,X3,d3,rfl,HF4.out.farT9 HK4.out aOK _ _ _ _ _ _ _ _ _,HX4.out.farT9 HK4.out aOJ _ _ _ _ _ _ _ _ _,aN HB4.out (zA _) _ _ _ _ _ _ _ _ _⟩
 ·have HG3:=aH (HG.out.trans hd)
  have HB4:=aH ((aA HB2.out.size HB2.out hb3).alloc (bD HB2.out.size hb3.size) (.cells #[.string ⟨#[]⟩,.string ⟨#[]⟩,.int .i64 0,.string ⟨#[]⟩,.int .i64 0,.slice none 0 0,.slice none 0 0,.int .i64 0,.int .i64 0] 41))
  have HK4:=aH ((HK2.out.below hb3).alloc (.cells #[.string ⟨#[]⟩,.string ⟨#[]⟩,.int .i64 0,.string ⟨#[]⟩,.int .i64 0,.slice none 0 0,.slice none 0 0,.int .i64 0,.int .i64 0] 41))
  have HN4:=aH (Blk.new w3 #[.string ⟨#[]⟩,.string ⟨#[]⟩,.int .i64 0,.string ⟨#[]⟩,.int .i64 0,.slice none 0 0,.slice none 0 0,.int .i64 0,.int .i64 0] 41)
  clear hb3 hd HDE HG HB2 HK2 HR2
  go_upto_region 5 with fail
  generalize w3.alloc (.cells #[.string ⟨#[]⟩,.string ⟨#[]⟩,.int .i64 0,.string ⟨#[]⟩,.int .i64 0,.slice none 0 0,.slice none 0 0,.int .i64 0,.int .i64 0] 41)=w4 at *
  generalize w3.heap.size=b4 at *
  obtain⟨x0,x1,x2,x3,x4,x5,x6,x7,x8⟩:=HN4.out.cells9
  obtain⟨a0,a1,a2,a3,a4,a5,a6,a7,a8⟩:=HK4.out.cells9
  obtain⟨g0,g1,g2,g3,g4,g5,g6,g7,g8⟩:=HK4.out.free9
  go_wp2
  obtain⟨z0,z1,z2,z3,z4,z5,z6,z7,z8⟩:=(HK4.out.set9 (.string ⟨#[]⟩) (.string ⟨#[]⟩) (.int .i64 0) (.string ⟨#[]⟩) (.int .i64 0) (.slice none 0 0) (.slice none 0 0) (.int .i64 0) (.int .i64 0)).cells9
  unfold nine at z0 z1 z2 z3 z4 z5 z6 z7 z8
  refine bK (v:=.tuple #[.agg #[.string ⟨#[]⟩,.string ⟨#[]⟩,.int .i64 0,.string ⟨#[]⟩,.int .i64 0,.slice none 0 0,.slice none 0 0,.int .i64 0,.int .i64 0],.bool false]) (by simp [results,Tryz.results100,go_sem,z0,z1,z2,z3,z4,z5,z6,z7,z8]) rfl ?_
  rw[HG3.out]
  exact vT.none_ rfl (aN HB4.out (zA _) _ _ _ _ _ _ _ _ _)
theorem aL5 (B:Nat) (X:SM) (s:S.Sto) (id:ByteArray) (m:Nat) (w:World) (h:eU B X s w) (hf:D.Fit m s.d) (hm:m≤268435456) (hn:∀ p∈s.tab,p.2 < 4096) (hi:id.size≤1099511627776) (ht:Tabs w) :
  Calls Tryz.prog 65 #[.pointer (some ⟨X.st,0,none⟩),.string id] w (vT w (s.get id)):=by
 have HD:=aH h
 have HTB:=aH ht
 have HG:Hid (s.get id=match D.find s.tab id with | none=>none | some no=>S.read s.d no):=aH rfl
 have HRD:=aH (fun (no:Nat) (u:World) (hb:Below w.heap.size w u) (hno:no < 4096)=>aIV B X s no m u (h.below hb) hf hm hno (ht.below hb))
 have hno:∀ no,D.find s.tab id=some no→no < 4096:=fun no hfd=>hn _ (D.aI hfd)
 have HK0:=aH (Blk.new w #[.string ⟨#[]⟩,.string ⟨#[]⟩,.int .i64 0,.string ⟨#[]⟩,.int .i64 0,.slice none 0 0,.slice none 0 0,.int .i64 0,.int .i64 0] 41)
 have hb0:Below w.heap.size w (w.alloc (.cells #[.string ⟨#[]⟩,.string ⟨#[]⟩,.int .i64 0,.string ⟨#[]⟩,.int .i64 0,.slice none 0 0,.slice none 0 0,.int .i64 0,.int .i64 0] 41)):=(zB _ _).alloc (zA _) _
 have HB0:=aH hb0
 have hlk:=aIO (HD.out.below hb0).tab id (by simp only[maxLen];omega)
 obtain⟨y0,y1,y2,y3⟩:=(HD.out.below hb0).cells
 clear h hf ht hb0 y0 y1 y3
 go_enter Tryz.func65,Tryz.ntmps65
 go_upto_region 1 with fail
 obtain⟨w0,hw0⟩:∃ w0,w.alloc (.cells #[.string ⟨#[]⟩,.string ⟨#[]⟩,.int .i64 0,.string ⟨#[]⟩,.int .i64 0,.slice none 0 0,.slice none 0 0,.int .i64 0,.int .i64 0] 41)=w0:=⟨_,rfl⟩
 rw[hw0]at HK0 HB0 hlk y2 ⊢
 clear hw0
 cases hfd:D.find s.tab id with
 | none =>
  rw[hfd]at hlk HG
  simp only[Option.getD_none,Option.isSome_none]at hlk
  obtain⟨a0,a1,a2,a3,a4,a5,a6,a7,a8⟩:=HK0.out.cells9
  obtain⟨g0,g1,g2,g3,g4,g5,g6,g7,g8⟩:=HK0.out.free9
  go_wp2
  obtain⟨z0,z1,z2,z3,z4,z5,z6,z7,z8⟩:=(HK0.out.set9 (.string ⟨#[]⟩) (.string ⟨#[]⟩) (.int .i64 0) (.string ⟨#[]⟩) (.int .i64 0) (.slice none 0 0) (.slice none 0 0) (.int .i64 0) (.int .i64 0)).cells9
  unfold nine at z0 z1 z2 z3 z4 z5 z6 z7 z8
  refine bK (v:=.tuple #[.agg #[.string ⟨#[]⟩,.string ⟨#[]⟩,.int .i64 0,.string ⟨#[]⟩,.int .i64 0,.slice none 0 0,.slice none 0 0,.int .i64 0,.int .i64 0],.bool false]) (by simp [results,Tryz.results65,go_sem,z0,z1,z2,z3,z4,z5,z6,z7,z8]) rfl ?_
  rw[HG.out]
  exact vT.none_ rfl (aN HB0.out (zA _) _ _ _ _ _ _ _ _ _)
 | some no =>
  rw[hfd]at hlk HG
  simp only[Option.getD_some,Option.isSome_some]at hlk
  have HR0:=aH (HRD.out no w0 HB0.out (hno no hfd))
  clear hno hfd HRD
  go_wp2_with fail
  refine HR0.out.mono ?_
  rintro e w3 ⟨A3,c3,X3,d3,rfl,hr3,hx3,hb3⟩
  unfold lW
  have hrd:S.read s.d no=s.get id:=HG.out.symm
  rw[hrd]at hr3 hx3 ⊢
  obtain⟨F,hF⟩:∃ F,(s.get id).getD O.Ent.zero=F:=⟨_,rfl⟩
  obtain⟨ok,hok⟩:∃ ok,(s.get id).isSome=ok:=⟨_,rfl⟩
  have HFE:=aH hF
  have HOK:=aH hok
  rw[hF]at hr3 hx3 ⊢
  rw[hok]
  have HB3:=aH (aA HB0.out.size HB0.out hb3)
  have HK3:=aH (HK0.out.below hb3)
  have HF3:=aH (hr3.mono HB0.out.size)
  have HX3:=aH (hx3.mono HB0.out.size)
  clear hb3 hr3 hx3 HR0 HB0 HK0 hlk y2 hrd hF hok HG
  obtain⟨a0,a1,a2,a3,a4,a5,a6,a7,a8⟩:=HK3.out.cells9
  obtain⟨g0,g1,g2,g3,g4,g5,g6,g7,g8⟩:=HK3.out.free9
  go_wp2
  obtain⟨z0,z1,z2,z3,z4,z5,z6,z7,z8⟩:=(HK3.out.set9 (.string F.k) (.string F.v) (.int .i64 F.s) (.string F.r) (.int .i64 F.m) (.slice A3 F.fs.length c3) (.slice X3 F.body.length d3) (.int .i64 F.asked) (.int .i64 F.got)).cells9
  unfold nine at z0 z1 z2 z3 z4 z5 z6 z7 z8
  refine bK (v:=.tuple #[.agg #[.string F.k,.string F.v,.int .i64 F.s,.string F.r,.int .i64 F.m,.slice A3 F.fs.length c3,.slice X3 F.body.length d3,.int .i64 F.asked,.int .i64 F.got],.bool ok]) (by simp [results,Tryz.results65,go_sem,z0,z1,z2,z3,z4,z5,z6,z7,z8]) rfl ?_
  exact⟨A3,c3,X3,d3,by unfold lW;rw[HFE.out,HOK.out],by rw[HFE.out];exact HF3.out.farT9 HK3.out aOK _ _ _ _ _ _ _ _ _,by rw[HFE.out];exact HX3.out.farT9 HK3.out aOJ _ _ _ _ _ _ _ _ _,aN HB3.out (zA _) _ _ _ _ _ _ _ _ _⟩
end Go.Proofs.YthjeglnkgdpijaaGreatDoor
