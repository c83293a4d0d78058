/- The walks of slices.Contains at names, slices.Index at numbers' marks, and of the store's lay. Conditions: what the disk's steps ask. The walks of the store's free and tidy (printed by gen/stot.py). Conditions: what the disk's steps ask; at most 2^19 entries, Ids of at most 2^20 bytes. -/
import Derived.Test.YthjeglnkgdpijaaGreatDoorZ22
import Derived.Lib.SlicesS
set_option maxHeartbeats 4000000
set_option maxRecDepth 100000
namespace Go.Proofs.YthjeglnkgdpijaaGreatDoor
open Go Go.RowKit Go.Maps
theorem hasName_any (A:Option Addr) (n c:Nat) (ns:List ByteArray) (x:ByteArray) (w:World) (hl:ns.length=n) (hn:n≤1099511627776) (hx:Rd w A n 1 (scells ns)) :
  Calls Tryz.prog 67 #[.slice A n c,.string x] w (RetP w (.bool (S.has ns x))):=by
 subst hl
 by_cases h0:ns.length=0
 ·have hns:ns=[]:=List.eq_nil_of_length_eq_zero h0
  subst hns
  exact (Tryz.slices_Contains_string_empty A c x w).mono fun e w' ⟨h1,h2⟩=>⟨h1,h2.symm⟩
 ·obtain⟨b,o,rfl,_,hc⟩:=hx.2 (by omega)
  refine (Tryz.slices_Contains_string b o ns.length c ns x w (Nat.le_refl _) (by omega) (fun j hj=>?_)).mono fun e w' ⟨h1,h2⟩=>⟨?_,h2.symm⟩
  ·refine hc j _ ?_
   unfold scells
   rw[List.getElem?_map,List.getElem?_eq_getElem hj]
   simp [List.getD,hj]
  ·rw[h1,List.take_length]
   congr 2
   rw[Bool.eq_iff_iff,Lib.containsS_iff,S.has_iff]
def S.idxF (bl:List Bool):Int:=match bl.findIdx? (fun x=>decide (x=false)) with | some k=>(k:Int) | none=>-1
theorem S.idxF_some {bl:List Bool} {k:Nat} (h:bl.findIdx? (fun x=>decide (x=false))=some k):S.idxF bl=k:=by unfold S.idxF;rw[h]
theorem S.idxF_none {bl:List Bool} (h:bl.findIdx? (fun x=>decide (x=false))=none):S.idxF bl=-1:=by unfold S.idxF;rw[h]
theorem indexB_any (A:Option Addr) (n c:Nat) (bl:List Bool) (w:World) (hn:n≤1099511627776) (hl:bl.length=n) (hx:Rd w A n 1 (S.bools bl)) :
  Calls Tryz.prog 73 #[.slice A n c,.bool false] w (RetP w (.int .i64 (S.idxF bl))):=by
 have HX:=Lib.hid hx
 have HL:=Lib.hid hl
 obtain⟨G,hG⟩:∃ G:Int,S.idxF bl=G:=⟨_,rfl⟩
 have HG:=Lib.hid hG
 rw[hG]
 clear hx hl hG
 go_enter Tryz.func73,Tryz.ntmps73
 go_wp2
 go_loopw [8] (fun i wr=>∃ k:Nat,k≤n∧i=.int .i64 k∧wr=w∧∀ j,j < k→∀ h:j < bl.length,bl[j]=true) (fun i _=>n - (intOf i).toNat)
 case atStart=>exact⟨0,Nat.zero_le _,rfl,rfl,fun j hj=>absurd hj (Nat.not_lt_zero _)⟩
 case round =>
  obtain⟨k,hk,rfl,rfl,hno⟩:=hrel
  have HNO:=Lib.hid hno
  clear hno
  by_cases hlt:k < n
  ·obtain⟨b,o,u,rfl,hb,hu,hc⟩:=HX.out.at1 hlt
   have hkl:k < bl.length:=by rw[HL.out];exact hlt
   have hu2:u=.bool (bl[k]'hkl):=by
    unfold S.bools at hu
    rw[List.getElem?_map,List.getElem?_eq_getElem hkl]at hu
    exact (Option.some.inj hu).symm
   subst hu2
   have HK:=Lib.hid (rfl:bl[k]'hkl=bl[k]'hkl)
   cases hv:bl[k]'hkl
   ·rw[hv]at hc
    have HF:Hid (bl.findIdx? (fun x=>decide (x=false))=some k):=Lib.hid (by
     rw[List.findIdx?_eq_some_iff_getElem]
     exact⟨hkl,by rw[hv];rfl,fun j hj=>by rw[HNO.out j hj (by omega)];decide⟩)
    clear hu hv
    go_wp2
    go_ret
    exact⟨by rw[← HG.out,S.idxF_some HF.out]<;>rfl,rfl⟩
   ·rw[hv]at hc
    have HV:=Lib.hid hv
    clear hu hv
    go_wp2
    go_roundw
    case rel=>exact⟨k+1,by omega,by go_num,trivial,fun j hj h=>by
     rcases Nat.lt_succ_iff_lt_or_eq.1 hj with h1 | h1
     ·exact HNO.out j h1 h
     ·subst h1;exact HV.out⟩
    case measure=>simp [intOf];omega
  ·have hkn:k=n:=by omega
   have HF:Hid (bl.findIdx? (fun x=>decide (x=false))=none):=Lib.hid (by
    rw[List.findIdx?_eq_none_iff]
    intro x hx2
    obtain⟨j,hj,rfl⟩:=List.getElem_of_mem hx2
    rw[HNO.out j (by have:=HL.out;omega) hj]
    decide)
   clear hkn HNO
   go_wp2
   go_ret
   exact⟨by rw[← HG.out,S.idxF_none HF.out]<;>rfl,rfl⟩
def RetLay (B:Nat) (X:SM) (s:S.Sto) (w:World) (x:D.Dsk × Bool × Int) (e:Ending) (w':World):Prop :=
 e=.returned (.tuple #[.bool x.2.1,.int .i64 x.2.2])∧∃ M',StAt B { X with M:=M' } { s with d:=x.1 } w'∧Went (X.foot s) w (({ X with M:=M' }:SM).foot { s with d:=x.1 }) w'∧M'.d=X.M.d
theorem RetStep.sto {B:Nat} {X:SM} {s:S.Sto} {w:World} {x:D.Dsk × Int} {e:Ending} {w':World} (h:StAt B X s w) (hr:RetStep B X.M s.d w x e w') :
  e=.returned (.int .i64 x.2)∧∃ M',StAt B { X with M:=M' } { s with d:=x.1 } w'∧Went (X.foot s) w (({ X with M:=M' }:SM).foot { s with d:=x.1 }) w'∧M'.d=X.M.d:=by
 obtain⟨he,M',hd,hs⟩:=hr
 obtain⟨h1,h2⟩:=h.step hd hs
 exact⟨he,M',h1,h2,hs.same⟩
theorem slay_any (B:Nat) (X:SM) (s:S.Sto) (m:Nat) (p:ByteArray) (A:Option Addr) (n c:Nat) (bs:List UInt8) (w:World) (h:StAt B X s w) (hf:D.Fit m s.d) (hm:m≤134217000) (hp:p.size≤1099511627776) (hl:bs.length=n) (hn:n≤1099511627776) (hx:Rd w A n 1 (bcells bs)) (hA:0 < n→∀ a,A=some a→¬ X.foot s a.block) :
  Calls Tryz.prog 74 #[.pointer (some ⟨X.st,0,none⟩),.string p,.slice A n c] w (RetLay B X s w (S.lay s.d p bs)):=by
 have HD:=Lib.hid h
 have HX:=Lib.hid hx
 have HA:=Lib.hid hA
 have HF:=Lib.hid hf
 have HLI:=Lib.hid (dlist_any B X.M s.d w h.log.disk hf.ok (by have:=hf.now;omega))
 have HHN:=Lib.hid (fun (A:Option Addr) (c:Nat) (u:World) (hr:Rd u A s.d.list.length 1 (scells s.d.list))=>hasName_any A s.d.list.length c s.d.list p u rfl (by
  have:=hf.now
  unfold D.Dsk.list
  split
  ·exact Nat.zero_le _
  ·rw[List.length_map];omega) hr)
 obtain⟨y0,y1,y2,y3⟩:=h.cells
 obtain⟨x,hxx⟩:∃ x,x=if S.has s.d.list p then s.d.remove p else (s.d,0):=⟨_,rfl⟩
 obtain⟨G,hG⟩:∃ G,S.lay s.d p bs=G:=⟨_,rfl⟩
 have HG:Hid (G=if x.2≠0 then (x.1,false,x.2) else if (x.1.create p).2≠0 then ((x.1.create p).1,false,(x.1.create p).2)
  else if ((x.1.create p).1.append p bs).2≠0 then (((x.1.create p).1.append p bs).1,true,((x.1.create p).1.append p bs).2)
  else if (((x.1.create p).1.append p bs).1.sync p).2≠0 then ((((x.1.create p).1.append p bs).1.sync p).1,true,(((x.1.create p).1.append p bs).1.sync p).2)
  else ((((x.1.create p).1.append p bs).1.sync p).1.syncNames.1,true,(((x.1.create p).1.append p bs).1.sync p).1.syncNames.2)):=Lib.hid (by rw[← hG,hxx];rfl)
 have HXX:=Lib.hid hxx
 have hfx:D.Fit (m+1) x.1:=by
  rw[hxx]
  split
  ·exact hf.remove _
  ·exact hf.mono (by omega)
 have HFX:=Lib.hid hfx
 rw[hG]
 clear h hx hA hf y1 y2 y3 hxx hG hfx
 go_enter Tryz.func74,Tryz.ntmps74
 go_wp2_with fail
 refine HLI.out.mono ?_
 rintro e w1 ⟨A1,c1,rfl,hr1,hb1⟩
 have HD1:=Lib.hid (HD.out.below hb1)
 have HB1:=Lib.hid hb1
 have HHN1:=Lib.hid (HHN.out A1 c1 w1 hr1.rd)
 clear hr1 hb1 HLI HHN HD y0
 obtain⟨y0,y1,y2,y3⟩:=HD1.out.cells
 clear y1 y2 y3
 go_wp2_with fail
 refine HHN1.out.mono ?_
 rintro e w2 ⟨rfl,rfl⟩
 clear HHN1
 go_upto_if 18 with fail
 go_cut [] (fun wx=>x.2=0∧∃ M',StAt B { X with M:=M' } { s with d:=x.1 } wx∧Went (X.foot s) w (({ X with M:=M' }:SM).foot { s with d:=x.1 }) wx∧M'.d=X.M.d)
 case first =>
  cases hh:S.has s.d.list p
  ·have HX0:Hid (x=(s.d,0)):=Lib.hid (by rw[HXX.out,hh];rfl)
   go_wp2
   go_meet
   exact⟨by rw[HX0.out],X.M,by rw[HX0.out];exact HD1.out,by rw[HX0.out];exact Went.below HB1.out _,rfl⟩
  ·have HX0:Hid (x=s.d.remove p):=Lib.hid (by rw[HXX.out,hh];rfl)
   have HRM:=Lib.hid (remove_any B X.M s.d p w1 HD1.out.log.disk (HF.out.sml (by omega)) hp)
   rw[← HX0.out]at HRM
   go_wp2_with fail
   refine HRM.out.mono ?_
   rintro e w3 hr3
   obtain⟨rfl,M3,h3,hw3,hm3⟩:=RetStep.sto HD1.out hr3
   have HD3:=Lib.hid h3
   have HW3:=Lib.hid ((Went.below HB1.out (X.foot s)).trans hw3)
   clear hr3 h3 hw3 HRM y0
   by_cases h0:x.2=0
   ·have h0b:(x.2 != 0)=false:=by rw[h0];rfl
    go_wp2
    go_meet
    exact⟨h0,M3,HD3.out,HW3.out,hm3⟩
   ·have h0b:(x.2 != 0)=true:=by simpa using h0
    rw[if_pos h0]at HG
    go_wp2
    go_ret2
    exact⟨by rw[HG.out]<;>rfl,M3,by rw[HG.out];exact HD3.out,by rw[HG.out];exact HW3.out,hm3⟩
 case rest =>
  obtain⟨hx0,M2,hd2,hw2,hm2⟩:=hcut
  have HD2:=Lib.hid hd2
  have HW2:=Lib.hid hw2
  have HM2:=Lib.hid hm2
  rw[if_neg (by rw[hx0];decide)]at HG
  obtain⟨d2,hd2e⟩:∃ d2,d2=x.1:=⟨_,rfl⟩
  rw[← hd2e]at HD2 HW2 HG HFX
  clear hd2 hw2 hm2 hx0 hd2e HXX HD1 HB1 y0
  obtain⟨w2,rfl⟩:∃ w2:World,w2=wc:=⟨_,rfl⟩
  have HF2:=HFX
  have HO2:=Lib.hid (went_off HW2.out HX.out HA.out)
  obtain⟨Y3,hY3⟩:∃ Y,d2.create p=Y:=⟨_,rfl⟩
  have HC3:=Lib.hid (create_any B M2 d2 p w2 HD2.out.log.disk (HF2.out.sml (by omega)) HF2.out.ok hp)
  have HFa3:=Lib.hid (HF2.out.create p)
  rw[hY3]at HC3 HG HFa3
  obtain⟨d3,e3⟩:=Y3
  dsimp only at HG HFa3
  obtain⟨y0,y1,y2,y3⟩:=HD2.out.cells
  dsimp only at y0
  clear y1 y2 y3 hY3
  go_wp2_with fail
  refine HC3.out.mono ?_
  rintro e w3 hr3
  obtain⟨rfl,M3,h3,hw3,hm3⟩:=RetStep.sto HD2.out hr3
  have HD3:Hid (StAt B { X with M:=M3 } { s with d:=d3 } w3):=Lib.hid h3
  have HW3:Hid (Went (X.foot s) w (({ X with M:=M3 }:SM).foot { s with d:=d3 }) w3):=Lib.hid (HW2.out.trans hw3)
  have HM3:Hid (M3.d=X.M.d):=Lib.hid (hm3.trans HM2.out)
  have HF3:=HFa3
  have HO3:=Lib.hid (went_off HW3.out HX.out HA.out)
  clear hr3 h3 hw3 hm3 HC3 HFa3 y0 HD2 HW2 HF2 HO2
  dsimp only
  by_cases h0:e3=0
  rotate_left
  ·have h0b:(e3 != 0)=true:=by simpa using h0
   rw[if_pos h0]at HG
   go_wp2
   go_ret2
   exact⟨by rw[HG.out]<;>rfl,M3,by rw[HG.out];exact HD3.out,by rw[HG.out];exact HW3.out,HM3.out⟩
  subst h0
  rw[if_neg (by simp)]at HG
  obtain⟨Y4,hY4⟩:∃ Y,d3.append p bs=Y:=⟨_,rfl⟩
  have HC4:=Lib.hid (append_any B M3 d3 p A n c bs w3 HD3.out.log.disk (HF3.out.sml (by omega)) HF3.out.ok (HF3.out.used (by omega)) (Fit.roomy HF3.out) hp hl hn (HW3.out.rd HX.out HA.out) (fun hn0 a ha hfo=>HO3.out hn0 a ha (.inl hfo)))
  have HFa4:=Lib.hid (HF3.out.append p bs)
  rw[hY4]at HC4 HG HFa4
  obtain⟨d4,e4⟩:=Y4
  dsimp only at HG HFa4
  obtain⟨y0,y1,y2,y3⟩:=HD3.out.cells
  dsimp only at y0
  clear y1 y2 y3 hY4
  go_wp2_with fail
  refine HC4.out.mono ?_
  rintro e w4 hr4
  obtain⟨rfl,M4,h4,hw4,hm4⟩:=RetStep.sto HD3.out hr4
  have HD4:Hid (StAt B { X with M:=M4 } { s with d:=d4 } w4):=Lib.hid h4
  have HW4:Hid (Went (X.foot s) w (({ X with M:=M4 }:SM).foot { s with d:=d4 }) w4):=Lib.hid (HW3.out.trans hw4)
  have HM4:Hid (M4.d=X.M.d):=Lib.hid (hm4.trans HM3.out)
  have HF4:=HFa4
  have HO4:=Lib.hid (went_off HW4.out HX.out HA.out)
  clear hr4 h4 hw4 hm4 HC4 HFa4 y0 HD3 HW3 HF3 HO3
  dsimp only
  by_cases h0:e4=0
  rotate_left
  ·have h0b:(e4 != 0)=true:=by simpa using h0
   rw[if_pos h0]at HG
   go_wp2
   go_ret2
   exact⟨by rw[HG.out]<;>rfl,M4,by rw[HG.out];exact HD4.out,by rw[HG.out];exact HW4.out,HM4.out⟩
  subst h0
  rw[if_neg (by simp)]at HG
  obtain⟨Y5,hY5⟩:∃ Y,d4.sync p=Y:=⟨_,rfl⟩
  have HC5:=Lib.hid (syncS_any B M4 d4 p w4 HD4.out.log.disk (HF4.out.sml (by omega)) HF4.out.ok hp)
  have HFa5:=Lib.hid (HF4.out.sync p)
  rw[hY5]at HC5 HG HFa5
  obtain⟨d5,e5⟩:=Y5
  dsimp only at HG HFa5
  obtain⟨y0,y1,y2,y3⟩:=HD4.out.cells
  dsimp only at y0
  clear y1 y2 y3 hY5
  go_wp2_with fail
  refine HC5.out.mono ?_
  rintro e w5 hr5
  obtain⟨rfl,M5,h5,hw5,hm5⟩:=RetStep.sto HD4.out hr5
  have HD5:Hid (StAt B { X with M:=M5 } { s with d:=d5 } w5):=Lib.hid h5
  have HW5:Hid (Went (X.foot s) w (({ X with M:=M5 }:SM).foot { s with d:=d5 }) w5):=Lib.hid (HW4.out.trans hw5)
  have HM5:Hid (M5.d=X.M.d):=Lib.hid (hm5.trans HM4.out)
  have HF5:=HFa5
  have HO5:=Lib.hid (went_off HW5.out HX.out HA.out)
  clear hr5 h5 hw5 hm5 HC5 HFa5 y0 HD4 HW4 HF4 HO4
  dsimp only
  by_cases h0:e5=0
  rotate_left
  ·have h0b:(e5 != 0)=true:=by simpa using h0
   rw[if_pos h0]at HG
   go_wp2
   go_ret2
   exact⟨by rw[HG.out]<;>rfl,M5,by rw[HG.out];exact HD5.out,by rw[HG.out];exact HW5.out,HM5.out⟩
  subst h0
  rw[if_neg (by simp)]at HG
  have HC6:=Lib.hid (syncNames_any B M5 d5 w5 HD5.out.log.disk (HF5.out.sml (by omega)))
  obtain⟨y0,y1,y2,y3⟩:=HD5.out.cells
  dsimp only at y0
  clear y1 y2 y3
  go_wp2_with fail
  refine HC6.out.mono ?_
  rintro e w6 hr6
  obtain⟨rfl,M6,h6,hw6,hm6⟩:=RetStep.sto HD5.out hr6
  have HD6:Hid (StAt B { X with M:=M6 } { s with d:=d5.syncNames.1 } w6):=Lib.hid h6
  have HW6:Hid (Went (X.foot s) w (({ X with M:=M6 }:SM).foot { s with d:=d5.syncNames.1 }) w6):=Lib.hid (HW5.out.trans hw6)
  have HM6:Hid (M6.d=X.M.d):=Lib.hid (hm6.trans HM5.out)
  clear hr6 h6 hw6 hm6 HC6 y0
  go_wp2
  go_ret2
  exact⟨by rw[HG.out]<;>rfl,M6,by rw[HG.out];exact HD6.out,by rw[HG.out];exact HW6.out,HM6.out⟩
theorem path_small (no:Nat):(S.path no).size≤1099511627776:=by
 unfold S.path
 split
 ·show 7≤_;decide
 ·show 0≤_;decide
theorem free_any (B:Nat) (X:SM) (s:S.Sto) (no m:Nat) (w:World) (h:StAt B X s w) (hf:D.Fit m s.d) (hm:m≤134217000) (hn:no < s.used.length) (hn4:no < 4096) :
  Calls Tryz.prog 70 #[.pointer (some ⟨X.st,0,none⟩),.int .i64 no] w (RetSto B X s w (s.free no) (.tuple #[])):=by
 have HD:=Lib.hid h
 have HF:=Lib.hid hf
 have HP:=Lib.hid (fun u=>path_any no u hn4)
 have hps:=path_small no
 obtain⟨nm,hnm⟩:∃ nm,nm=S.path no:=⟨_,rfl⟩
 have HNM:=Lib.hid hnm
 rw[← hnm]at HP hps
 have HRM:=Lib.hid (fun (u:World) (hb:Below w.heap.size w u)=>remove_any B X.M s.d nm u (h.below hb).log.disk (hf.sml (by omega)) hps)
 clear h hf hnm
 have hS0:Below w.heap.size w w.drew:=(Below.refl _ _).drew
 go_enter Tryz.func70,Tryz.ntmps70
 go_upto_region 0 with fail
 refine wp_region_noPanic ?_
 refine HT.begin (n:=6) (S:=(fun u=>Below w.heap.size w u)) (by kernel_rfl) hS0 ?_
 generalize w.drew=wd at *
 refine HT.take 0 (.pointer (some ⟨X.st,0,none⟩)) rfl (by kernel_rfl) (fun _ _ _ h=>h) (Or.inl ⟨by rfl,?_⟩) (?_:HT _ _ _ _ _ _ _ ⟨#[.pointer (some ⟨X.st,0,none⟩),.int .i64 no,_,_,.pointer (some ⟨X.st,0,none⟩),_,_,_,_,_,_,_,_,_,_,_,_],[]⟩ _)
 ·intro u hu
  go_simp
 refine HT.take 1 (.pointer (some ⟨X.st,0,none⟩)) rfl (by kernel_rfl) (fun _ _ _ h=>h) (Or.inl ⟨by rfl,?_⟩) (?_:HT _ _ _ _ _ _ _ ⟨#[.pointer (some ⟨X.st,0,none⟩),.int .i64 no,_,_,.pointer (some ⟨X.st,0,none⟩),.pointer (some ⟨X.st,0,none⟩),_,_,_,_,_,_,_,_,_,_,_],[]⟩ _)
 ·intro u hu
  go_simp
 refine HT.take 2 (.pointer (some ⟨X.st,0,none⟩)) rfl (by kernel_rfl) (fun _ _ _ h=>h) (Or.inl ⟨by rfl,?_⟩) (?_:HT _ _ _ _ _ _ _ ⟨#[.pointer (some ⟨X.st,0,none⟩),.int .i64 no,_,_,.pointer (some ⟨X.st,0,none⟩),.pointer (some ⟨X.st,0,none⟩),.pointer (some ⟨X.st,0,none⟩),_,_,_,_,_,_,_,_,_,_],[]⟩ _)
 ·intro u hu
  go_simp
 refine HT.take 3 (.pointer (some ⟨X.M.d,0,none⟩)) rfl (by kernel_rfl) (fun _ _ _ h=>h) (Or.inl ⟨by rfl,?_⟩) (?_:HT _ _ _ _ _ _ _ ⟨#[.pointer (some ⟨X.st,0,none⟩),.int .i64 no,_,_,.pointer (some ⟨X.st,0,none⟩),.pointer (some ⟨X.st,0,none⟩),.pointer (some ⟨X.st,0,none⟩),.pointer (some ⟨X.M.d,0,none⟩),_,_,_,_,_,_,_,_,_],[]⟩ _)
 ·intro u hu
  obtain⟨y0,y1,y2,y3⟩:=(HD.out.below hu).cells
  go_simp
 refine HT.take 4 (.int .i64 no) rfl (by kernel_rfl) (fun _ _ _ h=>h) (Or.inl ⟨by rfl,?_⟩) (?_:HT _ _ _ _ _ _ _ ⟨#[.pointer (some ⟨X.st,0,none⟩),.int .i64 no,_,_,.pointer (some ⟨X.st,0,none⟩),.pointer (some ⟨X.st,0,none⟩),.pointer (some ⟨X.st,0,none⟩),.pointer (some ⟨X.M.d,0,none⟩),.int .i64 no,_,_,_,_,_,_,_,_],[]⟩ _)
 ·intro u hu
  go_simp
 refine HT.step 5 rfl (by kernel_rfl) (fun hS K hK=>?_)
 go_simp
 refine (HP.out _).mono ?_
 rintro e w5 ⟨rfl,hb⟩
 refine hK.out _ _ (below_then hS.size hS hb) ?_
 clear hK hS hb
 refine HT.tail _ rfl rfl (by kernel_rfl) (fun hS=>?_)
 have HB1:=Lib.hid hS
 clear hS hS0
 have HD1:=Lib.hid (HD.out.below HB1.out)
 go_wp2_with fail
 refine (HRM.out _ HB1.out).mono ?_
 rintro e w2 hr2
 obtain⟨rfl,M2,h2,hw2,hm2⟩:=RetStep.sto HD1.out hr2
 have HD2:=Lib.hid h2
 have HW2:=Lib.hid ((Went.below HB1.out (X.foot s)).trans hw2)
 have HM2:=Lib.hid hm2
 clear hr2 h2 hw2 hm2 HRM HD1 HP HB1 HD
 obtain⟨y0,y1,y2,y3⟩:=HD2.out.cells
 obtain⟨g,hU,hfr,hce,hd3,hw3⟩:=HD2.out.marked (no:=no) hn false
 have HD3:=Lib.hid hd3
 have HW3:=Lib.hid (HW2.out.trans hw3)
 dsimp only at y3 hU
 rw[hU]at y3
 have hni:(no:Int) < (s.used.length:Int):=by omega
 clear hd3 hw3 HD2 HW2 y0 y1 y2
 go_wp2
 refine NoPanic.normal ?_
 go_wp2
 go_end0
 refine⟨rfl,{ X with M:=M2 },?_,?_,rfl,HM2.out,rfl⟩
 ·unfold S.Sto.free
  rw[← HNM.out]
  exact HD3.out
 ·unfold S.Sto.free
  rw[← HNM.out]
  exact HW3.out
theorem tidy_any (B:Nat) (X:SM) (s:S.Sto) (m:Nat) (w:World) (h:StAt B X s w) (hf:D.Fit m s.d) (hm:m≤134217000) (hu:D.Up s.tab) (hl:s.tab.length≤524288) (hz:∀ p∈s.tab,p.1.size≤1048576) (_hc:s.count≤1099511627776) :
  Calls Tryz.prog 60 #[.pointer (some ⟨X.st,0,none⟩)] w (RetSto B X s w s.tidy (.tuple #[])):=by
 have HD:=Lib.hid h
 have HCN:=Lib.hid (fun (u:World) (hb:Below w.heap.size w u)=>count_any B X.lg X.M s.d s.count u (h.below hb).log)
 have HRE:=Lib.hid (fun (u:World) (hb:Below w.heap.size w u)=>records_any B X s u (h.below hb) hu (by omega) (fun p hp=>by have:=hz p hp;omega))
 have hrl:(S.records s.tab).length=s.tab.length:=by unfold S.records;rw[List.length_map]
 have HRW:=Lib.hid (fun (A:Option Addr) (c:Nat) (u:World) (hb:Below w.heap.size w u) (hr:Rd u A (S.records s.tab).length 4 (rcells (S.records s.tab)))=>rewrite_any B X.lg X.M s.d s.count m (S.records s.tab) A (S.records s.tab).length c u (h.below hb).log hf (by omega) rfl (by rw[hrl];exact hl) (fun r hr=>by
  unfold S.records at hr
  obtain⟨p,hp,rfl⟩:=List.mem_map.1 hr
  exact hz p hp) hr)
 have HG:Hid (s.tidy=if s.count≤2 * s.tab.length+16 then s else s.rewrite.1):=Lib.hid rfl
 have hT:∀ u,Below w.heap.size w u→u.ownsMap Tryz.prog 9 S.intR X.tb s.tab.length (S.datT s.tab):=fun u hb=>(h.below hb).tab
 have HT1:=Lib.hid hT
 have hsz:Maps.size (S.datT s.tab)=s.tab.length:=by
  unfold S.datT D.datum
  rw[Maps.size_eq]
  simp
 have HSZ:=Lib.hid hsz
 clear h hf hz hrl hT hsz
 obtain⟨nt,hnt⟩:∃ nt,nt=s.tab.length:=⟨_,rfl⟩
 have hS0:Below w.heap.size w w.drew:=(Below.refl _ _).drew
 go_enter Tryz.func60,Tryz.ntmps60
 go_upto_region 0 with fail
 refine wp_region_noPanic ?_
 refine HT.begin (n:=9) (S:=(fun u=>Below w.heap.size w u)) (by kernel_rfl) hS0 ?_
 generalize w.drew=wd at *
 refine HT.take 0 (.pointer (some ⟨X.st,0,none⟩)) rfl (by kernel_rfl) (fun _ _ _ h=>h) (Or.inl ⟨by rfl,?_⟩) (?_:HT _ _ _ _ _ _ _ ⟨#[.pointer (some ⟨X.st,0,none⟩),_,.pointer (some ⟨X.st,0,none⟩),_,_,_,_,_,_,_,_,_,_,_,_,_,_,_,_,_,_,_],[]⟩ _)
 ·intro u hu
  go_simp
 refine HT.take 1 (.pointer (some ⟨X.st,0,none⟩)) rfl (by kernel_rfl) (fun _ _ _ h=>h) (Or.inl ⟨by rfl,?_⟩) (?_:HT _ _ _ _ _ _ _ ⟨#[.pointer (some ⟨X.st,0,none⟩),_,.pointer (some ⟨X.st,0,none⟩),.pointer (some ⟨X.st,0,none⟩),_,_,_,_,_,_,_,_,_,_,_,_,_,_,_,_,_,_],[]⟩ _)
 ·intro u hu
  go_simp
 refine HT.take 2 (.pointer (some ⟨X.st,1,none⟩)) rfl (by kernel_rfl) (fun _ _ _ h=>h) (Or.inl ⟨by rfl,?_⟩) (?_:HT _ _ _ _ _ _ _ ⟨#[.pointer (some ⟨X.st,0,none⟩),_,.pointer (some ⟨X.st,0,none⟩),.pointer (some ⟨X.st,0,none⟩),.pointer (some ⟨X.st,1,none⟩),_,_,_,_,_,_,_,_,_,_,_,_,_,_,_,_,_],[]⟩ _)
 ·intro u hu
  go_simp
 refine HT.take 3 (.pointer (some ⟨X.lg,0,none⟩)) rfl (by kernel_rfl) (fun _ _ _ h=>h) (Or.inl ⟨by rfl,?_⟩) (?_:HT _ _ _ _ _ _ _ ⟨#[.pointer (some ⟨X.st,0,none⟩),_,.pointer (some ⟨X.st,0,none⟩),.pointer (some ⟨X.st,0,none⟩),.pointer (some ⟨X.st,1,none⟩),.pointer (some ⟨X.lg,0,none⟩),_,_,_,_,_,_,_,_,_,_,_,_,_,_,_,_],[]⟩ _)
 ·intro u hu
  obtain⟨y0,y1,y2,y3⟩:=(HD.out.below hu).cells
  go_simp
 refine HT.take 5 (.pointer (some ⟨X.st,0,none⟩)) rfl (by kernel_rfl) (fun _ _ _ h=>h) (Or.inl ⟨by rfl,?_⟩) (?_:HT _ _ _ _ _ _ _ ⟨#[.pointer (some ⟨X.st,0,none⟩),_,.pointer (some ⟨X.st,0,none⟩),.pointer (some ⟨X.st,0,none⟩),.pointer (some ⟨X.st,1,none⟩),.pointer (some ⟨X.lg,0,none⟩),_,.pointer (some ⟨X.st,0,none⟩),_,_,_,_,_,_,_,_,_,_,_,_,_,_],[]⟩ _)
 ·intro u hu
  go_simp
 refine HT.take 6 (.pointer (some ⟨X.st,0,none⟩)) rfl (by kernel_rfl) (fun _ _ _ h=>h) (Or.inl ⟨by rfl,?_⟩) (?_:HT _ _ _ _ _ _ _ ⟨#[.pointer (some ⟨X.st,0,none⟩),_,.pointer (some ⟨X.st,0,none⟩),.pointer (some ⟨X.st,0,none⟩),.pointer (some ⟨X.st,1,none⟩),.pointer (some ⟨X.lg,0,none⟩),_,.pointer (some ⟨X.st,0,none⟩),.pointer (some ⟨X.st,0,none⟩),_,_,_,_,_,_,_,_,_,_,_,_,_],[]⟩ _)
 ·intro u hu
  go_simp
 refine HT.take 7 (.pointer (some ⟨X.st,2,none⟩)) rfl (by kernel_rfl) (fun _ _ _ h=>h) (Or.inl ⟨by rfl,?_⟩) (?_:HT _ _ _ _ _ _ _ ⟨#[.pointer (some ⟨X.st,0,none⟩),_,.pointer (some ⟨X.st,0,none⟩),.pointer (some ⟨X.st,0,none⟩),.pointer (some ⟨X.st,1,none⟩),.pointer (some ⟨X.lg,0,none⟩),_,.pointer (some ⟨X.st,0,none⟩),.pointer (some ⟨X.st,0,none⟩),.pointer (some ⟨X.st,2,none⟩),_,_,_,_,_,_,_,_,_,_,_,_],[]⟩ _)
 ·intro u hu
  go_simp
 refine HT.take 8 (.map (some X.tb)) rfl (by kernel_rfl) (fun _ _ _ h=>h) (Or.inl ⟨by rfl,?_⟩) (?_:HT _ _ _ _ _ _ _ ⟨#[.pointer (some ⟨X.st,0,none⟩),_,.pointer (some ⟨X.st,0,none⟩),.pointer (some ⟨X.st,0,none⟩),.pointer (some ⟨X.st,1,none⟩),.pointer (some ⟨X.lg,0,none⟩),_,.pointer (some ⟨X.st,0,none⟩),.pointer (some ⟨X.st,0,none⟩),.pointer (some ⟨X.st,2,none⟩),.map (some X.tb),_,_,_,_,_,_,_,_,_,_,_],[]⟩ _)
 ·intro u hu
  obtain⟨y0,y1,y2,y3⟩:=(HD.out.below hu).cells
  go_simp
 refine HT.step 4 rfl (by kernel_rfl) (fun hS K hK=>?_)
 go_simp
 refine (HCN.out _ hS).mono ?_
 rintro e w5 ⟨rfl,rfl⟩
 refine hK.out _ _ hS ?_
 clear hK hS
 refine HT.tail _ rfl rfl (by kernel_rfl) (fun hS=>?_)
 have HB1:=Lib.hid hS
 clear hS hS0
 have hlen:=tab_len (HT1.out _ HB1.out) 3
 rw[← hnt]at HG hlen
 have hnt2:nt≤524288:=by omega
 by_cases hle:s.count≤2 * nt+16
 ·rw[if_pos hle]at HG
  have hlei:(s.count:Int)≤2 * (nt:Int)+16:=by omega
  go_wp2
  refine NoPanic.normal ?_
  go_wp2
  go_end0
  exact⟨rfl,X,by rw[HG.out];exact HD.out.below HB1.out,by rw[HG.out];exact Went.below HB1.out _,rfl,rfl,rfl⟩
 rw[if_neg hle]at HG
 have hlei:¬ (s.count:Int)≤2 * (nt:Int)+16:=by omega
 go_wp2
 refine NoPanic.normal ?_
 go_upto_region 1 with fail
 have hS1:Below w.heap.size w wd.drew:=HB1.out.drew
 clear hlen HB1
 refine wp_region_noPanic ?_
 refine HT.begin (n:=6) (S:=(fun u=>Below w.heap.size w u)) (by kernel_rfl) hS1 ?_
 generalize wd.drew=we at *
 refine HT.take 0 (.pointer (some ⟨X.st,0,none⟩)) rfl (by kernel_rfl) (fun _ _ _ h=>h) (Or.inl ⟨by rfl,?_⟩) (?_:HT _ _ _ _ _ _ _ ⟨#[.pointer (some ⟨X.st,0,none⟩),_,_,_,_,_,_,_,_,_,_,_,_,_,_,.pointer (some ⟨X.st,0,none⟩),_,_,_,_,_,_],[]⟩ _)
 ·intro u hu
  go_simp
 refine HT.take 1 (.pointer (some ⟨X.st,0,none⟩)) rfl (by kernel_rfl) (fun _ _ _ h=>h) (Or.inl ⟨by rfl,?_⟩) (?_:HT _ _ _ _ _ _ _ ⟨#[.pointer (some ⟨X.st,0,none⟩),_,_,_,_,_,_,_,_,_,_,_,_,_,_,.pointer (some ⟨X.st,0,none⟩),.pointer (some ⟨X.st,0,none⟩),_,_,_,_,_],[]⟩ _)
 ·intro u hu
  go_simp
 refine HT.take 2 (.pointer (some ⟨X.st,1,none⟩)) rfl (by kernel_rfl) (fun _ _ _ h=>h) (Or.inl ⟨by rfl,?_⟩) (?_:HT _ _ _ _ _ _ _ ⟨#[.pointer (some ⟨X.st,0,none⟩),_,_,_,_,_,_,_,_,_,_,_,_,_,_,.pointer (some ⟨X.st,0,none⟩),.pointer (some ⟨X.st,0,none⟩),.pointer (some ⟨X.st,1,none⟩),_,_,_,_],[]⟩ _)
 ·intro u hu
  go_simp
 refine HT.take 3 (.pointer (some ⟨X.lg,0,none⟩)) rfl (by kernel_rfl) (fun _ _ _ h=>h) (Or.inl ⟨by rfl,?_⟩) (?_:HT _ _ _ _ _ _ _ ⟨#[.pointer (some ⟨X.st,0,none⟩),_,_,_,_,_,_,_,_,_,_,_,_,_,_,.pointer (some ⟨X.st,0,none⟩),.pointer (some ⟨X.st,0,none⟩),.pointer (some ⟨X.st,1,none⟩),.pointer (some ⟨X.lg,0,none⟩),_,_,_],[]⟩ _)
 ·intro u hu
  obtain⟨y0,y1,y2,y3⟩:=(HD.out.below hu).cells
  go_simp
 refine HT.take 4 (.pointer (some ⟨X.st,0,none⟩)) rfl (by kernel_rfl) (fun _ _ _ h=>h) (Or.inl ⟨by rfl,?_⟩) (?_:HT _ _ _ _ _ _ _ ⟨#[.pointer (some ⟨X.st,0,none⟩),_,_,_,_,_,_,_,_,_,_,_,_,_,_,.pointer (some ⟨X.st,0,none⟩),.pointer (some ⟨X.st,0,none⟩),.pointer (some ⟨X.st,1,none⟩),.pointer (some ⟨X.lg,0,none⟩),.pointer (some ⟨X.st,0,none⟩),_,_],[]⟩ _)
 ·intro u hu
  go_simp
 refine HT.step 5 rfl (by kernel_rfl) (fun hS K hK=>?_)
 go_simp
 refine (HRE.out _ hS).mono ?_
 rintro e w5 ⟨A5,c5,rfl,hr5,hb⟩
 refine hK.out _ _ (below_then hS.size hS hb) ?_
 have HR5:=Lib.hid hr5.rd
 clear hK hS hb hr5
 refine HT.tail _ rfl rfl (by kernel_rfl) (fun hS=>?_)
 have HB1:=Lib.hid hS
 clear hS hS1
 have HD1:=Lib.hid (HD.out.below HB1.out)
 go_wp2_with fail
 refine (HRW.out A5 c5 _ HB1.out HR5.out).mono ?_
 rintro e w6 ⟨rfl,M6,h6,hw6,hm6⟩
 obtain⟨h7,hw7⟩:=HD1.out.logged h6 hw6 hm6
 have HD7:=Lib.hid h7
 have HW7:=Lib.hid ((Went.below HB1.out (X.foot s)).trans hw7)
 have HM7:=Lib.hid hm6
 clear h6 hw6 hm6 h7 hw7 HRW HRE HR5 HD1
 go_wp2
 refine NoPanic.normal ?_
 go_wp2
 go_end0
 exact⟨rfl,{ X with M:=M6 },by rw[HG.out];exact HD7.out,by rw[HG.out];exact HW7.out,rfl,HM7.out,rfl⟩
end Go.Proofs.YthjeglnkgdpijaaGreatDoor
