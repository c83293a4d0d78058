/- The walk of head.Response. Conditions: a row of at most 2^30 bytes; the library's two tables of UTF-8 as its text lays them; internal/bytealg.MaxLen holds some number; strconv's two error variables hold errors. -/
import Derived.Test.YthjeglnkgdpijaaGreatDoorZ03
set_option maxHeartbeats 8000000
set_option maxRecDepth 100000
namespace Go.Proofs.YthjeglnkgdpijaaGreatDoor
open Go.RowKit
def eH (w:World) (r:P.RS) (e:Ending) (w':World):Prop :=
 ∃ A c,e=.returned (.tuple #[.agg #[.int .i64 r.s,.string r.r,.int .i64 r.v,.slice A r.fs.length c],.int .i64 r.n,.int .i64 r.e])∧Row w' w.heap.size 60 2 A r.fs.length c (aI r.fs)∧Below w.heap.size w w'
theorem eH.bad {w w':World} {r:P.RS} {code:Int} (hb:Below w.heap.size w w') (h:r=.bad code):eH w r (.returned (.tuple #[.agg #[.int .i64 0,.string ⟨#[]⟩,.int .i64 0,.slice none 0 0],.int .i64 0,.int .i64 code])) w':=by
 subst h
 exact⟨none,0,rfl,Row.empty _ _ _ _ _,hb⟩
theorem aFE (l:List UInt8):P.rE l=50∨P.rE l=0∨P.rE l=52:=by
 unfold P.rE
 split
 ·exact .inl rfl
 ·split
  ·exact .inr (.inl rfl)
  ·exact .inr (.inr rfl)
theorem aJT {l:List UInt8} (h:¬ l.length=3):P.lG l=false:=by
 unfold P.lG
 rw[decide_eq_false h,Bool.false_and]
theorem aBY {l:List UInt8} (h:l.length=3):P.lG l=l.all P.dig:=by
 unfold P.lG
 rw[decide_eq_true h,Bool.true_and]
theorem B_ne {l:List UInt8} (h:l≠[]):¬ (B l).toList=[]∧(B l).toList.isEmpty=false:=by
 have e:(B l).toList=l:=by rw[fD];exact L_B l
 rw[e]
 exact⟨h,by simpa using h⟩
theorem yV (A:Option Addr) (n c:Nat) (bs:List UInt8) (w:World) (hnm:n≤1073741824) (hnc:n≤c) (hA:A=none→n=0∧c=0) (hpl:∀ a,A=some a→a.spot=none∨c=0) (hx:Rd w A n 1 (aB bs)) (ht:kP w) (he:zY w) :
  Calls Tryz.prog 172 #[.slice A n c] w (eH w (P.response bs)):=by
 have hll:=dQ hx
 have HT:=aH (fun (u:World) (hu:Below w.heap.size w u)=>ht.below hu)
 have HE:=aH (fun (u:World) (hu:Below w.heap.size w u)=>he.below hu)
 have HCT:=aH (fun (u:World) (hu:Below w.heap.size w u)=>aLY A n c 0 bs u hnm hnc (zF _) hA hpl (hx.below hu) (ht.below hu))
 have HK0:=aH (Blk.new w #[.int .i64 0,.string ⟨#[]⟩,.int .i64 0,.slice none 0 0] 38)
 have HB0:=aH ((zB w.heap.size w).alloc (zA _) (.cells #[.int .i64 0,.string ⟨#[]⟩,.int .i64 0,.slice none 0 0] 38))
 obtain⟨Q,hQ⟩:∃ Q,P.response bs=Q:=⟨_,rfl⟩
 rw[hQ]
 have HQ:Hid (Q=if P.hE bs 0≠0∨P.hN bs 0=0 then P.RS.bad (P.hE bs 0) else P.aD9 (P.oC bs 0) (P.jI bs 0) (P.hN bs 0)):=aH (by rw[← hQ];rfl)
 have HLLE:=aH (P.aER bs 0)
 have HLL:=aH hll
 clear hQ hx ht he hll hA hpl
 go_enter Tryz.func172,Tryz.ntmps172
 go_wp2_with fail
 generalize w.alloc (.cells #[.int .i64 0,.string ⟨#[]⟩,.int .i64 0,.slice none 0 0] 38)=w0 at *
 refine (HCT.out _ HB0.out).mono ?_
 rintro e w2 ⟨ln,A2,n2,c2,rfl,hb2,hcutf⟩
 have HK2:=aH (HK0.out.below hb2)
 have HB2:=aH (aA HB0.out.size HB0.out hb2)
 have HCF:=aH hcutf
 have HW2:=aH hb2
 clear hb2 HCT HK0 HB0 hcutf
 generalize P.hE bs 0=E0 at *
 generalize P.hN bs 0=N0 at *
 generalize P.oC bs 0=LN at *
 generalize P.jI bs 0=BK at *
 by_cases hbad:E0≠0∨N0=0
 ·have HBAD:Hid (Q=.bad E0):=aH (HQ.out.trans (if_pos hbad))
  by_cases hE:E0=0
  ·have hN:N0=0:=hbad.resolve_left (fun h=>h hE)
   subst hE
   subst hN
   clear hbad HQ HCF
   obtain⟨x0,x1,x2,x3⟩:=HK2.out.cells4
   obtain⟨f0,f1,f2,f3⟩:=HK2.out.free4
   go_wp2
   obtain⟨z0,z1,z2,z3⟩:=(HK2.out.set4 (.int .i64 0) (.string ⟨#[]⟩) (.int .i64 0) (.slice none 0 0)).cells4
   refine bK (v:=.tuple #[.agg #[.int .i64 0,.string ⟨#[]⟩,.int .i64 0,.slice none 0 0],.int .i64 0,.int .i64 0]) (by simp [results,Tryz.results172,go_sem,z0,z1,z2,z3]) rfl ?_
   exact eH.bad (bP HB2.out (zA _) _ _ _ _) HBAD.out
  ·have hEb:(E0 != 0)=true:=by simpa using hE
   clear hbad HQ HCF
   obtain⟨x0,x1,x2,x3⟩:=HK2.out.cells4
   obtain⟨f0,f1,f2,f3⟩:=HK2.out.free4
   go_wp2
   obtain⟨z0,z1,z2,z3⟩:=(HK2.out.set4 (.int .i64 0) (.string ⟨#[]⟩) (.int .i64 0) (.slice none 0 0)).cells4
   refine bK (v:=.tuple #[.agg #[.int .i64 0,.string ⟨#[]⟩,.int .i64 0,.slice none 0 0],.int .i64 0,.int .i64 E0]) (by simp [results,Tryz.results172,go_sem,z0,z1,z2,z3]) rfl ?_
   exact eH.bad (bP HB2.out (zA _) _ _ _ _) HBAD.out
 ·have HQ2:=aH (HQ.out.trans (if_neg hbad))
  have hE:E0=0:=by
   rcases (by omega:E0=0∨E0≠0) with h | h
   ·exact h
   ·exact absurd (.inl h) hbad
  have hN:¬ N0=0:=fun h=>hbad (.inr h)
  obtain⟨hln,hrd2,hn2c,hc2c,hn2l⟩:=HCF.out hE hN
  subst hE
  subst hln
  have hNb:(N0==0)=false:=by simpa using hN
  have HR:=aH (hrd2.below HW2.out)
  have hn2:n2≤1073741824:=by rw[HLL.out]at hn2l;omega
  have hlle:LN.length≤1073741824:=by have h1:=HLLE.out;rw[HLL.out]at h1;omega
  have m1:=P.tC LN
  have m2:=P.nD LN
  have m3:=P.tC (P.behind LN)
  have m4:=P.nD (P.behind LN)
  have hbulk:=P.kY BK.length [] BK (zA _) (by simp)
  have hbl:=dQ hrd2
  have HC1:Hid (∀ u,Below w.heap.size w u→Calls Tryz.prog 193 #[.string (B LN),.string ⟨#[32]⟩] u fun e w'=>e=.returned (.tuple #[.string (B (P.methodOf LN)),.string (B (P.behind LN)),.bool (!(P.from_ P.sp LN).isEmpty)])∧Below u.heap.size u w'):=aH (fun u hu=>aDM (B LN) 32 u (by rw[iK];omega) (HT.out u hu))
  have HC2:Hid (∀ u,Below w.heap.size w u→Calls Tryz.prog 193 #[.string (B (P.behind LN)),.string ⟨#[32]⟩] u fun e w'=>e=.returned (.tuple #[.string (B (P.methodOf (P.behind LN))),.string (B (P.behind (P.behind LN))),.bool (!(P.from_ P.sp (P.behind LN)).isEmpty)])∧Below u.heap.size u w'):=aH (fun u hu=>aDM (B (P.behind LN)) 32 u (by rw[iK];omega) (HT.out u hu))
  have HAT:Hid (∀ u,Below w.heap.size w u→Calls Tryz.prog 194 #[.string (B (P.methodOf (P.behind LN)))] u (RetA u (P.methodOf (P.behind LN)))):=aH (fun u hu=>aMQ (B (P.methodOf (P.behind LN))) u (by rw[iK];omega) (HE.out u hu))
  have HVR:Hid (∀ u,Calls Tryz.prog 195 #[.string (B (P.methodOf LN))] u fun e w'=>e=.returned (.tuple #[.int .i64 (P.aCF (P.methodOf LN)),.int .i64 (P.rE (P.methodOf LN))])∧u=w'):=aH (fun u=>aCE (B (P.methodOf LN)) u)
  have HTR:Hid (∀ u,Calls Tryz.prog 88 #[.string (B (P.methodOf (P.behind LN))),.string ⟨#[48,49,50,51,52,53,54,55,56,57]⟩] u (aDU u (B (Lib.trimS (P.methodOf (P.behind LN)) aMC)))):=aH (fun u=>aOZ (B (P.methodOf (P.behind LN))) u (by rw[iK];omega))
  have HTX:Hid (∀ u,Calls Tryz.prog 154 #[.string (B (P.behind (P.behind LN)))] u (pR u (F.text (B (P.behind (P.behind LN)))))):=aH (fun u=>aD4 (B (P.behind (P.behind LN))) u (by rw[iK];omega))
  have HPA:=aH (fun u (hu:Below w.heap.size w u) (hr:Rd u A2 n2 1 (aB BK))=>parse_any A2 n2 c2 BK u (by omega) hn2c hr (HT.out u hu))
  have HQ3:Hid (Q=if P.rE (P.methodOf LN)=50∨P.lG (P.methodOf (P.behind LN))=false∨F.text (B (P.behind (P.behind LN)))=false then .bad 50
   else if P.rE (P.methodOf LN)=0∧(P.stat (P.methodOf (P.behind LN)) < 100∨599 < P.stat (P.methodOf (P.behind LN))) then .bad 53
   else if P.rE (P.methodOf LN)≠0 then .bad (P.rE (P.methodOf LN))
   else if (P.parse [] BK).2≠0 then .bad (P.parse [] BK).2
   else ⟨P.stat (P.methodOf (P.behind LN)),B (P.behind (P.behind LN)),P.aCF (P.methodOf LN),(P.parse [] BK).1,N0,0⟩):=HQ2
  have hvc:=aFE (P.methodOf LN)
  have HCS:Hid ((B (P.methodOf (P.behind LN))).size=(P.methodOf (P.behind LN)).length):=aH (iK _)
  clear HQ HQ2 hbad HCF hbulk hlle HLLE hrd2 hn2l HLL HW2 m1 m2 m3 m4
  generalize B LN=l0 at *
  generalize B (P.behind LN)=l1 at *
  generalize B (P.methodOf LN)=pr at *
  generalize F.text (B (P.behind (P.behind LN)))=tx at *
  generalize B (P.behind (P.behind LN))=rs at *
  generalize P.rE (P.methodOf LN)=VE at *
  generalize P.aCF (P.methodOf LN)=VN at *
  generalize (!(P.from_ P.sp LN).isEmpty)=k1 at *
  generalize (!(P.from_ P.sp (P.behind LN)).isEmpty)=k2 at *
  generalize P.methodOf (P.behind LN)=CD at *
  generalize B CD=cd at *
  go_wp2_with fail
  refine (HC1.out _ HB2.out).mono ?_
  rintro e w3 ⟨rfl,hb3⟩
  have HK3:=aH (HK2.out.below hb3)
  have HB3:=aH (aA HB2.out.size HB2.out hb3)
  have HR3:=aH (HR.out.below hb3)
  clear hb3 HC1 HK2 HB2 HR
  go_wp2_with fail
  refine (HC2.out _ HB3.out).mono ?_
  rintro e w4 ⟨rfl,hb4⟩
  have HK4:=aH (HK3.out.below hb4)
  have HB4:=aH (aA HB3.out.size HB3.out hb4)
  have HR4:=aH (HR3.out.below hb4)
  clear hb4 HC2 HK3 HB3 HR3
  go_wp2_with fail
  refine (HAT.out _ HB4.out).mono ?_
  rintro e w5 ⟨v,b,rfl,hat,hb5⟩
  have HK5:=aH (HK4.out.below hb5)
  have HB5:=aH (aA HB4.out.size HB4.out hb5)
  have HR5:=aH (HR4.out.below hb5)
  have HV:=aH hat
  clear hb5 HAT HK4 HB4 HR4 hat
  go_wp2_with fail
  refine (HVR.out _).mono ?_
  rintro e w' ⟨rfl,rfl⟩
  clear HVR
  by_cases hv50:VE=50
  ·have HBAD:Hid (Q=.bad 50):=aH (HQ3.out.trans (if_pos (.inl hv50)))
   subst hv50
   clear HQ3 HV hvc HTR HTX HPA
   obtain⟨x0,x1,x2,x3⟩:=HK5.out.cells4
   obtain⟨f0,f1,f2,f3⟩:=HK5.out.free4
   go_wp2
   obtain⟨z0,z1,z2,z3⟩:=(HK5.out.set4 (.int .i64 0) (.string ⟨#[]⟩) (.int .i64 0) (.slice none 0 0)).cells4
   refine bK (v:=.tuple #[.agg #[.int .i64 0,.string ⟨#[]⟩,.int .i64 0,.slice none 0 0],.int .i64 0,.int .i64 50]) (by simp [results,Tryz.results172,go_sem,z0,z1,z2,z3]) rfl ?_
   exact eH.bad (bP HB5.out (zA _) _ _ _ _) HBAD.out
  ·have hv50b:(VE==50)=false:=by simpa using hv50
   by_cases hl3:CD.length=3
   ·have hl3i:((cd.size:Int) != 3)=false:=by rw[HCS.out,hl3];rfl
    by_cases hnil:b=.nilIface
    ·subst hnil
     rcases tf (CD.all P.dig) with had | had
     ·-- three digits
      have hc3:P.lG CD=true:=by rw[aBY hl3];exact had
      have htr:Lib.trimS CD aMC=[]:=(aAC CD).2 had
      have hvv:v=P.stat CD:=by
       rcases HV.out with ⟨_,h⟩ | ⟨⟨t,p,h⟩,_⟩
       ·rw[aB6 hc3]at h
        injection h with h
        exact h.symm
       ·cases h
      subst hvv
      rw[htr]at HTR
      replace HTR:Hid (∀ u,Calls Tryz.prog 88 #[.string cd,.string ⟨#[48,49,50,51,52,53,54,55,56,57]⟩] u (aDU u ⟨#[]⟩)):=HTR
      clear HV had htr
      go_wp2_with fail
      refine (HTR.out _).mono ?_
      rintro e w6 ⟨rfl,hb6⟩
      have HK6:=aH (HK5.out.below hb6)
      have HB6:=aH (aA HB5.out.size HB5.out hb6)
      have HR6:=aH (HR5.out.below hb6)
      clear hb6 HTR HK5 HB5 HR5
      go_wp2_with fail
      refine (HTX.out _).mono ?_
      rintro e w7 ⟨rfl,hb7⟩
      have HK7:=aH (HK6.out.below hb7)
      have HB7:=aH (aA HB6.out.size HB6.out hb7)
      have HR7:=aH (HR6.out.below hb7)
      clear hb7 HTX HK6 HB6 HR6
      cases tx
      ·have HBAD:Hid (Q=.bad 50):=aH (HQ3.out.trans (if_pos (.inr (.inr rfl))))
       clear HQ3 HPA
       obtain⟨x0,x1,x2,x3⟩:=HK7.out.cells4
       obtain⟨f0,f1,f2,f3⟩:=HK7.out.free4
       go_wp2
       obtain⟨z0,z1,z2,z3⟩:=(HK7.out.set4 (.int .i64 0) (.string ⟨#[]⟩) (.int .i64 0) (.slice none 0 0)).cells4
       refine bK (v:=.tuple #[.agg #[.int .i64 0,.string ⟨#[]⟩,.int .i64 0,.slice none 0 0],.int .i64 0,.int .i64 50]) (by simp [results,Tryz.results172,go_sem,z0,z1,z2,z3]) rfl ?_
       exact eH.bad (bP HB7.out (zA _) _ _ _ _) HBAD.out
      ·have HQ4:=aH (HQ3.out.trans (if_neg (by
        rintro (h | h | h)
        ·exact hv50 h
        ·rw[hc3]at h;cases h
        ·cases h)))
       clear HQ3 hc3
       generalize P.stat CD=S at *
       obtain⟨x0,x1,x2,x3⟩:=HK7.out.cells4
       obtain⟨f0,f1,f2,f3⟩:=HK7.out.free4
       by_cases hve:VE=0
       ·subst hve
        by_cases hs1:S < 100
        ·have HBAD:Hid (Q=.bad 53):=aH (HQ4.out.trans (if_pos ⟨rfl,.inl hs1⟩))
         have hs1b:decide (S < 100)=true:=by simpa using hs1
         clear HQ4 HPA
         go_wp2
         obtain⟨z0,z1,z2,z3⟩:=(HK7.out.set4 (.int .i64 0) (.string ⟨#[]⟩) (.int .i64 0) (.slice none 0 0)).cells4
         refine bK (v:=.tuple #[.agg #[.int .i64 0,.string ⟨#[]⟩,.int .i64 0,.slice none 0 0],.int .i64 0,.int .i64 53]) (by simp [results,Tryz.results172,go_sem,z0,z1,z2,z3]) rfl ?_
         exact eH.bad (bP HB7.out (zA _) _ _ _ _) HBAD.out
        ·have hs1b:decide (S < 100)=false:=by simpa using hs1
         by_cases hs2:599 < S
         ·have HBAD:Hid (Q=.bad 53):=aH (HQ4.out.trans (if_pos ⟨rfl,.inr hs2⟩))
          have hs2b:decide (S > 599)=true:=by simpa using hs2
          clear HQ4 HPA
          go_wp2
          obtain⟨z0,z1,z2,z3⟩:=(HK7.out.set4 (.int .i64 0) (.string ⟨#[]⟩) (.int .i64 0) (.slice none 0 0)).cells4
          refine bK (v:=.tuple #[.agg #[.int .i64 0,.string ⟨#[]⟩,.int .i64 0,.slice none 0 0],.int .i64 0,.int .i64 53]) (by simp [results,Tryz.results172,go_sem,z0,z1,z2,z3]) rfl ?_
          exact eH.bad (bP HB7.out (zA _) _ _ _ _) HBAD.out
         ·have hs2b:decide (S > 599)=false:=by simpa using hs2
          have HQ5:=aH ((HQ4.out.trans (if_neg (by rintro⟨_,h | h⟩;exact hs1 h;exact hs2 h))).trans (if_neg (by decide)))
          have HK8:=aH (HK7.out.alloc (.cells #[.int .i64 S,.string rs,.int .i64 VN,.slice none 0 0] 38))
          have HB8:=aH (HB7.out.alloc HB7.out.size (.cells #[.int .i64 S,.string rs,.int .i64 VN,.slice none 0 0] 38))
          have HR8:=aH (HR7.out.alloc (.cells #[.int .i64 S,.string rs,.int .i64 VN,.slice none 0 0] 38))
          have HM8:=aH (Blk.new w7 #[.int .i64 S,.string rs,.int .i64 VN,.slice none 0 0] 38)
          have HNE:Hid (w7.heap.size≠w.heap.size):=aH (by have:=HK7.out.lt;omega)
          have HBZ:Hid (w.heap.size≤w7.heap.size):=aH HB7.out.size
          clear HQ4 HK7 HB7 HR7 x0 x1 x2 x3 f0 f1 f2 f3
          go_wp2_with fail
          generalize w7.heap.size=b7 at *
          generalize w7.alloc (.cells #[.int .i64 S,.string rs,.int .i64 VN,.slice none 0 0] 38)=w8 at *
          refine (HPA.out _ HB8.out HR8.out).mono ?_
          rintro e w9 ⟨A3,c3,rfl,hr9,hb9⟩
          have HK9:=aH (HK8.out.below hb9)
          have HM9:=aH (HM8.out.below hb9)
          have HB9:=aH (aA HB8.out.size HB8.out hb9)
          have HR9:=aH (hr9.mono HB8.out.size)
          clear hb9 hr9 HPA HR8 HK8 HB8 HM8
          obtain⟨FS,PE,hPP⟩:∃ FS PE,P.parse [] BK=(FS,PE):=⟨_,_,rfl⟩
          rw[hPP]at HR9
          replace HR9:Hid (Row w9 w.heap.size 60 2 A3 FS.length c3 (aI FS)):=HR9
          rw[show (P.parse [] BK).1=FS by rw[hPP],show (P.parse [] BK).2=PE by rw[hPP]]
          have HQ6:Hid (Q=if PE≠0 then .bad PE else ⟨S,rs,VN,FS,N0,0⟩):=aH (by
           have h:=HQ5.out
           rw[show (P.parse [] BK).1=FS by rw[hPP],show (P.parse [] BK).2=PE by rw[hPP]]at h
           exact h)
          clear hPP HQ5
          obtain⟨y0,y1,y2,y3⟩:=HM9.out.cells4
          obtain⟨g0,g1,g2,g3⟩:=HM9.out.free4
          have HK10:=aH (HK9.out.far 3 (.slice A3 FS.length c3) HNE.out)
          have HB10:=aH (aJ HB9.out HBZ.out 3 (.slice A3 FS.length c3))
          have HM10:=aH (HM9.out.set 3 (.slice A3 FS.length c3))
          have HR10:=aH (HR9.out.farT HM9.out (by decide) 3 (.slice A3 FS.length c3))
          by_cases hpe:PE=0
          ·subst hpe
           have HRES:=aH (HQ6.out.trans (if_neg (by decide)))
           obtain⟨x0,x1,x2,x3⟩:=HK10.out.cells4
           obtain⟨f0,f1,f2,f3⟩:=HK10.out.free4
           obtain⟨u0,u1,u2,u3⟩:=HM10.out.cells4
           clear HQ6 HK9 HB9 HM9 HR9
           go_wp2
           obtain⟨z0,z1,z2,z3⟩:=(HK10.out.set4 (.int .i64 S) (.string rs) (.int .i64 VN) (.slice A3 FS.length c3)).cells4
           refine bK (v:=.tuple #[.agg #[.int .i64 S,.string rs,.int .i64 VN,.slice A3 FS.length c3],.int .i64 N0,.int .i64 0]) (by simp [results,Tryz.results172,go_sem,z0,z1,z2,z3]) rfl ?_
           rw[HRES.out]
           exact⟨A3,c3,rfl,HR10.out.farT4 HK10.out (by decide) _ _ _ _,bP HB10.out (zA _) _ _ _ _⟩
          ·have hpeb:(PE != 0)=true:=by simpa using hpe
           have HBAD:Hid (Q=.bad PE):=aH (HQ6.out.trans (if_pos hpe))
           obtain⟨x0,x1,x2,x3⟩:=HK10.out.cells4
           obtain⟨f0,f1,f2,f3⟩:=HK10.out.free4
           clear HQ6 HK9 HB9 HR9 HM9
           go_wp2
           obtain⟨z0,z1,z2,z3⟩:=(HK10.out.set4 (.int .i64 0) (.string ⟨#[]⟩) (.int .i64 0) (.slice none 0 0)).cells4
           refine bK (v:=.tuple #[.agg #[.int .i64 0,.string ⟨#[]⟩,.int .i64 0,.slice none 0 0],.int .i64 0,.int .i64 PE]) (by simp [results,Tryz.results172,go_sem,z0,z1,z2,z3]) rfl ?_
           exact eH.bad (bP HB10.out (zA _) _ _ _ _) HBAD.out
       ·have hv0b:(VE==0)=false:=by simpa using hve
        have hv0c:(VE != 0)=true:=by simpa using hve
        have HBAD:Hid (Q=.bad VE):=aH ((HQ4.out.trans (if_neg (fun h=>hve h.1))).trans (if_pos hve))
        clear HQ4 HPA
        go_wp2
        obtain⟨z0,z1,z2,z3⟩:=(HK7.out.set4 (.int .i64 0) (.string ⟨#[]⟩) (.int .i64 0) (.slice none 0 0)).cells4
        refine bK (v:=.tuple #[.agg #[.int .i64 0,.string ⟨#[]⟩,.int .i64 0,.slice none 0 0],.int .i64 0,.int .i64 VE]) (by simp [results,Tryz.results172,go_sem,z0,z1,z2,z3]) rfl ?_
        exact eH.bad (bP HB7.out (zA _) _ _ _ _) HBAD.out
     ·-- not digits alone
      have hc3:P.lG CD=false:=by rw[aBY hl3];exact had
      have htr:Lib.trimS CD aMC≠[]:=fun h=>by rw[(aAC CD).1 h]at had;cases had
      have HBAD:Hid (Q=.bad 50):=aH (HQ3.out.trans (if_pos (.inr (.inl hc3))))
      obtain⟨hb1,hb2⟩:=B_ne htr
      generalize B (Lib.trimS CD aMC)=tm at *
      clear HQ3 HV had htr HTX HPA hc3
      go_wp2_with fail
      refine (HTR.out _).mono ?_
      rintro e w6 ⟨rfl,hb6⟩
      have HK6:=aH (HK5.out.below hb6)
      have HB6:=aH (aA HB5.out.size HB5.out hb6)
      clear hb6 HTR HK5 HB5 HR5
      obtain⟨x0,x1,x2,x3⟩:=HK6.out.cells4
      obtain⟨f0,f1,f2,f3⟩:=HK6.out.free4
      go_wp2
      obtain⟨z0,z1,z2,z3⟩:=(HK6.out.set4 (.int .i64 0) (.string ⟨#[]⟩) (.int .i64 0) (.slice none 0 0)).cells4
      refine bK (v:=.tuple #[.agg #[.int .i64 0,.string ⟨#[]⟩,.int .i64 0,.slice none 0 0],.int .i64 0,.int .i64 50]) (by simp [results,Tryz.results172,go_sem,z0,z1,z2,z3]) rfl ?_
      exact eH.bad (bP HB6.out (zA _) _ _ _ _) HBAD.out
    ·obtain⟨⟨t,p,rfl⟩,hno⟩:(∃ t p,b=.iface t (.pointer p))∧∀ u,Lib.atoiAll CD≠.ok u:=HV.out.resolve_left (fun h=>hnil h.1)
     have hc3:P.lG CD=false:=by
      rcases tf (P.lG CD) with h | h
      ·exact absurd (aB6 h) (hno _)
      ·exact h
     have HBAD:Hid (Q=.bad 50):=aH (HQ3.out.trans (if_pos (.inr (.inl hc3))))
     clear HQ3 HV hnil hno HTR HTX HPA hc3
     obtain⟨x0,x1,x2,x3⟩:=HK5.out.cells4
     obtain⟨f0,f1,f2,f3⟩:=HK5.out.free4
     go_wp2
     obtain⟨z0,z1,z2,z3⟩:=(HK5.out.set4 (.int .i64 0) (.string ⟨#[]⟩) (.int .i64 0) (.slice none 0 0)).cells4
     refine bK (v:=.tuple #[.agg #[.int .i64 0,.string ⟨#[]⟩,.int .i64 0,.slice none 0 0],.int .i64 0,.int .i64 50]) (by simp [results,Tryz.results172,go_sem,z0,z1,z2,z3]) rfl ?_
     exact eH.bad (bP HB5.out (zA _) _ _ _ _) HBAD.out
   ·have hl3i:((cd.size:Int) != 3)=true:=by rw[HCS.out];simp;omega
    have HBAD:Hid (Q=.bad 50):=aH (HQ3.out.trans (if_pos (.inr (.inl (aJT hl3)))))
    clear HQ3 HV HTR HTX HPA
    obtain⟨x0,x1,x2,x3⟩:=HK5.out.cells4
    obtain⟨f0,f1,f2,f3⟩:=HK5.out.free4
    go_wp2
    obtain⟨z0,z1,z2,z3⟩:=(HK5.out.set4 (.int .i64 0) (.string ⟨#[]⟩) (.int .i64 0) (.slice none 0 0)).cells4
    refine bK (v:=.tuple #[.agg #[.int .i64 0,.string ⟨#[]⟩,.int .i64 0,.slice none 0 0],.int .i64 0,.int .i64 50]) (by simp [results,Tryz.results172,go_sem,z0,z1,z2,z3]) rfl ?_
    exact eH.bad (bP HB5.out (zA _) _ _ _ _) HBAD.out
end Go.Proofs.YthjeglnkgdpijaaGreatDoor
