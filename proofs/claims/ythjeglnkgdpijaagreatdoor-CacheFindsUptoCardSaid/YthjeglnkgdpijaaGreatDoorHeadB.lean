/- The walk of fields.Parse. Conditions: a row of at most 2^31 bytes; the library's two tables of UTF-8 as its text lays them; internal/bytealg.MaxLen holds some number. The walk of head.cut. Conditions: a row of at most 2^31 bytes; internal/bytealg.MaxLen holds some number. -/
import Derived.Test.YthjeglnkgdpijaaGreatDoorHeadA
import Derived.Lib.SlBytesConst
import Derived.Deep.DeepCutAuto
set_option maxHeartbeats 4000000
set_option maxRecDepth 100000
namespace Go.Proofs.YthjeglnkgdpijaaGreatDoor
open Go.RowKit
def ints (l:List UInt8):List Int:=l.map fun x=>(x.toNat:Int)
theorem dF (l:List UInt8):Lib.bytesOf (ints l)=l:=by
 unfold Lib.bytesOf ints
 rw[List.map_map]
 conv=>rhs;rw[← List.map_id l]
 apply List.map_congr_left
 intro x _
 show UInt8.ofNat ((x.toNat:Int)).toNat=x
 simp
theorem oQ {w:World} {A:Option Addr} {n:Nat} {l:List UInt8} (h:Rd w A n 1 (aB l)):Lib.BytesIn w A n (ints l):=fun hn=>by
 have hl:l.length=n:=by have:=h.1;simpa [aB] using this
 obtain⟨b,o,e,_,hc⟩:=h.2 hn
 refine⟨b,o,e,fun i hi=>?_⟩
 have hi':i < l.length:=by omega
 rw[hc i (.int .u8 (l[i]'hi').toNat) (by simp [aB,hi'])]
 simp [ints,List.getD,hi']
theorem kW (l:List UInt8):∀ x∈ints l,0≤x∧x < 256:=by
 intro x hx
 unfold ints at hx
 obtain⟨y,_,rfl⟩:=List.mem_map.1 hx
 have:=y.toNat_lt
 omega
theorem iF (l:List UInt8):(ints l).length=l.length:=List.length_map _
theorem eF {w:World} {A:Option Addr} {n:Nat} {l:List UInt8} (h:Rd w A n 1 (aB l)):l.length=n:=by have:=h.1;simpa [aB] using this
theorem vM (A B0:Option Addr) (n c m d:Nat) (xs ys:List UInt8) (w:World) (hnc:n≤c) (hx:Rd w A n 1 (aB xs)) (hy:Rd w B0 m 1 (aB ys)) :
  Calls Tryz.prog 190 #[.slice A n c,.slice B0 m d] w (vX w (.bool (ys.isPrefixOf xs))):=by
 refine (Tryz.bytes_HasPrefix_all A B0 n c m d (ints xs) (ints ys) w (by rw[iF];exact eF hx) (by rw[iF];exact eF hy) hnc (oQ hx) (oQ hy)).mono ?_
 rintro e w' ⟨rfl,rfl⟩
 rw[dF,dF]
 exact⟨rfl,rfl⟩
theorem Rd.newRowM (w:World) (t:TypeId) (cs:Array Value) (fr:Nat × Nat) (n size:Nat) (h:cs.size=n * size):Rd (w.alloc (.cells cs t fr)) (some ⟨w.heap.size,0,none⟩) n size cs.toList :=
 ⟨by simpa using h,fun _=>⟨w.heap.size,0,rfl,by simp,fun j u hu=>by
  rw[Nat.zero_add,cell_of_row _ w.heap.size j cs t fr (heap_alloc_new w _)]
  simpa using hu⟩⟩
theorem Rd.from_ {w:World} {b o n k:Nat} {l:List UInt8} (h:Rd w (some ⟨b,o,none⟩) n 1 (aB l)) (hk:k≤n):Rd w (some ⟨b,o+k,none⟩) (n - k) 1 (aB (l.drop k)):=by
 have hl:=eF h
 refine⟨by simp [aB,hl],fun hn=>?_⟩
 obtain⟨b',o',e,hb,hc⟩:=h.2 (by omega)
 cases e
 refine⟨b,o+k,rfl,hb,fun j u hu=>?_⟩
 rw[Nat.add_assoc]
 refine hc (k+j) u ?_
 rw[← hu]
 simp [aB]
theorem Rd.upto {w:World} {A:Option Addr} {n k:Nat} {l:List UInt8} (h:Rd w A n 1 (aB l)) (hk:k≤n):Rd w A k 1 (aB (l.take k)):=by
 have hl:=eF h
 refine⟨by simp [aB,hl];omega,fun hn=>?_⟩
 obtain⟨b,o,e,hb,hc⟩:=h.2 (by omega)
 refine⟨b,o,e,hb,fun j u hu=>hc j u ?_⟩
 rw[← hu]
 have hj:j < k:=by
  have:=(List.getElem?_eq_some_iff.1 hu).1
  simp [aB]at this
  omega
 simp [aB,hj]
def aQU (w:World) (r:List FD × Int) (e:Ending) (w':World):Prop :=
 ∃ A c,e=.returned (.tuple #[.slice A r.1.length c,.int .i64 r.2])∧Row w' w.heap.size 60 2 A r.1.length c (aJ r.1)∧Below w.heap.size w w'
theorem aQU.bad {w w':World} {r:List FD × Int} {code:Int} (hb:Below w.heap.size w w') (h:r=([],code)):aQU w r (.returned (.tuple #[.slice none 0 0,.int .i64 code])) w':=by
 subst h
 exact⟨none,0,rfl,Row.empty _ _ _ _ _,hb⟩
def lenOf:Value→Nat
 | .slice _ n _=>n
 | _=>0
theorem aP6 (l:List UInt8):aHH l=if P.from_ P.eol l=[] then (-1:Int) else ((P.upto P.eol l).length:Int):=rfl
theorem parse_any (A:Option Addr) (n c:Nat) (bs:List UInt8) (w:World) (hnm:n≤2147483648) (hnc:n≤c) (hx:Rd w A n 1 (aB bs)) (ht:lH w) :
  Calls Tryz.prog 196 #[.slice A n c] w (aQU w (P.parse [] bs)):=by
 have HT:=aH (fun (u:World) (hu:Below w.heap.size w u)=>ht.below hu)
 have HX:=aH hx
 obtain⟨R,hR⟩:∃ R,R=P.parse [] bs:=⟨_,rfl⟩
 have HR:=aH hR
 rw[← hR]
 clear hx ht hR
 go_enter Tryz.func196,Tryz.ntmps196
 go_wp2
 go_loopw [0,4] (fun bl o wr=>∃ (B1:Option Addr) (m cc:Nat) (l:List UInt8) (A1:Option Addr) (N c1:Nat) (out:List FD),bl=.slice B1 m cc∧m≤n∧m≤cc∧cc≤c∧Rd w B1 m 1 (aB l)∧o=.slice A1 N c1∧Row wr w.heap.size 60 2 A1 N c1 (aJ out)∧out.length=N∧N≤100∧R=P.parse out l∧Below w.heap.size w wr) (fun bl _ _=>lenOf bl)
 case atStart=>exact⟨A,n,c,bs,none,0,0,[],rfl,zA _,hnc,zA _,HX.out,rfl,Row.empty _ _ _ _ _,rfl,by omega,HR.out,zB _ _⟩
 case round =>
  obtain⟨wo,rfl⟩:∃ wo:World,wo=wr:=⟨_,rfl⟩
  obtain⟨B1,m,cc,l,A1,N,c1,out,rfl,hm,hmc,hcc,hrd,rfl,hrow,hlen,hN,hpar,hbel⟩:=hrel
  have HRD:=aH hrd
  have HROW:=aH hrow
  have HLEN:=aH hlen
  have HPAR:=aH hpar
  have HB:=aH hbel
  have hll:=eF hrd
  clear hrd hrow hlen hpar hbel HX HR
  by_cases hm0:m=0
  ·subst hm0
   have hl0:l=[]:=List.eq_nil_of_length_eq_zero hll
   have HRR:Hid (R=(out,0)):=aH (by rw[HPAR.out,hl0,P.parse_nil])
   clear hl0 hll
   go_wp2
   go_ret2
   rw[HRR.out]
   exact⟨A1,c1,by rw[HLEN.out];rfl,by rw[HLEN.out];exact HROW.out,HB.out⟩
  ·have hmpos:(0:Int) < (m:Int):=by omega
   have hmn:0 < m:=by omega
   have hmn0:¬ m=0:=hm0
   have HIA:=aH (aHG B1 m cc l wo hmn hmc (by omega) (HRD.out.below HB.out) (HT.out _ HB.out))
   have hl0:l≠[]:=fun e=>by rw[e]at hll;simp at hll;omega
   rw[aP6]at HIA
   obtain⟨b,o,rfl⟩:∃ b o,B1=some ⟨b,o,none⟩:=by
    obtain⟨b,o,e,_⟩:=HRD.out.2 hmn
    exact⟨b,o,e⟩
   by_cases hf0:P.from_ P.eol l=[]
   ·rw[if_pos hf0]at HIA
    have HRR:Hid (R=([],40)):=aH (by rw[HPAR.out,P.uC out hl0 (fun r h=>by rw[hf0]at h;cases h)])
    clear hf0 hll hl0
    go_wp2_with fail
    refine HIA.out.mono ?_
    rintro e w1 ⟨rfl,hb1⟩
    have HB1:=aH (aA HB.out.size HB.out hb1)
    clear hb1 HIA
    go_wp2
    go_ret2
    exact aQU.bad HB1.out HRR.out
   ·rw[if_neg hf0]at HIA
    obtain⟨u,hu⟩:∃ u,u=(P.upto P.eol l).length:=⟨_,rfl⟩
    rw[← hu]at HIA
    have hul:=P.jC P.eol l
    have hfl:0 < (P.from_ P.eol l).length:=List.length_pos_iff.2 hf0
    have hum:u < m:=by omega
    have huf:P.upto P.eol l=l.take u∧P.from_ P.eol l=l.drop u:=by
     have h:=P.sK P.eol l
     constructor
     ·conv=>rhs;rw[← h,hu]
      simp
     ·conv=>rhs;rw[← h,hu]
      simp
    rw[huf.2]at hfl
    have HN0:=aH (fun (w1:World)=>Rd.newRowM w1 5 #[.int .u8 13,.int .u8 10] (2,3) 2 1 rfl)
    have HCC:=aH (fun (w1:World)=>Lib.run_convert_bytes_const (P:=Tryz.prog) w1 39 5 #[.int .u8 13,.int .u8 10] 2 2 Tryz.underlying39 Tryz.underlying5)
    have HPF:=aH (fun (w1:World) (hb:Below w.heap.size w w1) (X0:Option Addr) (hr:Rd w1 (some ⟨b,o,none⟩) m 1 (aB l)) (hx0:Rd w1 X0 2 1 (aB [13,10]))=>vM (some ⟨b,o+u,none⟩) X0 (m - u) (cc - u) 2 2 (l.drop u) [13,10] w1 (by omega) (hr.from_ (by omega)) hx0)
    have huc:u≤cc:=by omega
    have hucn:u < cc:=by omega
    have hu0:¬ (u:Int) < 0:=by omega
    rcases tf (([13,10]:List UInt8).isPrefixOf (l.drop u)) with hp | hp
    ·obtain⟨r,hr⟩:∃ r,l.drop u=13::10::r:=by
      rw[List.isPrefixOf_iff_prefix]at hp
      obtain⟨r,hr⟩:=hp
      exact⟨r,hr.symm⟩
     have hr2:r=l.drop (u+2):=by
      have:=congrArg (List.drop 2) hr
      rw[List.drop_drop]at this
      exact this.symm
     have hu2:u+2≤m:=by
      have:=congrArg List.length hr
      rw[List.length_drop,List.length_cons,List.length_cons]at this
      omega
     have hstep:=P.oM out hl0 (huf.2.trans hr)
     rw[huf.1,← HPAR.out,hr2]at hstep
     have HSTEP:=aH hstep
     rw[hp]at HPF
     have hls:(B (l.take u)).size≤2147483648:=by rw[iZ,List.length_take];omega
     have HLN:=aH (fun (w1:World) (hb:Below w.heap.size w w1)=>aMT (B (l.take u)) w1 hls (HT.out _ hb))
     have HLL:=aH (L_B (l.take u))
     clear hp hr hr2 hstep huf hfl hul hu hf0 hls hl0
     go_wp2_with fail
     refine HIA.out.mono ?_
     rintro e w1 ⟨rfl,hb1⟩
     have HB1':=aH (aA HB.out.size HB.out hb1)
     have HROW1:=aH ((HROW.out.below hb1).alloc (.cells #[.int .u8 13,.int .u8 10] 5 (2,3)))
     have HB1:=aH (HB1'.out.alloc HB1'.out.size (.cells #[.int .u8 13,.int .u8 10] 5 (2,3)))
     have HN1:=aH (HN0.out w1)
     have HRD1:=aH (HRD.out.below HB1.out)
     have hcc:=HCC.out w1
     clear hb1 HIA HROW HB HB1' HN0 HCC
     go_wp2_with fail
     clear hcc
     generalize w1.alloc (.cells #[.int .u8 13,.int .u8 10] 5 (2,3))=w2 at *
     refine (HPF.out w2 HB1.out _ HRD1.out HN1.out).mono ?_
     rintro e w' ⟨rfl,rfl⟩
     have hcv:=pF (HRD1.out.upto (show u≤m by omega)) cc
     clear HPF HN1
     go_wp2_with fail
     clear hcv
     refine (HLN.out _ HB1.out).mono ?_
     rw[HLL.out]
     obtain⟨E,hE⟩:∃ E,P.aFB (l.take u)=E:=⟨_,rfl⟩
     obtain⟨f,hf⟩:∃ f,P.vW (l.take u)=f:=⟨_,rfl⟩
     rw[hE,hf]
     replace HSTEP:Hid (R=if E≠0 then ([],E) else if out.length=100 then ([],42) else P.parse (out++[f]) (l.drop (u+2))):=aH (by have:=HSTEP.out;rwa [hE,hf]at this)
     clear hE hf HLN HLL HPAR
     rintro e w3 ⟨rfl,hb3⟩
     have HB3':=aH (aA HB1.out.size HB1.out hb3)
     have HROW3':=aH (HROW1.out.below hb3)
     clear hb3 HB1 HRD1 HROW1
     by_cases hE0:E=0
     ·subst hE0
      rw[if_pos rfl]
      have HS2:Hid (R=if out.length=100 then ([],42) else P.parse (out++[f]) (l.drop (u+2))):=aH (HSTEP.out.trans (if_neg (by decide)))
      have HB3:=aH (HB3'.out.alloc HB3'.out.size (.cells #[.string f.1,.string f.2] 60))
      have HROW3:=aH (HROW3'.out.alloc (.cells #[.string f.1,.string f.2] 60))
      clear HSTEP HB3' HROW3'
      by_cases h100:N=100
      ·have HRR:Hid (R=([],42)):=aH (HS2.out.trans (if_pos (HLEN.out.trans h100)))
       subst h100
       go_wp2
       go_ret2
       exact aQU.bad HB3.out HRR.out
      ·have HRR:Hid (R=P.parse (out++[f]) (l.drop (u+2))):=aH (HS2.out.trans (if_neg (fun h=>h100 (HLEN.out.symm.trans h))))
       have h100b:((N:Int)==100)=false:=by simpa using (show ¬ (N:Int)=100 by omega)
       have HNEW:=aH (newF (w3.alloc (.cells #[.string f.1,.string f.2] 60)) f)
       have HROW4:=aH (HROW3.out.alloc (.cells #[.string f.1,.string f.2] 60))
       have HB4:=aH (HB3.out.alloc HB3.out.size (.cells #[.string f.1,.string f.2] 60))
       have hz4:=HB4.out.size
       rw[bJ]at HNEW
       clear HS2 HB3 HROW3
       have hu2i:(u:Int)+2≤(m:Int):=by omega
       have hu2c:(u:Int)+2≤(cc:Int):=by omega
       by_cases hcap:u+2=cc
       ·have hcapi:(u:Int)+2=(cc:Int):=by omega
        have hcapb:((cc:Int)==(u:Int)+2)=true:=by simpa using hcapi.symm
        have HCAP:=aH hcap
        clear hcap
        go_wp2_with (at_builtin;refine appF _ rfl (.tmp 38) (.tmp 40) rfl w.heap.size A1 N c1 out rfl HROW4.out _ 1 1 [f] rfl HNEW.out (by omega) hz4 ?_;intro A5 c5 w5 hr5 ha5;have HR5:=aH hr5;have HB5:=aH (HB4.out.trans (ha5.below HROW4.out hz4));clear hr5 ha5 HROW4 HB4 HNEW hz4)
        go_roundw
        case rel =>
         have hd:l.drop (u+2)=[]:=List.drop_of_length_le (by have:=eF HRD.out;have:=HCAP.out;omega)
         exact⟨some ⟨b,o,none⟩,0,0,[],A5,N+1,c5,out++[f],rfl,zF _,zA _,zF _,Rd.nil _ _ _,rfl,HR5.out,by rw[bC,HLEN.out];rfl,by omega,by rw[HRR.out,hd],HB5.out⟩
        case measure=>simp [lenOf];omega
       ·have hcapi:¬ (u:Int)+2=(cc:Int):=by omega
        have hcapi2:(u:Int)+2 < (cc:Int):=by omega
        go_wp2_with (at_builtin;refine appF _ rfl (.tmp 38) (.tmp 40) rfl w.heap.size A1 N c1 out rfl HROW4.out _ 1 1 [f] rfl HNEW.out (by omega) hz4 ?_;intro A5 c5 w5 hr5 ha5;have HR5:=aH hr5;have HB5:=aH (HB4.out.trans (ha5.below HROW4.out hz4));clear hr5 ha5 HROW4 HB4 HNEW hz4)
        go_roundw
        case rel =>
         exact⟨some ⟨b,o+(u+2),none⟩,m - (u+2),cc - (u+2),l.drop (u+2),A5,N+1,c5,out++[f],rfl,by omega,by omega,by omega,HRD.out.from_ (by omega),rfl,HR5.out,by rw[bC,HLEN.out];rfl,by omega,HRR.out,HB5.out⟩
        case measure=>simp [lenOf];omega
     ·rw[if_neg hE0]
      have HRR:Hid (R=([],E)):=aH (HSTEP.out.trans (if_pos hE0))
      have hEb:(E != 0)=true:=by simpa using hE0
      have HB3:=aH (HB3'.out.alloc HB3'.out.size (.cells #[.string ⟨#[]⟩,.string ⟨#[]⟩] 60))
      clear HSTEP HB3' HROW3'
      go_wp2
      go_ret2
      exact aQU.bad HB3.out HRR.out
    ·have HRR:Hid (R=([],40)):=aH (by
      rw[HPAR.out,P.uC out hl0]
      intro r h
      rw[huf.2.symm,h]at hp
      simp at hp)
     rw[hp]at HPF
     clear hp huf hfl hul hu hf0 hl0
     go_wp2_with fail
     refine HIA.out.mono ?_
     rintro e w1 ⟨rfl,hb1⟩
     have HB1':=aH (aA HB.out.size HB.out hb1)
     have HB1:=aH (HB1'.out.alloc HB1'.out.size (.cells #[.int .u8 13,.int .u8 10] 5 (2,3)))
     have HN1:=aH (HN0.out w1)
     have HRD1:=aH (HRD.out.below HB1.out)
     have hcc:=HCC.out w1
     clear hb1 HIA HROW HB HB1' HN0 HCC
     go_wp2_with fail
     clear hcc
     generalize w1.alloc (.cells #[.int .u8 13,.int .u8 10] 5 (2,3))=w2 at *
     refine (HPF.out w2 HB1.out _ HRD1.out HN1.out).mono ?_
     rintro e w' ⟨rfl,rfl⟩
     go_wp2
     go_ret2
     exact aQU.bad HB1.out HRR.out
namespace P
theorem lV (bs:List UInt8) (k:Nat) (h:0≤hIdx bs k):∃ i j:Nat,hIdx bs k=i∧k+i+4≤bs.length∧Lib.index (gX bs k) aFX=j∧j≤i∧(gX bs k).length=i+2:=by
 unfold hIdx at h
 rcases Lib.index_spec (bs.drop k) qZ with ⟨h1,_⟩ | ⟨i,h1,h2,h3,_⟩
 ·omega
 ·have hroom:=Lib.index_room (bs.drop k) qZ h
  have hl4:qZ.length=4:=rfl
  rw[h1,hl4,List.length_drop]at hroom
  have hi:hIdx bs k=i:=h1
  have hlen:(gX bs k).length=i+2:=by
   unfold gX
   rw[hi,List.length_take,List.length_drop]
   omega
  unfold Lib.occAt at h3
  rw[List.isPrefixOf_iff_prefix]at h3
  obtain⟨t,ht⟩:=h3
  have hd:(gX bs k).drop i=aFX:=by
   unfold gX
   rw[hi,List.drop_take,← ht]
   have:((i:Int)+2).toNat - i=2:=by omega
   rw[this]
   rfl
  rcases Lib.index_spec (gX bs k) aFX with ⟨g1,g2⟩ | ⟨j,g1,g2,g3,g4⟩
  ·have:=g2 i (by omega)
   unfold Lib.occAt at this
   rw[hd]at this
   exact absurd this (by decide)
  ·refine⟨i,j,hi,by omega,g1,?_,hlen⟩
   rcases Nat.lt_or_ge i j with hij | hij
   ·have:=g4 i hij
    unfold Lib.occAt at this
    rw[hd]at this
    exact absurd this (by decide)
   ·exact hij
end P
theorem aH2 (A B0:Option Addr) (n c m d:Nat) (xs ys:List UInt8) (w:World) (hnc:n≤c) (hn:n≤2147483648) (hm0:1 < m) (hm:m≤2147483648) (hA:A=none→n=0∧c=0) (hx:Rd w A n 1 (aB xs)) (hy:Rd w B0 m 1 (aB ys)) (ht:lH w) :
  Calls Tryz.prog 208 #[.slice A n c,.slice B0 m d] w (aQ2 w (Lib.index xs ys)):=by
 obtain⟨_,q,hq⟩:=ht
 cases A with
 | none =>
  obtain⟨rfl,rfl⟩:=hA rfl
  refine (Tryz.bytes_Index_nil B0 m d w (by omega) (fun h=>absurd h (by omega))).mono ?_
  rintro e w' ⟨rfl,rfl⟩
  rw[if_neg (by omega)]
  have hxn:xs=[]:=List.eq_nil_of_length_eq_zero (eF hx)
  have hyn:=eF hy
  subst hxn
  cases ys with
  | nil=>simp at hyn;omega
  | cons y ys=>exact⟨rfl,zB _ _⟩
 | some a =>
  obtain⟨b2,o2,rfl,_,hc2⟩:=hy.2 (by omega)
  have hcell:∀ (p:Addr) (l:List UInt8) (m:Nat),l.length=m→(∀ ad,some p=some ad→0 < m→∀ j u,(aB l)[j]?=some u→w.cell? (ad.add j)=some u)→∀ i,i < m→w.cell? (p.add i)=some (.int .u8 ((ints l).getD i 0)):=fun p l m hl h i hi=>by
   have hi':i < l.length:=by omega
   rw[h p rfl (by omega) i (.int .u8 (l[i]'hi').toNat) (by simp [aB,hi'])]
   simp [ints,List.getD,hi']
  refine (Tryz.bytes_Index_at a ⟨b2,o2,none⟩ n c m d (ints xs) (ints ys) q w (by rw[iF];exact eF hx) (by rw[iF];exact eF hy) (kW _) (kW _) (hcell a xs n (eF hx) hx.cells) (hcell _ ys m (eF hy) hy.cells) hnc (by omega) (by omega) hq).mono ?_
  rintro e w' ⟨rfl,r,rfl⟩
  rw[dF,dF]
  exact⟨rfl,below_drewN (zB _ _) r⟩
theorem aNU (A B0:Option Addr) (n c m d:Nat) (xs ys:List UInt8) (w:World) (hnc:n≤c) (hn:n≤2147483648) (hm:m≤2147483648) (hA:A=none→c=0) (hx:Rd w A n 1 (aB xs)) (hy:Rd w B0 m 1 (aB ys)) (ht:lH w) :
  Calls Tryz.prog 209 #[.slice A n c,.slice B0 m d] w fun e w'=>e=.returned (Lib.cutV A n c m (Lib.index xs ys))∧Below w.heap.size w w':=by
 obtain⟨_,q,hq⟩:=ht
 refine (Tryz.bytes_Cut_all A B0 n c m d (ints xs) (ints ys) q w (by rw[iF];exact eF hx) (by rw[iF];exact eF hy) (kW _) (kW _) (oQ hx) (oQ hy) hA hnc (by omega) (by omega) hq).mono ?_
 rintro e w' ⟨rfl,r,rfl⟩
 rw[dF,dF]
 exact⟨rfl,below_drewN (zB _ _) r⟩
def aSD (w:World) (bs:List UInt8) (k c:Nat) (e:Ending) (w':World):Prop :=
 ∃ (ln:ByteArray) (A2:Option Addr) (n2 c2:Nat),e=.returned (.tuple #[.string ln,.slice A2 n2 c2,.int .i64 (P.hN bs k),.int .i64 (P.hE bs k)])∧Below w.heap.size w w'∧(P.hE bs k=0→P.hN bs k≠0→ln=B (P.oV bs k)∧Rd w A2 n2 1 (aB (P.jT bs k))∧n2≤c2∧c2≤c∧n2≤bs.length)
theorem aM3 (A:Option Addr) (n c k:Nat) (bs:List UInt8) (w:World) (hnm:n≤1073741824) (hnc:n≤c) (hkn:k≤n) (hA:A=none→n=0∧c=0) (hpl:∀ a,A=some a→a.spot=none∨c=0) (hx:Rd w A n 1 (aB bs)) (ht:lH w) :
  Calls Tryz.prog 192 #[.slice A n c,.int .i64 k] w (aSD w bs k c):=by
 have hll:=eF hx
 have HX:=aH hx
 have HT:=aH (fun (u:World) (hu:Below w.heap.size w u)=>ht.below hu)
 have HIX:Hid (∀ A' n' c',n'≤c'→n'≤n→(A'=none→n'=0∧c'=0)→Rd w A' n' 1 (aB (bs.drop k))→Calls Tryz.prog 208 #[.slice A' n' c',.slice (some ⟨w.heap.size,0,none⟩) 4 4] (w.alloc (.cells #[.int .u8 13,.int .u8 10,.int .u8 13,.int .u8 10] 5 (4,5))) (aQ2 (w.alloc (.cells #[.int .u8 13,.int .u8 10,.int .u8 13,.int .u8 10] 5 (4,5))) (P.hIdx bs k))):=aH (fun A' n' c' h1 h2 h3 h4 =>
  aH2 A' (some ⟨w.heap.size,0,none⟩) n' c' 4 4 (bs.drop k) P.qZ _ h1 (by omega) (by omega) (by omega) h3 (h4.alloc _) (Rd.newRowM w 5 #[.int .u8 13,.int .u8 10,.int .u8 13,.int .u8 10] (4,5) 4 1 rfl) (ht.below ((zB _ _).alloc (zA _) _)))
 have hcc:=Lib.run_convert_bytes_const (P:=Tryz.prog) w 39 5 #[.int .u8 13,.int .u8 10,.int .u8 13,.int .u8 10] 4 4 Tryz.underlying39 Tryz.underlying5
 have hge:-1≤P.hIdx bs k:=Lib.index_ge _ _
 have HF:=aH (P.lV bs k)
 have hem:(bs.drop k).length=0→P.hIdx bs k < 0:=fun h=>by
  rcases (by omega:P.hIdx bs k < 0∨0≤P.hIdx bs k) with h0 | h0
  ·exact h0
  ·obtain⟨i,j,h1,h2,_⟩:=P.lV bs k h0
   rw[List.length_drop]at h
   omega
 obtain⟨ix,hix⟩:∃ ix,P.hIdx bs k=ix:=⟨_,rfl⟩
 have hNE:(P.hN bs k=if ix < 0∨8192 < k+ix+4 then 0 else k+ix+4)∧P.hE bs k=if ix < 0 then (if bs.length < 8192 then 0 else 51) else if 8192 < k+ix+4 then 51 else 0:=by
  unfold P.hN P.hE
  rw[hix]
  exact⟨rfl,rfl⟩
 have HNE:=aH hNE
 rw[hix]at HIX hge hem HF
 have HB0:=aH ((zB w.heap.size w).alloc (zA _) (.cells #[.int .u8 13,.int .u8 10,.int .u8 13,.int .u8 10] 5 (4,5)))
 have HHX:=aH hix
 clear hNE hx ht hix
 rw[List.length_drop,hll]at hem
 cases A with
 | none =>
  obtain⟨rfl,rfl⟩:=hA rfl
  obtain rfl:k=0:=by omega
  clear hA hpl
  have hlt0:ix < 0:=hem rfl
  clear hem
  go_enter Tryz.func192,Tryz.ntmps192
  go_wp2_with fail
  refine (HIX.out none 0 0 (zA _) (zA _) (fun _=>⟨rfl,rfl⟩) (by simpa using HX.out)).mono ?_
  rintro e w1 ⟨rfl,hb1⟩
  have HB1:=aH (aA HB0.out.size HB0.out hb1)
  clear hb1 HIX HB0 hcc
  have hneg:ix=-1:=by omega
  subst hneg
  by_cases hn8:bs.length < 8192
  ·have HN:Hid (P.hN bs 0=0∧P.hE bs 0=0):=aH ⟨HNE.out.1.trans (if_pos (.inl (by decide))),HNE.out.2.trans ((if_pos (by decide)).trans (if_pos hn8))⟩
   have hn8i:(0:Int) < 8192:=by omega
   go_wp2
   refine bK (v:=.tuple #[.string ⟨#[]⟩,.slice none 0 0,.int .i64 0,.int .i64 0]) (by simp [results,Tryz.results192,go_sem]) rfl ?_
   exact⟨⟨#[]⟩,none,0,0,by rw[HN.out.1,HN.out.2],HB1.out,fun _ h=>absurd HN.out.1 h⟩
  ·exact absurd (by omega) hn8
 | some a =>
  obtain⟨b,o,p⟩:=a
  clear hA
  by_cases hkc:k=c
  ·obtain rfl:k=n:=by omega
   subst hkc
   clear hpl
   have hlt0:ix < 0:=hem (Nat.sub_self _)
   clear hem
   go_enter Tryz.func192,Tryz.ntmps192
   go_wp2_with fail
   refine (HIX.out (some ⟨b,o,p⟩) 0 0 (zA _) (zF _) (fun h=>by cases h) ⟨by rw[gG,List.length_drop];omega,fun h=>absurd h (by omega)⟩).mono ?_
   rintro e w1 ⟨rfl,hb1⟩
   have HB1:=aH (aA HB0.out.size HB0.out hb1)
   clear hb1 HIX HB0 hcc
   have hneg:ix=-1:=by omega
   subst hneg
   by_cases hn8:bs.length < 8192
   ·have HN:Hid (P.hN bs k=0∧P.hE bs k=0):=aH ⟨HNE.out.1.trans (if_pos (.inl (by decide))),HNE.out.2.trans ((if_pos (by decide)).trans (if_pos hn8))⟩
    have hn8i:(k:Int) < 8192:=by omega
    go_wp2
    refine bK (v:=.tuple #[.string ⟨#[]⟩,.slice none 0 0,.int .i64 0,.int .i64 0]) (by simp [results,Tryz.results192,go_sem]) rfl ?_
    exact⟨⟨#[]⟩,none,0,0,by rw[HN.out.1,HN.out.2],HB1.out,fun _ h=>absurd HN.out.1 h⟩
   ·have HN:Hid (P.hN bs k=0∧P.hE bs k=51):=aH ⟨HNE.out.1.trans (if_pos (.inl (by decide))),HNE.out.2.trans ((if_pos (by decide)).trans (if_neg hn8))⟩
    have hn8i:¬ (k:Int) < 8192:=by omega
    go_wp2
    refine bK (v:=.tuple #[.string ⟨#[]⟩,.slice none 0 0,.int .i64 0,.int .i64 51]) (by simp [results,Tryz.results192,go_sem]) rfl ?_
    exact⟨⟨#[]⟩,none,0,0,by rw[HN.out.1,HN.out.2],HB1.out,fun _ h=>absurd HN.out.1 h⟩
  ·obtain rfl:p=none:=(hpl _ rfl).resolve_right (by omega)
   clear hpl
   have hkci:(k:Int) < (c:Int):=by omega
   have hkci2:¬ (k:Int)=(c:Int):=by omega
   have hknc:k < c:=by omega
   clear hem
   go_enter Tryz.func192,Tryz.ntmps192
   go_wp2_with fail
   refine (HIX.out (some ⟨b,o+k,none⟩) (n - k) (c - k) (by omega) (by omega) (fun h=>by cases h) (HX.out.from_ hkn)).mono ?_
   rintro e w1 ⟨rfl,hb1⟩
   have HB1:=aH (aA HB0.out.size HB0.out hb1)
   clear hb1 HIX HB0 hcc
   by_cases hpos:0≤ix
   ·skip
    obtain⟨i,j,hi,hroom,hj,hji,hlen⟩:=HF.out hpos
    subst hi
    rw[hll]at hroom
    by_cases h8:8192 < k+i+4
    ·have HN:Hid (P.hN bs k=0∧P.hE bs k=51):=aH ⟨HNE.out.1.trans (if_pos (.inr (by omega))),HNE.out.2.trans ((if_neg (by omega)).trans (if_pos (by omega)))⟩
     have h8i:(8192:Int) < (k:Int)+(i:Int)+4:=by omega
     have h0i:¬ (i:Int) < 0:=by omega
     go_wp2
     refine bK (v:=.tuple #[.string ⟨#[]⟩,.slice none 0 0,.int .i64 0,.int .i64 51]) (by simp [results,Tryz.results192,go_sem]) rfl ?_
     exact⟨⟨#[]⟩,none,0,0,by rw[HN.out.1,HN.out.2],HB1.out,fun _ h=>absurd HN.out.1 h⟩
    ·have HN:Hid (P.hN bs k=(k:Int)+(i:Int)+4∧P.hE bs k=0):=aH ⟨HNE.out.1.trans (if_neg (by omega)),HNE.out.2.trans ((if_neg (by omega)).trans (if_neg (by omega)))⟩
     have h8i:¬ (8192:Int) < (k:Int)+(i:Int)+4:=by omega
     have h0i:¬ (i:Int) < 0:=by omega
     have hroomi:(k:Int)+(i:Int)+4≤(c:Int):=by omega
     have hcc1:=Lib.run_convert_bytes_const (P:=Tryz.prog) w1 39 5 #[.int .u8 13,.int .u8 10] 2 2 Tryz.underlying39 Tryz.underlying5
     have HB2:=aH (HB1.out.alloc HB1.out.size (.cells #[.int .u8 13,.int .u8 10] 5 (2,3)))
     have hhx:=HHX.out
     have HTX:Hid (P.gX bs k=(bs.drop k).take (i+2)):=aH (by unfold P.gX;rw[hhx];congr 1)
     clear hhx
     have hrdk:=HX.out.from_ hkn
     have hrdt:=hrdk.upto (show i+2≤n - k by omega)
     rw[← HTX.out]at hrdt
     have HRT:=aH hrdt
     have HCU:=aH (aNU (some ⟨b,o+k,none⟩) (some ⟨w1.heap.size,0,none⟩) (i+2) (c - k) 2 2 (P.gX bs k) P.aFX (w1.alloc (.cells #[.int .u8 13,.int .u8 10] 5 (2,3))) (by omega) (by omega) (by omega) (fun h=>by cases h) (hrdt.below HB2.out) (Rd.newRowM w1 5 #[.int .u8 13,.int .u8 10] (2,3) 2 1 rfl) (HT.out _ HB2.out))
     rw[hj]at HCU
     have hcv:Lib.cutV (some ⟨b,o+k,none⟩) (i+2) (c - k) 2 (j:Int)=.tuple #[.slice (some ⟨b,o+k,none⟩) j (c - k),.slice (some ⟨b,o+k+(j+2),none⟩) (i+2 - (j+2)) (c - k - (j+2)),.bool true]:=by
      unfold Lib.cutV Lib.fromV
      rw[if_pos (by omega),Int.toNat_natCast,if_neg (by omega)]
      have:(⟨b,o+k,none⟩:Addr).add (j+2)=⟨b,o+k+(j+2),none⟩:=by unfold Addr.add;split<;>simp_all
      simp only[Option.map_some,this]
     rw[hcv]at HCU
     clear hcv hrdk hrdt
     have HJ:=aH hj
     have HLEN:=aH hlen
     clear hj hlen
     go_upto_region 7 with fail
     obtain⟨x6,hx6⟩:∃ x6:Int,x6=(k:Int)+(i:Int)+4:=⟨_,rfl⟩
     rw[← hx6]
     obtain⟨M,hM⟩:∃ M:Nat,M=k+i+2:=⟨_,rfl⟩
     have e6:x6 - 2=(M:Int):=by omega
     have hx6b:x6≤9000000000:=by omega
     have hx6a:2≤x6:=by omega
     have hkM:(k:Int)≤(M:Int):=by omega
     have hMc:(M:Int)≤(c:Int):=by omega
     have hMk:i+2=M - k:=by omega
     have hMn:M≤n:=by omega
     have HX6:=aH hx6
     have HM:=aH hM
     rw[hMk]at HCU
     clear hx6 hM hroomi h8i h8 hpos hroom h0i hMk
     go_wp2_with fail
     clear hcc1
     generalize w1.alloc (.cells #[.int .u8 13,.int .u8 10] 5 (2,3))=w2 at *
     refine HCU.out.mono ?_
     rintro e w3 ⟨rfl,hb3⟩
     have HB3:=aH (aA HB2.out.size HB2.out hb3)
     clear hb3 HCU HB2 HB1
     have hcv2:=pF ((HRT.out.below HB3.out).upto (show j≤i+2 by omega)) (c - k)
     go_wp2
     refine bK (v:=.tuple #[.string (B ((P.gX bs k).take j)),.slice (some ⟨b,o+k+(j+2),none⟩) (M - k - (j+2)) (c - k - (j+2)),.int .i64 x6,.int .i64 0]) (by simp [results,Tryz.results192,go_sem]) rfl ?_
     have hM:=HM.out
     have hjt:((j:Int)).toNat=j:=Int.toNat_natCast j
     have hfr:=HRT.out.from_ (show j+2≤i+2 by omega)
     refine⟨_,_,_,_,by rw[HN.out.1,HN.out.2,HX6.out],HB3.out,fun _ _=>⟨?_,?_,by omega,by omega,by omega⟩⟩
     ·unfold P.oV
      rw[HJ.out,hjt]
     ·unfold P.jT
      rw[HJ.out,hjt,show M - k - (j+2)=i+2 - (j+2) by omega]
      exact hfr
   ·skip
    have hneg:ix=-1:=by omega
    subst hneg
    by_cases hn8:bs.length < 8192
    ·have HN:Hid (P.hN bs k=0∧P.hE bs k=0):=aH ⟨HNE.out.1.trans (if_pos (.inl (by decide))),HNE.out.2.trans ((if_pos (by decide)).trans (if_pos hn8))⟩
     have hn8i:(n:Int) < 8192:=by omega
     go_wp2
     refine bK (v:=.tuple #[.string ⟨#[]⟩,.slice none 0 0,.int .i64 0,.int .i64 0]) (by simp [results,Tryz.results192,go_sem]) rfl ?_
     exact⟨⟨#[]⟩,none,0,0,by rw[HN.out.1,HN.out.2],HB1.out,fun _ h=>absurd HN.out.1 h⟩
    ·have HN:Hid (P.hN bs k=0∧P.hE bs k=51):=aH ⟨HNE.out.1.trans (if_pos (.inl (by decide))),HNE.out.2.trans ((if_pos (by decide)).trans (if_neg hn8))⟩
     have hn8i:¬ (n:Int) < 8192:=by omega
     go_wp2
     refine bK (v:=.tuple #[.string ⟨#[]⟩,.slice none 0 0,.int .i64 0,.int .i64 51]) (by simp [results,Tryz.results192,go_sem]) rfl ?_
     exact⟨⟨#[]⟩,none,0,0,by rw[HN.out.1,HN.out.2],HB1.out,fun _ h=>absurd HN.out.1 h⟩
end Go.Proofs.YthjeglnkgdpijaaGreatDoor
