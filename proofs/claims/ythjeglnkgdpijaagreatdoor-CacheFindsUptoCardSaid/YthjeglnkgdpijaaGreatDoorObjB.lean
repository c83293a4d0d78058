/- The walk of object.sections (printed by gen/osect.py). Conditions: a row of at most 2^30 bytes; internal/bytealg.MaxLen. The walk of object.Decode (printed by gen/odec.py). Conditions: a row of at most 2^30 bytes; the library's tables. -/
import Derived.Test.YthjeglnkgdpijaaGreatDoorObjA
set_option maxHeartbeats 4000000
set_option maxRecDepth 100000
namespace Go.Proofs.YthjeglnkgdpijaaGreatDoor
open Go.RowKit
def Sls (w:World):List (List UInt8)→List Value→Prop
 | [],[]=>True
 | d::ds,v::vs=>Sl w d v∧Sls w ds vs
 | _,_=>False
theorem Sls.below {w w':World} (hb:Below w.heap.size w w'):∀ {ds:List (List UInt8)} {vs:List Value},Sls w ds vs→Sls w' ds vs
 | [],[],_=>trivial
 | _::_,_::_,h=>⟨h.1.below hb,Sls.below hb h.2⟩
 | [],_::_,h=>h.elim
 | _::_,[],h=>h.elim
theorem Sls.snoc {w:World} {d:List UInt8} {v:Value} (hd:Sl w d v):∀ {ds:List (List UInt8)} {vs:List Value},Sls w ds vs→Sls w (ds++[d]) (vs++[v])
 | [],[],_=>⟨hd,trivial⟩
 | _::_,_::_,h=>⟨h.1,Sls.snoc hd h.2⟩
 | [],_::_,h=>h.elim
 | _::_,[],h=>h.elim
theorem Sls.len {w:World}:∀ {ds:List (List UInt8)} {vs:List Value},Sls w ds vs→vs.length=ds.length
 | [],[],_=>rfl
 | _::_,_::_,h=>congrArg Nat.succ (Sls.len h.2)
 | [],_::_,h=>h.elim
 | _::_,[],h=>h.elim
theorem Sl.one {w:World} {d:List UInt8} {v:Value} (h:Sl w d v):v.oneCell'=true:=by
 obtain⟨A,c,rfl,_⟩:=h
 rfl
theorem Tryz.infoW:(Tryz.prog.info? 39).map (fun i=>(i.zero,i.size,i.bytes))=some (some (.slice none 0 0),1,24):=by kernel_rfl
section
variable (w:World) {ops:Array Oper} {rest:List Oper} {o:Oper} {a:Act} {K:Act→World→Prop} {Q:Exit→Act→World→Prop}
theorem wpW (s x:Operand) (ho:o.op=.call { callee:=.builtin .append,args:=#[s,x],argTypes:=#[180,180] })
  (base:Nat) (A:Option Addr) (n c:Nat) (xs:List Value) (hs:a.eval s=.slice A n c) (hown:Row w base 39 1 A n c xs)
  (S:Option Addr) (m d:Nat) (news:List Value) (hx:a.eval x=.slice S m d) (hr:Rd w S m 1 news) (h1:∀ u∈news,u.oneCell'=true) (h63:n+m≤1099511627776) (hbase:base≤w.heap.size)
  (h:∀ A' c' w',Row w' base 39 1 A' (n+m) c' (xs++news)→App w w' A c A' c'→K (a.put o.dst (.slice A' (n+m) c')) w'):o.wp Tryz.prog a w K Q:=by
 obtain⟨i0,hi0,hz0,hz1,hz2⟩:=info_parts Tryz.infoW
 exact pW w s x _ ho _ i0 _ 1 24 Tryz.underlying180 hi0 hz0 hz1 hz2 rfl (by omega) base A n c _ hs hown S m d _ hx hr h1 (by simp only[maxLen];omega) (by omega) hbase h
theorem appW (hgd:o.guard=none) (s x:Operand) (ho:o.op=.call { callee:=.builtin .append,args:=#[s,x],argTypes:=#[180,180] })
  (base:Nat) (A:Option Addr) (n c:Nat) (xs:List Value) (hs:a.eval s=.slice A n c) (hown:Row w base 39 1 A n c xs)
  (S:Option Addr) (m d:Nat) (news:List Value) (hx:a.eval x=.slice S m d) (hr:Rd w S m 1 news) (h1:∀ u∈news,u.oneCell'=true) (h63:n+m≤1099511627776) (hbase:base≤w.heap.size)
  (h:∀ A' c' w',Row w' base 39 1 A' (n+m) c' (xs++news)→App w w' A c A' c'→wpList Tryz.prog ops Q rest (a.put o.dst (.slice A' (n+m) c')) w'):wpList Tryz.prog ops Q (o::rest) a w :=
 wpList_plain hgd fun _ hK=>wpW w s x ho base A n c xs hs hown S m d news hx hr h1 h63 hbase fun A' c' w' h2 h3=>hK _ _ (h A' c' w' h2 h3)
end
def aQP (w:World) (l:List UInt8) (e:Ending) (w':World):Prop :=
 (∃ ds r A c vs,O.parts (l.drop 3) 5=some (ds,r)∧e=.returned (.slice A 5 c)∧Row w' w.heap.size 39 1 A 5 c vs∧Sls w ds vs∧Below w.heap.size w w') ∨
 (O.dec l=none∧e=.returned (.slice none 0 0)∧Below w.heap.size w w')
theorem O.dec_none {l:List UInt8} (h:∀ E,¬ O.Told l E):O.dec l=none:=by
 cases hd:O.dec l with
 | none=>rfl
 | some E=>exact absurd (O.nX (O.gB hd).1 (O.gB hd).2.1) (h E)
theorem aBA (A:Option Addr) (c:Nat) (l:List UInt8) (w:World) (hn:l.length≤1073741824) (hc:l.length≤c) (hx:Rd w A l.length 1 (aB l)) :
  Calls Tryz.prog 171 #[.slice A l.length c] w (aQP w l):=by
 have HX:=aH hx
 by_cases hbig:100000 < l.length
 ·have HF:Hid (O.dec l=none):=aH (O.dec_none fun E h=>by have:=h.len.2;omega)
  have hbi:(100000:Int) < (l.length:Int):=by omega
  clear hx HX
  go_enter Tryz.func171,Tryz.ntmps171
  go_wp2
  go_ret
  exact .inr ⟨HF.out,rfl,zB _ _⟩
 ·have hbi:¬ (100000:Int) < (l.length:Int):=by omega
  have hcc:=Lib.run_convert_bytes_const (P:=Tryz.prog) w 39 5 #[.int .u8 67,.int .u8 79,.int .u8 49] 3 3 Tryz.underlying39 Tryz.underlying5
  have HB1:=aH ((zB w.heap.size w).alloc (zA _) (.cells #[.int .u8 67,.int .u8 79,.int .u8 49] 5 (3,4)))
  have HPX:=aH (vM A (some ⟨w.heap.size,0,none⟩) l.length c 3 3 l [67,79,49] (w.alloc (.cells #[.int .u8 67,.int .u8 79,.int .u8 49] 5 (3,4))) hc (hx.below HB1.out) (Rd.newRowM w 5 #[.int .u8 67,.int .u8 79,.int .u8 49] (3,4) 3 1 rfl))
  clear hx
  go_enter Tryz.func171,Tryz.ntmps171
  go_wp2_with fail
  clear hcc
  generalize w.alloc (.cells #[.int .u8 67,.int .u8 79,.int .u8 49] 5 (3,4))=w1 at *
  refine HPX.out.mono ?_
  rintro e w' ⟨rfl,rfl⟩
  clear HPX
  by_cases hp:List.isPrefixOf [67,79,49] l=true
  ·have h3:3≤l.length:=by
    rw[List.isPrefixOf_iff_prefix]at hp
    exact hp.length_le
   rw[hp]
   obtain⟨b,o,rfl,_,_⟩:=HX.out.2 (by omega)
   obtain⟨a,ha,hs⟩:=yM (b:=b) (o:=o) (c:=c) (k:=3)
   have HS3:=aH (Sl.from_ HX.out hc 3 h3)
   have HSEC:=aH (fun (u:World) (hu:Below w.heap.size w u) (v:Value) (d:List UInt8) (t:Nat) (ht:t < 256) (hd:d.length≤1073741824) (hv:Sl w d v)=>show Calls Tryz.prog 191 #[v,.int .i64 t] u (aOU w u d t) from by
    obtain⟨A',c',rfl,h1,h2,_,_⟩:=hv
    exact aBQ A' c' d t w u hu hd h2 ht h1)
   have h3i:(3:Int)≤(c:Int):=by omega
   have h3l:(3:Int)≤(l.length:Int):=by omega
   go_upto_region 4 with fail
   go_cut [4] (fun s4 wx=>Sl w (l.drop 3) s4∧Below w.heap.size w wx)
   case first =>
    by_cases hc3:c=3
    ·subst hc3
     have hs3:=HS3.out
     rw[sG,Nat.sub_self,show l.length - 3=0 by omega]at hs3
     clear HS3 HSEC HX
     go_wp2_with fail
     go_meet
     exact⟨hs3,HB1.out⟩
    ·have hc3i:(3:Int) < (c:Int):=by omega
     have hs3:=HS3.out
     rw[aEL (show (3:Nat)≠c by omega)]at hs3
     clear HS3 HSEC HX
     go_wp2_with fail
     go_meet
     exact⟨hs3,HB1.out⟩
   case rest =>
    obtain⟨hs3,hb3⟩:=hcut
    have HS4:=aH hs3
    have HB4:=aH hb3
    clear hs3 hb3 HB1 HS3 ha hs
    go_wp2_with fail
    go_loopw [3,4,5] (fun vo v4 vt wr=>∃ (k:Nat) (A3:Option Addr) (c3:Nat) (vs:List Value) (ds:List (List UInt8)) (r:List UInt8) (vr:Value),k≤5∧v4=vr∧vt=.int .i64 (k+1:Nat)∧vo=.slice A3 k c3∧Row wr w.heap.size 39 1 A3 k c3 vs∧Sls w ds vs∧Sl w r vr∧O.parts (l.drop 3) k=some (ds,r)∧Below w.heap.size w wr) (fun _ _ vt _=>6 - (intOf vt).toNat)
    case atStart=>exact⟨0,none,0,[],[],l.drop 3,_,zF _,rfl,rfl,rfl,Row.none_ _ _ _ _,trivial,HS4.out,rfl,HB4.out⟩
    case round =>
     obtain⟨wo,rfl⟩:∃ wo:World,wo=wr:=⟨_,rfl⟩
     obtain⟨k,A3,c3,vs,ds,r,vr,hk,rfl,rfl,rfl,hrow,hsls,hsl,hpt,hbel⟩:=hrel
     have HROW:=aH hrow
     have HSLS:=aH hsls
     have HSL:=aH hsl
     have HPT:=aH hpt
     have HB:=aH hbel
     have hdl:=O.mZ k ds r hpt
     have hrl:r.length≤1073741824:=by
      obtain⟨_,j,_,_,e⟩:=hdl
      rw[e,List.length_drop,List.length_drop]
      omega
     have hk5i:(k:Int)≤5:=by omega
     clear hrow hsls hsl hpt hbel hdl HS4 HB4
     by_cases hk5:k=5
     ·subst hk5
      obtain⟨R,rc,rfl,hrr,hrc,_⟩:=HSL.out
      clear HSEC HSL
      by_cases hr4:r.length=4
      ·have h4i:((r.length:Int) != 4)=false:=by rw[bne_eq_false_iff_eq];omega
       obtain⟨j,hj⟩:∃ j,j=l.length - 4:=⟨_,rfl⟩
       have hl4:4≤l.length:=by have:=(O.mZ 5 ds r HPT.out).2;obtain⟨q,_,h2,h3⟩:=this;have:=congrArg List.length h3;rw[List.length_drop]at this;rw[List.length_drop]at h2;omega
       have hjl:(l.length:Int) - 4=(j:Int):=by omega
       have hjw:IntKind.i64.wrap (j:Int)=(j:Int):=IntWalk.i64_in _ (by omega)
       have hjc:(j:Int)≤(c:Int):=by omega
       have hlj:(l.take j).length=j:=by rw[List.length_take];omega
       have HG4:=aH (fun (u:World) (hu:Below w.heap.size w u)=>show Calls Tryz.prog 174 #[.slice R r.length rc] u (vX u (.int .i64 (O.val r:Nat))) from by
        have:=aFP R rc r u (by omega) (hrr.below hu)
        rwa [IntWalk.wrap64_in _ (by have:=O.wU r;rw[hr4,show (256:Nat) ^ 4=4294967296 by decide]at this;omega)]at this)
       have HSM:=aH (fun (u:World) (hu:Below w.heap.size w u)=>show Calls Tryz.prog 121 #[.slice (some ⟨b,o,none⟩) j c] u (fun e w'=>e=.returned (.int .i64 (iP (l.take j)))∧Below u.heap.size u w') from by
        have:=sum_any (some ⟨b,o,none⟩) c (l.take j) u (by omega) (by rw[hlj];exact (HX.out.upto (by omega)).below hu)
        rwa [hlj]at this)
       have HFE:Hid (¬ O.val r=iP (l.take j)→O.dec l=none):=aH (fun h=>O.dec_none fun E hE=>h (by rw[hj];exact O.aLW hE HPT.out))
       have hS0:Below w.heap.size w wo.drew∧Row wo.drew w.heap.size 39 1 A3 5 c3 vs:=⟨HB.out.drew,HROW.out.drew⟩
       generalize O.val r=x at *
       generalize iP (l.take j)=y at *
       have HR4:=aH hr4
       clear hrr hj HROW HB HX hr4 hlj hl4
       go_upto_region 13 with fail
       by_cases hxy:x=y
       ·subst hxy
        have hxb:((x:Int) != (x:Int))=false:=by rw[bne_eq_false_iff_eq]
        clear HFE
        refine wp_region_noPanic ?_
        refine HT.begin (n:=13) (S:=(fun u=>Below w.heap.size w u∧Row u w.heap.size 39 1 A3 5 c3 vs)) (by kernel_rfl) hS0 ?_
        refine HT.take 0 (.slice R r.length rc) rfl (by kernel_rfl) (fun _ _ _ h=>h) (Or.inl ⟨by rfl,?_⟩) ?_
        ·intro u hu
         go_simp
        refine HT.take 1 (.int .i64 r.length) rfl (by kernel_rfl) (fun _ _ _ h=>h) (Or.inl ⟨by rfl,?_⟩) ?_
        ·intro u hu
         go_simp
        refine HT.take 2 (.bool false) rfl (by kernel_rfl) (fun _ _ _ h=>h) (Or.inl ⟨by rfl,?_⟩) (?_:HT _ _ _ _ _ _ _ ⟨#[_,_,_,_,_,_,_,_,_,_,_,_,_,_,_,_,_,_,_,_,_,_,_,_,_,_,_,_,_,_,_,_,_,_,_,_,_,_,_,.slice R r.length rc,.int .i64 r.length,.bool false,_,_,_,_,_,_,_,_,_,_,_,_],[]⟩ _)
        ·intro u hu
         go_simp
        refine HT.take 3 (.bool false) rfl (by kernel_rfl) (fun _ _ _ h=>h) (Or.inl ⟨by rfl,?_⟩) ?_
        ·intro u hu
         go_simp
        refine HT.take 4 (.slice R r.length rc) rfl (by kernel_rfl) (fun _ _ _ h=>h) (Or.inl ⟨by rfl,?_⟩) ?_
        ·intro u hu
         go_simp
        refine HT.take 6 (.slice (some ⟨b,o,none⟩) l.length c) rfl (by kernel_rfl) (fun _ _ _ h=>h) (Or.inl ⟨by rfl,?_⟩) (?_:HT _ _ _ _ _ _ _ ⟨#[_,_,_,_,_,_,_,_,_,_,_,_,_,_,_,_,_,_,_,_,_,_,_,_,_,_,_,_,_,_,_,_,_,_,_,_,_,_,_,.slice R r.length rc,.int .i64 r.length,.bool false,.bool false,.slice R r.length rc,_,.slice (some ⟨b,o,none⟩) l.length c,_,_,_,_,_,_,_,_],[]⟩ _)
        ·intro u hu
         go_simp
        refine HT.take 7 (.slice (some ⟨b,o,none⟩) l.length c) rfl (by kernel_rfl) (fun _ _ _ h=>h) (Or.inl ⟨by rfl,?_⟩) ?_
        ·intro u hu
         go_simp
        refine HT.take 8 (.int .i64 l.length) rfl (by kernel_rfl) (fun _ _ _ h=>h) (Or.inl ⟨by rfl,?_⟩) ?_
        ·intro u hu
         go_simp
        refine HT.take 9 (.int .i64 j) rfl (by kernel_rfl) (fun _ _ _ h=>h) (Or.inl ⟨by rfl,?_⟩) (?_:HT _ _ _ _ _ _ _ ⟨#[_,_,_,_,_,_,_,_,_,_,_,_,_,_,_,_,_,_,_,_,_,_,_,_,_,_,_,_,_,_,_,_,_,_,_,_,_,_,_,.slice R r.length rc,.int .i64 r.length,.bool false,.bool false,.slice R r.length rc,_,.slice (some ⟨b,o,none⟩) l.length c,.slice (some ⟨b,o,none⟩) l.length c,.int .i64 l.length,.int .i64 j,_,_,_,_,_],[]⟩ _)
        ·intro u hu
         go_simp
        refine HT.take 10 (.slice (some ⟨b,o,none⟩) j c) rfl (by kernel_rfl) (fun _ _ _ h=>h) (Or.inl ⟨by rfl,?_⟩) (?_:HT _ _ _ _ _ _ _ ⟨#[_,_,_,_,_,_,_,_,_,_,_,_,_,_,_,_,_,_,_,_,_,_,_,_,_,_,_,_,_,_,_,_,_,_,_,_,_,_,_,.slice R r.length rc,.int .i64 r.length,.bool false,.bool false,.slice R r.length rc,_,.slice (some ⟨b,o,none⟩) l.length c,.slice (some ⟨b,o,none⟩) l.length c,.int .i64 l.length,.int .i64 j,.slice (some ⟨b,o,none⟩) j c,_,_,_,_],[]⟩ _)
        ·intro u hu
         go_simp
        refine HT.step 5 rfl (by kernel_rfl) (fun hS K hK=>?_)
        go_simp
        refine (HG4.out _ hS.1).mono ?_
        rintro e w5 ⟨rfl,rfl⟩
        refine hK.out _ _ hS ?_
        clear hK hS0
        refine HT.step 11 rfl (by kernel_rfl) (fun hS K hK=>?_)
        go_simp
        refine (HSM.out _ hS.1).mono ?_
        rintro e w6 ⟨rfl,hb6⟩
        refine hK.out _ _ ⟨aA hS.1.size hS.1 hb6,hS.2.below hb6⟩ ?_
        clear hK
        refine HT.take 12 (.bool false) rfl (by kernel_rfl) (fun _ _ _ h=>h) (Or.inl ⟨by rfl,?_⟩) (?_:HT _ _ _ _ _ _ _ ⟨#[_,_,_,_,_,_,_,_,_,_,_,_,_,_,_,_,_,_,_,_,_,_,_,_,_,_,_,_,_,_,_,_,_,_,_,_,_,_,_,.slice R r.length rc,.int .i64 r.length,.bool false,.bool false,.slice R r.length rc,.int .i64 x,.slice (some ⟨b,o,none⟩) l.length c,.slice (some ⟨b,o,none⟩) l.length c,.int .i64 l.length,.int .i64 j,.slice (some ⟨b,o,none⟩) j c,.int .i64 x,.bool false,_,_],[]⟩ _)
        ·intro u hu
         go_simp
        refine HT.tail _ rfl rfl (by kernel_rfl) (fun hS=>?_)
        have HS:=aH hS
        clear hS
        go_wp2
        refine NoPanic.normal ?_
        go_wp2
        go_ret
        exact .inl ⟨ds,r,A3,c3,vs,HPT.out,rfl,HS.out.2,HSLS.out,HS.out.1⟩
       ·have hxb:((x:Int) != (y:Int))=true:=by rw[bne_iff_ne];omega
        have HF:=aH (HFE.out hxy)
        clear HFE
        refine wp_region_noPanic ?_
        refine HT.begin (n:=13) (S:=(fun u=>Below w.heap.size w u∧Row u w.heap.size 39 1 A3 5 c3 vs)) (by kernel_rfl) hS0 ?_
        refine HT.take 0 (.slice R r.length rc) rfl (by kernel_rfl) (fun _ _ _ h=>h) (Or.inl ⟨by rfl,?_⟩) ?_
        ·intro u hu
         go_simp
        refine HT.take 1 (.int .i64 r.length) rfl (by kernel_rfl) (fun _ _ _ h=>h) (Or.inl ⟨by rfl,?_⟩) ?_
        ·intro u hu
         go_simp
        refine HT.take 2 (.bool false) rfl (by kernel_rfl) (fun _ _ _ h=>h) (Or.inl ⟨by rfl,?_⟩) (?_:HT _ _ _ _ _ _ _ ⟨#[_,_,_,_,_,_,_,_,_,_,_,_,_,_,_,_,_,_,_,_,_,_,_,_,_,_,_,_,_,_,_,_,_,_,_,_,_,_,_,.slice R r.length rc,.int .i64 r.length,.bool false,_,_,_,_,_,_,_,_,_,_,_,_],[]⟩ _)
        ·intro u hu
         go_simp
        refine HT.take 3 (.bool false) rfl (by kernel_rfl) (fun _ _ _ h=>h) (Or.inl ⟨by rfl,?_⟩) ?_
        ·intro u hu
         go_simp
        refine HT.take 4 (.slice R r.length rc) rfl (by kernel_rfl) (fun _ _ _ h=>h) (Or.inl ⟨by rfl,?_⟩) ?_
        ·intro u hu
         go_simp
        refine HT.take 6 (.slice (some ⟨b,o,none⟩) l.length c) rfl (by kernel_rfl) (fun _ _ _ h=>h) (Or.inl ⟨by rfl,?_⟩) (?_:HT _ _ _ _ _ _ _ ⟨#[_,_,_,_,_,_,_,_,_,_,_,_,_,_,_,_,_,_,_,_,_,_,_,_,_,_,_,_,_,_,_,_,_,_,_,_,_,_,_,.slice R r.length rc,.int .i64 r.length,.bool false,.bool false,.slice R r.length rc,_,.slice (some ⟨b,o,none⟩) l.length c,_,_,_,_,_,_,_,_],[]⟩ _)
        ·intro u hu
         go_simp
        refine HT.take 7 (.slice (some ⟨b,o,none⟩) l.length c) rfl (by kernel_rfl) (fun _ _ _ h=>h) (Or.inl ⟨by rfl,?_⟩) ?_
        ·intro u hu
         go_simp
        refine HT.take 8 (.int .i64 l.length) rfl (by kernel_rfl) (fun _ _ _ h=>h) (Or.inl ⟨by rfl,?_⟩) ?_
        ·intro u hu
         go_simp
        refine HT.take 9 (.int .i64 j) rfl (by kernel_rfl) (fun _ _ _ h=>h) (Or.inl ⟨by rfl,?_⟩) (?_:HT _ _ _ _ _ _ _ ⟨#[_,_,_,_,_,_,_,_,_,_,_,_,_,_,_,_,_,_,_,_,_,_,_,_,_,_,_,_,_,_,_,_,_,_,_,_,_,_,_,.slice R r.length rc,.int .i64 r.length,.bool false,.bool false,.slice R r.length rc,_,.slice (some ⟨b,o,none⟩) l.length c,.slice (some ⟨b,o,none⟩) l.length c,.int .i64 l.length,.int .i64 j,_,_,_,_,_],[]⟩ _)
        ·intro u hu
         go_simp
        refine HT.take 10 (.slice (some ⟨b,o,none⟩) j c) rfl (by kernel_rfl) (fun _ _ _ h=>h) (Or.inl ⟨by rfl,?_⟩) (?_:HT _ _ _ _ _ _ _ ⟨#[_,_,_,_,_,_,_,_,_,_,_,_,_,_,_,_,_,_,_,_,_,_,_,_,_,_,_,_,_,_,_,_,_,_,_,_,_,_,_,.slice R r.length rc,.int .i64 r.length,.bool false,.bool false,.slice R r.length rc,_,.slice (some ⟨b,o,none⟩) l.length c,.slice (some ⟨b,o,none⟩) l.length c,.int .i64 l.length,.int .i64 j,.slice (some ⟨b,o,none⟩) j c,_,_,_,_],[]⟩ _)
        ·intro u hu
         go_simp
        refine HT.step 5 rfl (by kernel_rfl) (fun hS K hK=>?_)
        go_simp
        refine (HG4.out _ hS.1).mono ?_
        rintro e w5 ⟨rfl,rfl⟩
        refine hK.out _ _ hS ?_
        clear hK hS0
        refine HT.step 11 rfl (by kernel_rfl) (fun hS K hK=>?_)
        go_simp
        refine (HSM.out _ hS.1).mono ?_
        rintro e w6 ⟨rfl,hb6⟩
        refine hK.out _ _ ⟨aA hS.1.size hS.1 hb6,hS.2.below hb6⟩ ?_
        clear hK
        refine HT.take 12 (.bool true) rfl (by kernel_rfl) (fun _ _ _ h=>h) (Or.inl ⟨by rfl,?_⟩) (?_:HT _ _ _ _ _ _ _ ⟨#[_,_,_,_,_,_,_,_,_,_,_,_,_,_,_,_,_,_,_,_,_,_,_,_,_,_,_,_,_,_,_,_,_,_,_,_,_,_,_,.slice R r.length rc,.int .i64 r.length,.bool false,.bool false,.slice R r.length rc,.int .i64 x,.slice (some ⟨b,o,none⟩) l.length c,.slice (some ⟨b,o,none⟩) l.length c,.int .i64 l.length,.int .i64 j,.slice (some ⟨b,o,none⟩) j c,.int .i64 y,.bool true,_,_],[]⟩ _)
        ·intro u hu
         go_simp
        refine HT.tail _ rfl rfl (by kernel_rfl) (fun hS=>?_)
        have HS:=aH hS
        clear hS
        go_wp2
        refine NoPanic.normal ?_
        go_wp2
        go_ret
        exact .inr ⟨HF.out,rfl,HS.out.1⟩
      ·have HF:Hid (O.dec l=none):=aH (O.dec_none fun E h=>by
        obtain⟨r',h1,_,h2⟩:=h.parts 5 hk
        rw[HPT.out]at h1
        injection h1 with h1
        injection h1 with _ h1
        exact hr4 (by rw[h1,h2 rfl,aP]))
       have hrb:((r.length:Int) != 4)=true:=by rw[bne_iff_ne];omega
       clear hrr HROW HSLS HPT
       go_wp2_with fail
       go_region
       go_wp2
       go_ret
       exact .inr ⟨HF.out,rfl,HB.out.drew⟩
     ·have hki:(k:Int)+1 < 6:=by omega
      have HC:=aH (HSEC.out wo HB.out u4 r (k+1) (by omega) hrl HSL.out)
      go_wp2_with fail
      refine HC.out.mono ?_
      rintro e w2 (⟨d,r2,v1,v2,hcut,htag,rfl,hd,hr2,hb2⟩ | ⟨hno,rfl,hb2⟩)
      ·obtain⟨D1,e1,rfl,_⟩:=id hd
       have HB2:=aH (aA HB.out.size HB.out hb2)
       have HR2:=aH ((HROW.out.below hb2).alloc (.cells #[.slice D1 d.length e1] 39))
       have HS2:=aH (Sls.snoc hd HSLS.out)
       have HT2:=aH hr2
       have HD1:=aH hd.one
       have HN2:=aH (Rd.newRow w2 39 #[.slice D1 d.length e1] 1 1 rfl)
       have hzw:=HB2.out.size
       have HPN:Hid (O.parts (l.drop 3) (k+1)=some (ds++[d],r2)):=aH (by
        unfold O.parts
        rw[HPT.out]
        simp only[hcut])
       clear hb2 hd hr2 hcut htag HC HROW HSLS HSL HPT HB HSEC
       go_wp2_with (at_builtin;refine appW _ rfl (.tmp 34) (.tmp 36) rfl w.heap.size A3 k c3 vs rfl HR2.out (some ⟨w2.heap.size,0,none⟩) 1 1 [.slice D1 d.length e1] rfl HN2.out (fun u hu=>by rw[List.mem_singleton.1 hu];exact HD1.out) (by omega) (by rw[bJ];omega) ?_;intro A4 c4 w4 hr4 ha4)
       have hz3:w.heap.size≤(w2.alloc (.cells #[.slice D1 d.length e1] 39)).heap.size:=by rw[bJ];omega
       have hB4:Below w.heap.size w w4:=(HB2.out.alloc hzw (.cells #[.slice D1 d.length e1] 39)).trans (ha4.below HR2.out hz3)
       exact⟨⟨k+1,A4,c4,_,_,r2,_,by omega,rfl,by go_num,rfl,hr4,HS2.out,HT2.out,HPN.out,hB4⟩,by simp [intOf];omega⟩
      ·have HF:Hid (O.dec l=none):=aH (O.dec_none fun E h=>by
        obtain⟨r',h1,h2,_⟩:=h.parts k hk
        rw[HPT.out]at h1
        injection h1 with h1
        injection h1 with _ h1
        obtain⟨r3,h3⟩:=h2 (by omega)
        rw[h1,h3]at hno
        rcases hno with hno | hno
        ·rw[O.aKM (k+1) (E.dat k) r3 (Nat.lt_of_le_of_lt (h.dat k) (by decide))]at hno
         cases hno
        ·refine hno ?_
         show (UInt8.ofNat (k+1)).toNat=k+1
         rw[UInt8.toNat_ofNat']
         omega)
       have HB2:=aH (aA HB.out.size HB.out hb2)
       go_wp2
       go_ret
       exact .inr ⟨HF.out,rfl,HB2.out⟩
  ·have HF:Hid (O.dec l=none):=aH (O.dec_none fun E h=>hp (by
    rw[List.isPrefixOf_iff_prefix,← h.magic]
    exact List.take_prefix 3 l))
   have hpf:List.isPrefixOf [67,79,49] l=false:=by rwa [Bool.not_eq_true]at hp
   rw[hpf]
   go_wp2
   go_ret
   exact .inr ⟨HF.out,rfl,HB1.out⟩
def aO0 (w w0:World) (g pc:Nat) (vs:List Value) (b5:Nat) (R:Array Value) (A1:Option Addr) (c1:Nat) (fs:List FD) (u:World):Prop :=
 Blk u w.heap.size #[.string ⟨#[]⟩,.string ⟨#[]⟩,.int .i64 0,.string ⟨#[]⟩,.int .i64 0,.slice none 0 0,.slice none 0 0,.int .i64 0,.int .i64 0] 41∧Below w0.heap.size w0 u∧Row u w0.heap.size 39 1 (some ⟨g,0,none⟩) 5 pc vs∧Blk u b5 R 38∧Row u w0.heap.size 60 2 A1 fs.length c1 (aJ fs)∧Below w.heap.size w u
theorem aO0.below {w w0 u u':World} {g pc b5 c1:Nat} {vs:List Value} {R:Array Value} {A1:Option Addr} {fs:List FD} (h:aO0 w w0 g pc vs b5 R A1 c1 fs u) (hb:Below u.heap.size u u'):aO0 w w0 g pc vs b5 R A1 c1 fs u' :=
 ⟨h.1.below hb,aA h.2.1.size h.2.1 hb,h.2.2.1.below hb,h.2.2.2.1.below hb,h.2.2.2.2.1.below hb,aA h.2.2.2.2.2.size h.2.2.2.2.2 hb⟩
theorem aDX (A:Option Addr) (c:Nat) (l:List UInt8) (w:World) (hn:l.length≤1073741824) (hc:l.length≤c) (hx:Rd w A l.length 1 (aB l)) (ht:lH w) (he:aAQ w) (htab:iY w) :
  Calls Tryz.prog 138 #[.slice A l.length c] w (aLC w l):=by
 have HX:=aH hx
 have HK0:=aH (Blk.new w #[.string ⟨#[]⟩,.string ⟨#[]⟩,.int .i64 0,.string ⟨#[]⟩,.int .i64 0,.slice none 0 0,.slice none 0 0,.int .i64 0,.int .i64 0] 41)
 have HB0:=aH ((zB w.heap.size w).alloc (zA _) (.cells #[.string ⟨#[]⟩,.string ⟨#[]⟩,.int .i64 0,.string ⟨#[]⟩,.int .i64 0,.slice none 0 0,.slice none 0 0,.int .i64 0,.int .i64 0] 41))
 have HZ0:Hid ((w.alloc (.cells #[.string ⟨#[]⟩,.string ⟨#[]⟩,.int .i64 0,.string ⟨#[]⟩,.int .i64 0,.slice none 0 0,.slice none 0 0,.int .i64 0,.int .i64 0] 41)).heap.size=w.heap.size+1):=aH (bJ ..)
 have HSEC:=aH (fun (u:World) (hu:Below w.heap.size w u)=>aBA A c l u hn hc (hx.below hu))
 have HT:=aH (fun (u:World) (hu:Below w.heap.size w u)=>And.intro (ht.below hu) (And.intro (he.below hu) (htab.below hu)))
 clear hx ht he htab
 go_enter Tryz.func138,Tryz.ntmps138
 go_upto_region 1 with fail
 generalize w.alloc (.cells #[.string ⟨#[]⟩,.string ⟨#[]⟩,.int .i64 0,.string ⟨#[]⟩,.int .i64 0,.slice none 0 0,.slice none 0 0,.int .i64 0,.int .i64 0] 41)=w0 at *
 go_wp2_with fail
 refine (HSEC.out _ HB0.out).mono ?_
 rintro e w1 (⟨ds,rr,P0,pc,vs,hpt,rfl,hrow,hsls,hb1⟩ | ⟨hdn,rfl,hb1⟩)
 rotate_left
 ·have HK1:=aH (HK0.out.below hb1)
  have HB1:=aH (aA HB0.out.size HB0.out hb1)
  have HF:=aH hdn
  have hq:=fun w=>Lib.run_eql_slice_nil (P:=Tryz.prog) w 180 _ none 0 0 (h:=Tryz.underlying180)
  clear hb1 hdn HK0 HB0 HSEC HT HX HZ0
  obtain⟨a0,a1,a2,a3,a4,a5,a6,a7,a8⟩:=HK1.out.cells9
  obtain⟨g0,g1,g2,g3,g4,g5,g6,g7,g8⟩:=HK1.out.free9
  go_wp2
  obtain⟨z0,z1,z2,z3,z4,z5,z6,z7,z8⟩:=(HK1.out.set9 (.string ⟨#[]⟩) (.string ⟨#[]⟩) (.int .i64 0) (.string ⟨#[]⟩) (.int .i64 0) (.slice none 0 0) (.slice none 0 0) (.int .i64 0) (.int .i64 0)).cells9
  unfold nine at z0 z1 z2 z3 z4 z5 z6 z7 z8
  refine bK (v:=.tuple #[.agg #[.string ⟨#[]⟩,.string ⟨#[]⟩,.int .i64 0,.string ⟨#[]⟩,.int .i64 0,.slice none 0 0,.slice none 0 0,.int .i64 0,.int .i64 0],.int .i64 120]) (by simp [results,Tryz.results138,go_sem,z0,z1,z2,z3,z4,z5,z6,z7,z8]) rfl ?_
  exact .inr ⟨HF.out,rfl,aN HB1.out (zA _) _ _ _ _ _ _ _ _ _⟩
 ·obtain⟨g,rfl,hg0,hg1⟩:=hrow.five
  obtain⟨p0,p1,p2,p3,p4,rfl⟩:=five (O.mZ 5 ds rr hpt).1
  obtain⟨v0,v1,v2,v3,v4,rfl⟩:=five hsls.len
  obtain⟨hs0,hs1,hs2,hs3,hs4,_⟩:=hsls
  obtain⟨D0,c0,rfl,hd0,_⟩:=hs0
  obtain⟨D1,c1',rfl,hd1,_⟩:=hs1
  obtain⟨D2,c2,rfl,hd2,hc2,hnil2,hspot2⟩:=hs2
  obtain⟨D3,c3,rfl,hd3,hc3,hnil3,_⟩:=hs3
  obtain⟨D4,c4,rfl,hd4,hc4,_⟩:=hs4
  have hl2:p2.length≤1073741824∧p3.length≤1073741824:=by
   have h2:=O.aBP 5 _ rr hpt
   simp only[List.map_cons,List.map_nil,List.sum_cons,List.sum_nil,List.length_drop]at h2
   omega
  have HL:=aH (aA (zA _) (zB w0.heap.size w0) hb1)
  have HROW:=aH hrow
  have HC0:=aH (fun (u:World) (hu:Below w0.heap.size w0 u)=>pF (hd0.below hu) c0)
  have HC1:=aH (fun (u:World) (hu:Below w0.heap.size w0 u)=>pF (hd1.below hu) c1')
  have HRS:=aH (fun (u:World) (hu:Below w0.heap.size w0 u)=>zV D2 p2.length c2 p2 u hl2.1 hc2 hnil2 hspot2 (hd2.below hu) (HT.out u (aA HB0.out.size HB0.out hu)).1 (HT.out u (aA HB0.out.size HB0.out hu)).2.1)
  have HCL:=aH (fun (u:World) (hu:Below w0.heap.size w0 u)=>aH5 D3 p3.length c3 p3 u (by omega) rfl hnil3 (hd3.below hu))
  have HD4:=aH hd4
  have HPT:=aH hpt
  have HB1:=aH (aA HB0.out.size HB0.out hb1)
  have HK1:=aH (HK0.out.below hb1)
  have hq:=fun w=>Lib.run_eql_slice_nil (P:=Tryz.prog) w 180 _ (some ⟨g,0,none⟩) 5 pc (h:=Tryz.underlying180)
  obtain⟨y0,y1,y2,y3,y4⟩:=HROW.out.five5
  have hb01:=hb1
  clear hb1 hrow hpt hd0 hd1 hd2 hd3 hd4 hspot2 hnil2 hnil3 HSEC
  by_cases h16:p4.length=16
  rotate_left
  ·have HF:=aH (O.aKJ HPT.out h16)
   have h16b:((p4.length:Int) != 16)=true:=by rw[bne_iff_ne];omega
   clear HRS HCL HC0 HC1 HD4 HPT HT HX HL
   obtain⟨a0,a1,a2,a3,a4,a5,a6,a7,a8⟩:=HK1.out.cells9
   obtain⟨g0,g1,g2,g3,g4,g5,g6,g7,g8⟩:=HK1.out.free9
   go_wp2
   obtain⟨z0,z1,z2,z3,z4,z5,z6,z7,z8⟩:=(HK1.out.set9 (.string ⟨#[]⟩) (.string ⟨#[]⟩) (.int .i64 0) (.string ⟨#[]⟩) (.int .i64 0) (.slice none 0 0) (.slice none 0 0) (.int .i64 0) (.int .i64 0)).cells9
   unfold nine at z0 z1 z2 z3 z4 z5 z6 z7 z8
   refine bK (v:=.tuple #[.agg #[.string ⟨#[]⟩,.string ⟨#[]⟩,.int .i64 0,.string ⟨#[]⟩,.int .i64 0,.slice none 0 0,.slice none 0 0,.int .i64 0,.int .i64 0],.int .i64 120]) (by simp [results,Tryz.results138,go_sem,z0,z1,z2,z3,z4,z5,z6,z7,z8]) rfl ?_
   exact .inr ⟨HF.out,rfl,aN HB1.out (zA _) _ _ _ _ _ _ _ _ _⟩
  ·have h16b:((p4.length:Int) != 16)=false:=by rw[bne_eq_false_iff_eq];omega
   have HDE:=aH (O.aRW HPT.out h16)
   have HDR:=aH (fun h=>O.aNK HPT.out h)
   obtain⟨b4,o4,rfl,_,_⟩:=HD4.out.2 (by omega)
   have hdA:Rd w0 (some ⟨b4,o4,none⟩) 8 1 (aB (p4.take 8)):=HD4.out.upto (by omega)
   have hdB:Rd w0 (some ⟨b4,o4+8,none⟩) (p4.length - 8) 1 (aB (p4.drop 8)):=HD4.out.from_ (show 8≤p4.length by omega)
   have hlA:(p4.take 8).length=8:=by rw[List.length_take];omega
   have hlB:(p4.drop 8).length=p4.length - 8:=List.length_drop
   have HGA:=aH (fun (u:World) (hu:Below w0.heap.size w0 u)=>show Calls Tryz.prog 174 #[.slice (some ⟨b4,o4,none⟩) 8 c4] u (vX u (.int .i64 (wrap64 (O.val (p4.take 8):Nat)))) from by
    have:=aFP (some ⟨b4,o4,none⟩) c4 (p4.take 8) u (by omega) (by rw[hlA];exact hdA.below hu)
    rwa [hlA]at this)
   have HGB:=aH (fun (u:World) (hu:Below w0.heap.size w0 u)=>show Calls Tryz.prog 174 #[.slice (some ⟨b4,o4+8,none⟩) (p4.length - 8) (c4 - 8)] u (vX u (.int .i64 (wrap64 (O.val (p4.drop 8):Nat)))) from by
    have:=aFP (some ⟨b4,o4+8,none⟩) (c4 - 8) (p4.drop 8) u (by omega) (by rw[hlB];exact hdB.below hu)
    rwa [hlB]at this)
   have hc4a:(8:Int)≤(c4:Int):=by omega
   have hc4b:(8:Int) < (c4:Int):=by omega
   have hfb:F.bulk (P.response p2).fs≤1073741824:=by have:=(P.mW p2).1;omega
   have hrz:(P.response p2).r.size≤1073741824:=by have:=(P.mW p2).2;omega
   generalize wrap64 (O.val (p4.take 8):Nat)=xa at *
   generalize wrap64 (O.val (p4.drop 8):Nat)=xg at *
   obtain⟨RS,hRS⟩:∃ RS,P.response p2=RS:=⟨_,rfl⟩
   rw[hRS]at HRS HDE hfb hrz
   replace HDR:Hid ((RS.e=0→RS.n=(p2.length:Int)→p2.length=0)→O.dec l=none):=aH (fun h=>HDR.out (by rw[hRS];exact h))
   obtain⟨s,r,mi,fs,N,E⟩:=RS
   replace hfb:F.bulk fs≤1073741824:=hfb
   replace hrz:r.size≤1073741824:=hrz
   have HEN:=aH (fun (A1:Option Addr) (c1:Nat) (X:Option Addr) (d:Nat) (u:World) (hu:Below w.heap.size w u) (hf:Rd u A1 fs.length 2 (aJ fs)) (hX:Rd u X p3.length 1 (aB p3))=>jL (B p0) (B p1) s r mi A1 c1 fs X d p3 xa xg u hrz hfb hf hX (HT.out u hu).2.2)
   replace HDE:Hid ((xO (B p0) (B p1) s r mi fs p3.length xa xg=0∧rQ (B p0) (B p1) s r mi fs p3 xa xg=l∧O.dec l=some ⟨B p0,B p1,s,r,mi,fs,p3,xa,xg⟩)∨(¬ (xO (B p0) (B p1) s r mi fs p3.length xa xg=0∧rQ (B p0) (B p1) s r mi fs p3 xa xg=l)∧O.dec l=none)):=HDE
   replace HDR:Hid ((E=0→N=(p2.length:Int)→p2.length=0)→O.dec l=none):=HDR
   generalize xO (B p0) (B p1) s r mi fs p3.length xa xg=OE at *
   generalize rQ (B p0) (B p1) s r mi fs p3 xa xg=OB at *
   have H16:=aH h16
   have h48:(8:Int)≤(p4.length:Int):=by omega
   clear hRS hdA hdB hlA hlB hfb hrz HD4 HPT HT h16
   go_upto_region 4 with fail
   go_wp2_with fail
   refine (HRS.out _ hb01).mono ?_
   rintro e w2 ⟨A1,c1,rfl,hr1,hb2⟩
   have HS2:Hid (aO0 w w0 g pc [.slice D0 p0.length c0,.slice D1 p1.length c1',.slice D2 p2.length c2,.slice D3 p3.length c3,.slice (some ⟨b4,o4,none⟩) p4.length c4] w2.heap.size #[.int .i64 s,.string r,.int .i64 mi,.slice A1 fs.length c1] A1 c1 fs (w2.alloc (.cells #[.int .i64 s,.string r,.int .i64 mi,.slice A1 fs.length c1] 38))):=aH (by
    have q:Below w2.heap.size w2 (w2.alloc (.cells #[.int .i64 s,.string r,.int .i64 mi,.slice A1 fs.length c1] 38)):=(zB _ _).alloc (zA _) _
    exact⟨(HK1.out.below hb2).below q,aA (aA hb01.size hb01 hb2).size (aA hb01.size hb01 hb2) q,(HROW.out.below hb2).below q,Blk.new _ _ _,(hr1.mono hb01.size).below q,aA (aA HB1.out.size HB1.out hb2).size (aA HB1.out.size HB1.out hb2) q⟩)
   have hb5:w0.heap.size≤w2.heap.size:=by have:=hb01.size;have:=hb2.size;omega
   clear HK1 HROW HB1 HRS hr1 hb2 y0 y1 y2 y3 y4 hb01 HL
   go_upto_region 5 with fail
   generalize w2.alloc (.cells #[.int .i64 s,.string r,.int .i64 mi,.slice A1 fs.length c1] 38)=w3 at *
   generalize w2.heap.size=b5 at *
   obtain⟨y0,y1,y2,y3,y4⟩:=HS2.out.2.2.1.five5
   by_cases hE:E=0
   rotate_left
   ·have HF:=aH (HDR.out fun h=>absurd h hE)
    have hEb:(E != 0)=true:=by rw[bne_iff_ne];exact hE
    have HK2:=aH HS2.out.1
    have HB2:=aH HS2.out.2.2.2.2.2
    clear HDE HDR HEN HGA HGB HCL HC0 HC1 HS2 HX
    obtain⟨a0,a1,a2,a3,a4,a5,a6,a7,a8⟩:=HK2.out.cells9
    obtain⟨g0,g1,g2,g3,g4,g5,g6,g7,g8⟩:=HK2.out.free9
    go_wp2
    obtain⟨z0,z1,z2,z3,z4,z5,z6,z7,z8⟩:=(HK2.out.set9 (.string ⟨#[]⟩) (.string ⟨#[]⟩) (.int .i64 0) (.string ⟨#[]⟩) (.int .i64 0) (.slice none 0 0) (.slice none 0 0) (.int .i64 0) (.int .i64 0)).cells9
    unfold nine at z0 z1 z2 z3 z4 z5 z6 z7 z8
    refine bK (v:=.tuple #[.agg #[.string ⟨#[]⟩,.string ⟨#[]⟩,.int .i64 0,.string ⟨#[]⟩,.int .i64 0,.slice none 0 0,.slice none 0 0,.int .i64 0,.int .i64 0],.int .i64 120]) (by simp [results,Tryz.results138,go_sem,z0,z1,z2,z3,z4,z5,z6,z7,z8]) rfl ?_
    exact .inr ⟨HF.out,rfl,aN HB2.out (zA _) _ _ _ _ _ _ _ _ _⟩
   subst hE
   by_cases hN:N=(p2.length:Int)
   rotate_left
   ·have HF:=aH (HDR.out fun _ h=>absurd h hN)
    have hNb:(N != (p2.length:Int))=true:=by rw[bne_iff_ne];exact hN
    have HK2:=aH HS2.out.1
    have HB2:=aH HS2.out.2.2.2.2.2
    clear HDE HDR HEN HGA HGB HCL HC0 HC1 HS2 HX
    obtain⟨a0,a1,a2,a3,a4,a5,a6,a7,a8⟩:=HK2.out.cells9
    obtain⟨g0,g1,g2,g3,g4,g5,g6,g7,g8⟩:=HK2.out.free9
    go_wp2
    obtain⟨z0,z1,z2,z3,z4,z5,z6,z7,z8⟩:=(HK2.out.set9 (.string ⟨#[]⟩) (.string ⟨#[]⟩) (.int .i64 0) (.string ⟨#[]⟩) (.int .i64 0) (.slice none 0 0) (.slice none 0 0) (.int .i64 0) (.int .i64 0)).cells9
    unfold nine at z0 z1 z2 z3 z4 z5 z6 z7 z8
    refine bK (v:=.tuple #[.agg #[.string ⟨#[]⟩,.string ⟨#[]⟩,.int .i64 0,.string ⟨#[]⟩,.int .i64 0,.slice none 0 0,.slice none 0 0,.int .i64 0,.int .i64 0],.int .i64 120]) (by simp [results,Tryz.results138,go_sem,z0,z1,z2,z3,z4,z5,z6,z7,z8]) rfl ?_
    exact .inr ⟨HF.out,rfl,aN HB2.out (zA _) _ _ _ _ _ _ _ _ _⟩
   subst hN
   have hNb:((p2.length:Int) != (p2.length:Int))=false:=by rw[bne_eq_false_iff_eq]
   go_upto_region 7 with fail
   have hS0:aO0 w w0 g pc [.slice D0 p0.length c0,.slice D1 p1.length c1',.slice D2 p2.length c2,.slice D3 p3.length c3,.slice (some ⟨b4,o4,none⟩) p4.length c4] b5 #[.int .i64 s,.string r,.int .i64 mi,.slice A1 fs.length c1] A1 c1 fs w3.drew:=HS2.out.below (zB _ _).drew
   clear HS2 HDR y0 y1 y2 y3 y4 hNb
   refine wp_region_noPanic ?_
   refine HT.begin (n:=15) (S:=(aO0 w w0 g pc [.slice D0 p0.length c0,.slice D1 p1.length c1',.slice D2 p2.length c2,.slice D3 p3.length c3,.slice (some ⟨b4,o4,none⟩) p4.length c4] b5 #[.int .i64 s,.string r,.int .i64 mi,.slice A1 fs.length c1] A1 c1 fs)) (by kernel_rfl) hS0 ?_
   refine HT.take 0 (.slice (some ⟨g,0,none⟩) 5 pc) rfl (by kernel_rfl) (fun _ _ _ h=>h) (Or.inl ⟨by rfl,?_⟩) ?_
   ·intro u hu
    go_simp
   refine HT.take 1 (.pointer (some ⟨g,0,none⟩)) rfl (by kernel_rfl) (fun _ _ _ h=>h) (Or.inl ⟨by rfl,?_⟩) ?_
   ·intro u hu
    go_simp
   refine HT.take 2 (.slice D0 p0.length c0) rfl (by kernel_rfl) (fun _ _ _ h=>h) (Or.inl ⟨by rfl,?_⟩) (?_:HT _ _ _ _ _ _ _ ⟨#[_,_,_,_,_,_,_,_,_,_,_,_,_,_,_,_,_,_,_,_,_,_,_,_,_,_,_,_,_,_,_,_,_,_,_,_,_,_,_,_,_,.slice (some ⟨g,0,none⟩) 5 pc,.pointer (some ⟨g,0,none⟩),.slice D0 p0.length c0,_,_,_,_,_,_,_,_,_,_,_,_,_,_,_,_,_,_,_,_,_,_,_,_,_,_,_,_,_,_,_,_,_,_,_,_,_,_],[]⟩ _)
   ·intro u hu
    obtain⟨y0,y1,y2,y3,y4⟩:=hu.2.2.1.five5
    go_simp
   refine HT.take 3 (.string (B p0)) rfl (by kernel_rfl) (fun _ _ _ h=>h) (Or.inl ⟨by rfl,?_⟩) ?_
   ·intro u hu
    have hcv:=HC0.out u hu.2.1
    go_simp
   refine HT.take 4 (.slice (some ⟨g,0,none⟩) 5 pc) rfl (by kernel_rfl) (fun _ _ _ h=>h) (Or.inl ⟨by rfl,?_⟩) ?_
   ·intro u hu
    go_simp
   refine HT.take 5 (.pointer (some ⟨g,1,none⟩)) rfl (by kernel_rfl) (fun _ _ _ h=>h) (Or.inl ⟨by rfl,?_⟩) (?_:HT _ _ _ _ _ _ _ ⟨#[_,_,_,_,_,_,_,_,_,_,_,_,_,_,_,_,_,_,_,_,_,_,_,_,_,_,_,_,_,_,_,_,_,_,_,_,_,_,_,_,_,.slice (some ⟨g,0,none⟩) 5 pc,.pointer (some ⟨g,0,none⟩),.slice D0 p0.length c0,.string (B p0),.slice (some ⟨g,0,none⟩) 5 pc,.pointer (some ⟨g,1,none⟩),_,_,_,_,_,_,_,_,_,_,_,_,_,_,_,_,_,_,_,_,_,_,_,_,_,_,_,_,_,_,_,_,_,_,_],[]⟩ _)
   ·intro u hu
    go_simp
   refine HT.take 6 (.slice D1 p1.length c1') rfl (by kernel_rfl) (fun _ _ _ h=>h) (Or.inl ⟨by rfl,?_⟩) ?_
   ·intro u hu
    obtain⟨y0,y1,y2,y3,y4⟩:=hu.2.2.1.five5
    go_simp
   refine HT.take 7 (.string (B p1)) rfl (by kernel_rfl) (fun _ _ _ h=>h) (Or.inl ⟨by rfl,?_⟩) ?_
   ·intro u hu
    have hcv:=HC1.out u hu.2.1
    go_simp
   refine HT.take 8 (.agg #[.int .i64 s,.string r,.int .i64 mi,.slice A1 fs.length c1]) rfl (by kernel_rfl) (fun _ _ _ h=>h) (Or.inl ⟨by rfl,?_⟩) (?_:HT _ _ _ _ _ _ _ ⟨#[_,_,_,_,_,_,_,_,_,_,_,_,_,_,_,_,_,_,_,_,_,_,_,_,_,_,_,_,_,_,_,_,_,_,_,_,_,_,_,_,_,.slice (some ⟨g,0,none⟩) 5 pc,.pointer (some ⟨g,0,none⟩),.slice D0 p0.length c0,.string (B p0),.slice (some ⟨g,0,none⟩) 5 pc,.pointer (some ⟨g,1,none⟩),.slice D1 p1.length c1',.string (B p1),.agg #[.int .i64 s,.string r,.int .i64 mi,.slice A1 fs.length c1],_,_,_,_,_,_,_,_,_,_,_,_,_,_,_,_,_,_,_,_,_,_,_,_,_,_,_,_,_,_,_,_],[]⟩ _)
   ·intro u hu
    obtain⟨q0,q1,q2,q3⟩:=hu.2.2.2.1.cells4
    go_simp
   refine HT.take 9 (.slice (some ⟨g,0,none⟩) 5 pc) rfl (by kernel_rfl) (fun _ _ _ h=>h) (Or.inl ⟨by rfl,?_⟩) ?_
   ·intro u hu
    go_simp
   refine HT.take 10 (.pointer (some ⟨g,3,none⟩)) rfl (by kernel_rfl) (fun _ _ _ h=>h) (Or.inl ⟨by rfl,?_⟩) ?_
   ·intro u hu
    go_simp
   refine HT.take 11 (.slice D3 p3.length c3) rfl (by kernel_rfl) (fun _ _ _ h=>h) (Or.inl ⟨by rfl,?_⟩) (?_:HT _ _ _ _ _ _ _ ⟨#[_,_,_,_,_,_,_,_,_,_,_,_,_,_,_,_,_,_,_,_,_,_,_,_,_,_,_,_,_,_,_,_,_,_,_,_,_,_,_,_,_,.slice (some ⟨g,0,none⟩) 5 pc,.pointer (some ⟨g,0,none⟩),.slice D0 p0.length c0,.string (B p0),.slice (some ⟨g,0,none⟩) 5 pc,.pointer (some ⟨g,1,none⟩),.slice D1 p1.length c1',.string (B p1),.agg #[.int .i64 s,.string r,.int .i64 mi,.slice A1 fs.length c1],.slice (some ⟨g,0,none⟩) 5 pc,.pointer (some ⟨g,3,none⟩),.slice D3 p3.length c3,_,_,_,_,_,_,_,_,_,_,_,_,_,_,_,_,_,_,_,_,_,_,_,_,_,_,_,_,_],[]⟩ _)
   ·intro u hu
    obtain⟨y0,y1,y2,y3,y4⟩:=hu.2.2.1.five5
    go_simp
   refine HT.block (f0:=1) [12,13,14] (fun j v u=>match j with | 12=>∃ X d,v=.slice X p3.length d∧Row u w0.heap.size 5 1 X p3.length d (aB p3) | 13=>∃ X d,v=.agg #[.string (B p0),.string (B p1),.int .i64 s,.string r,.int .i64 mi,.slice A1 fs.length c1,.slice X p3.length d,.int .i64 0,.int .i64 0]∧Row u w0.heap.size 5 1 X p3.length d (aB p3) | 14=>aF5 w0.heap.size #[.string ⟨#[]⟩,.string ⟨#[]⟩,.int .i64 0,.string ⟨#[]⟩,.int .i64 0,.slice none 0 0,.slice none 0 0,.int .i64 0,.int .i64 0] 41 v u | _=>True) (fun vs=>⟨#[_,_,_,_,_,_,_,_,vs 14,_,_,_,_,_,_,_,_,_,_,_,_,_,_,_,_,_,_,_,_,_,_,_,_,_,_,_,_,_,_,_,_,.slice (some ⟨g,0,none⟩) 5 pc,.pointer (some ⟨g,0,none⟩),.slice D0 p0.length c0,.string (B p0),.slice (some ⟨g,0,none⟩) 5 pc,.pointer (some ⟨g,1,none⟩),.slice D1 p1.length c1',.string (B p1),.agg #[.int .i64 s,.string r,.int .i64 mi,.slice A1 fs.length c1],.slice (some ⟨g,0,none⟩) 5 pc,.pointer (some ⟨g,3,none⟩),.slice D3 p3.length c3,vs 12,vs 13,_,_,_,_,_,_,_,_,_,_,_,_,_,_,_,_,_,_,_,_,_,_,_,_,_,_,_],[]⟩) (fun _=>rfl) (by kernel_rfl) (fun u u' hb h=>h.below hb) (fun j v u u' hb h=>by revert h;split<;>intro h<;>first | exact h.below hb | (obtain⟨X,d,hv,hr⟩:=h;exact⟨X,d,hv,hr.below hb⟩) | trivial) (List.forall_mem_cons.2 ⟨⟨_,rfl,?_⟩,List.forall_mem_cons.2 ⟨⟨_,rfl,?_⟩,List.forall_mem_cons.2 ⟨⟨_,rfl,?_⟩,fun _ h=>by cases h⟩⟩⟩) ?_
   ·intro vs u hS hd K hK
    go_simp
    refine (HCL.out u hS.2.1).mono ?_
    rintro e w5 ⟨X,d,rfl,hr,hb⟩
    exact hK.out (.slice X p3.length d) _ ⟨X,d,rfl,hr.mono hS.2.1.size⟩ hb
   ·intro vs u hS hd K hK
    obtain⟨X,d,e1,hr1⟩:(fun v u=>∃ X d,v=.slice X p3.length d∧Row u w0.heap.size 5 1 X p3.length d (aB p3)) (vs 12) u:=hd 12 (by simp) (by kernel_rfl)
    have hk:K ⟨#[_,_,_,_,_,_,_,_,vs 14,_,_,_,_,_,_,_,_,_,_,_,_,_,_,_,_,_,_,_,_,_,_,_,_,_,_,_,_,_,_,_,_,.slice (some ⟨g,0,none⟩) 5 pc,.pointer (some ⟨g,0,none⟩),.slice D0 p0.length c0,.string (B p0),.slice (some ⟨g,0,none⟩) 5 pc,.pointer (some ⟨g,1,none⟩),.slice D1 p1.length c1',.string (B p1),.agg #[.int .i64 s,.string r,.int .i64 mi,.slice A1 fs.length c1],.slice (some ⟨g,0,none⟩) 5 pc,.pointer (some ⟨g,3,none⟩),.slice D3 p3.length c3,vs 12,.agg #[.string (B p0),.string (B p1),.int .i64 s,.string r,.int .i64 mi,.slice A1 fs.length c1,.slice X p3.length d,.int .i64 0,.int .i64 0],_,_,_,_,_,_,_,_,_,_,_,_,_,_,_,_,_,_,_,_,_,_,_,_,_,_,_],[]⟩ u:=hK.out (.agg #[.string (B p0),.string (B p1),.int .i64 s,.string r,.int .i64 mi,.slice A1 fs.length c1,.slice X p3.length d,.int .i64 0,.int .i64 0]) _ ⟨X,d,rfl,hr1⟩ (zB _ _)
    rw[e1]at hk
    clear hd hK hr1
    go_simp
    exact hk
   ·intro vs u hS hd K hK
    go_simp
    exact hK.out (.pointer (some ⟨u.heap.size,0,none⟩)) _ ⟨_,rfl,hS.2.1.size,Blk.new u _ _⟩ ((zB _ _).alloc (zA _) _)
   intro vs u hS hR
   have hv53:=hR 12 (by simp)
   generalize vs 12=v53 at *
   have hv54:=hR 13 (by simp)
   generalize vs 13=v54 at *
   have hv8:=hR 14 (by simp)
   generalize vs 14=v8 at *
   clear hR
   refine (?_:HT _ _ _ _ _ _ _ ⟨#[_,_,_,_,_,_,_,_,v8,_,_,_,_,_,_,_,_,_,_,_,_,_,_,_,_,_,_,_,_,_,_,_,_,_,_,_,_,_,_,_,_,.slice (some ⟨g,0,none⟩) 5 pc,.pointer (some ⟨g,0,none⟩),.slice D0 p0.length c0,.string (B p0),.slice (some ⟨g,0,none⟩) 5 pc,.pointer (some ⟨g,1,none⟩),.slice D1 p1.length c1',.string (B p1),.agg #[.int .i64 s,.string r,.int .i64 mi,.slice A1 fs.length c1],.slice (some ⟨g,0,none⟩) 5 pc,.pointer (some ⟨g,3,none⟩),.slice D3 p3.length c3,v53,v54,_,_,_,_,_,_,_,_,_,_,_,_,_,_,_,_,_,_,_,_,_,_,_,_,_,_,_],[]⟩ _)
   clear hv53
   obtain⟨X,d,rfl,hrX⟩:=hv54
   obtain⟨b8,rfl,hb8,hk8⟩:=hv8
   refine HT.tail _ rfl rfl (by kernel_rfl) (fun hS=>?_)
   have hne8:b8≠w.heap.size:=by have:=HZ0.out;omega
   have hne5:b8≠b5:=fun h=>by
    have h1:=hS.2.2.2.1
    rw[← h]at h1
    unfold Blk at h1 hk8
    rw[hk8]at h1
    exact neER (by injection h1 with h1;injection h1)
   have HS5:Hid (aO0 w w0 g pc [.slice D0 p0.length c0,.slice D1 p1.length c1',.slice D2 p2.length c2,.slice D3 p3.length c3,.slice (some ⟨b4,o4,none⟩) p4.length c4] b5 #[.int .i64 s,.string r,.int .i64 mi,.slice A1 fs.length c1] A1 c1 fs (((((((((u.setCell ⟨b8,0,none⟩ (.string (B p0))).setCell ⟨b8,1,none⟩ (.string (B p1))).setCell ⟨b8,2,none⟩ (.int .i64 s)).setCell ⟨b8,3,none⟩ (.string r)).setCell ⟨b8,4,none⟩ (.int .i64 mi)).setCell ⟨b8,5,none⟩ (.slice A1 fs.length c1)).setCell ⟨b8,6,none⟩ (.slice X p3.length d)).setCell ⟨b8,7,none⟩ (.int .i64 0)).setCell ⟨b8,8,none⟩ (.int .i64 0))):=aH ⟨hS.1.far9 hne8 (.string (B p0)) (.string (B p1)) (.int .i64 s) (.string r) (.int .i64 mi) (.slice A1 fs.length c1) (.slice X p3.length d) (.int .i64 0) (.int .i64 0),aN hS.2.1 hb8 (.string (B p0)) (.string (B p1)) (.int .i64 s) (.string r) (.int .i64 mi) (.slice A1 fs.length c1) (.slice X p3.length d) (.int .i64 0) (.int .i64 0),hS.2.2.1.farT9 hk8 neES (.string (B p0)) (.string (B p1)) (.int .i64 s) (.string r) (.int .i64 mi) (.slice A1 fs.length c1) (.slice X p3.length d) (.int .i64 0) (.int .i64 0),hS.2.2.2.1.far9 hne5 (.string (B p0)) (.string (B p1)) (.int .i64 s) (.string r) (.int .i64 mi) (.slice A1 fs.length c1) (.slice X p3.length d) (.int .i64 0) (.int .i64 0),hS.2.2.2.2.1.farT9 hk8 aOK (.string (B p0)) (.string (B p1)) (.int .i64 s) (.string r) (.int .i64 mi) (.slice A1 fs.length c1) (.slice X p3.length d) (.int .i64 0) (.int .i64 0),aN hS.2.2.2.2.2 (show w.heap.size≤b8 by have:=HZ0.out;omega) (.string (B p0)) (.string (B p1)) (.int .i64 s) (.string r) (.int .i64 mi) (.slice A1 fs.length c1) (.slice X p3.length d) (.int .i64 0) (.int .i64 0)⟩
   have HK8:Hid (Blk (((((((((u.setCell ⟨b8,0,none⟩ (.string (B p0))).setCell ⟨b8,1,none⟩ (.string (B p1))).setCell ⟨b8,2,none⟩ (.int .i64 s)).setCell ⟨b8,3,none⟩ (.string r)).setCell ⟨b8,4,none⟩ (.int .i64 mi)).setCell ⟨b8,5,none⟩ (.slice A1 fs.length c1)).setCell ⟨b8,6,none⟩ (.slice X p3.length d)).setCell ⟨b8,7,none⟩ (.int .i64 0)).setCell ⟨b8,8,none⟩ (.int .i64 0)) b8 #[.string (B p0),.string (B p1),.int .i64 s,.string r,.int .i64 mi,.slice A1 fs.length c1,.slice X p3.length d,.int .i64 0,.int .i64 0] 41):=aH (hk8.set9 (.string (B p0)) (.string (B p1)) (.int .i64 s) (.string r) (.int .i64 mi) (.slice A1 fs.length c1) (.slice X p3.length d) (.int .i64 0) (.int .i64 0))
   have HX8:Hid (Row (((((((((u.setCell ⟨b8,0,none⟩ (.string (B p0))).setCell ⟨b8,1,none⟩ (.string (B p1))).setCell ⟨b8,2,none⟩ (.int .i64 s)).setCell ⟨b8,3,none⟩ (.string r)).setCell ⟨b8,4,none⟩ (.int .i64 mi)).setCell ⟨b8,5,none⟩ (.slice A1 fs.length c1)).setCell ⟨b8,6,none⟩ (.slice X p3.length d)).setCell ⟨b8,7,none⟩ (.int .i64 0)).setCell ⟨b8,8,none⟩ (.int .i64 0)) w0.heap.size 5 1 X p3.length d (aB p3)):=aH (hrX.farT9 hk8 aOJ (.string (B p0)) (.string (B p1)) (.int .i64 s) (.string r) (.int .i64 mi) (.slice A1 fs.length c1) (.slice X p3.length d) (.int .i64 0) (.int .i64 0))
   obtain⟨q0,q1,q2,q3,q4,q5,q6,q7,q8⟩:=hk8.cells9
   obtain⟨f0,f1,f2,f3,f4,f5,f6,f7,f8⟩:=hk8.free9
   clear hS hrX hk8 HCL HC0 HC1 hS0
   go_wp2
   refine NoPanic.normal ?_
   clear q0 f0 q1 f1 q2 f2 q3 f3 q4 f4 q5 f5 q6 f6 q7 f7 q8 f8
   generalize (((((((((u.setCell ⟨b8,0,none⟩ (.string (B p0))).setCell ⟨b8,1,none⟩ (.string (B p1))).setCell ⟨b8,2,none⟩ (.int .i64 s)).setCell ⟨b8,3,none⟩ (.string r)).setCell ⟨b8,4,none⟩ (.int .i64 mi)).setCell ⟨b8,5,none⟩ (.slice A1 fs.length c1)).setCell ⟨b8,6,none⟩ (.slice X p3.length d)).setCell ⟨b8,7,none⟩ (.int .i64 0)).setCell ⟨b8,8,none⟩ (.int .i64 0))=w5 at *
   obtain⟨y0,y1,y2,y3,y4⟩:=HS5.out.2.2.1.five5
   obtain⟨q0,q1,q2,q3,q4,q5,q6,q7,q8⟩:=HK8.out.cells9
   obtain⟨f0,f1,f2,f3,f4,f5,f6,f7,f8⟩:=HK8.out.free9
   go_wp2_with fail
   refine (HGA.out _ HS5.out.2.1).mono ?_
   rintro e w6 ⟨rfl,rfl⟩
   have hw6:Below w0.heap.size w0 (w5.setCell ⟨b8,7,none⟩ (.int .i64 xa)):=aK HS5.out.2.1 hb8 7 _
   have HK9:Hid (Blk (w5.setCell ⟨b8,7,none⟩ (.int .i64 xa)) b8 #[.string (B p0),.string (B p1),.int .i64 s,.string r,.int .i64 mi,.slice A1 fs.length c1,.slice X p3.length d,.int .i64 xa,.int .i64 0] 41):=aH (HK8.out.set 7 (.int .i64 xa))
   obtain⟨u0,u1,u2,u3,u4⟩:=(HS5.out.2.2.1.farT HK8.out neES 7 (.int .i64 xa)).five5
   obtain⟨k0,k1,k2,k3,k4,k5,k6,k7,k8⟩:=HK9.out.free9
   have HW6:=aH hw6
   clear hw6
   go_wp2_with fail
   refine (HGB.out _ HW6.out).mono ?_
   rintro e w7 ⟨rfl,rfl⟩
   have HK7:Hid (Blk ((w5.setCell ⟨b8,7,none⟩ (.int .i64 xa)).setCell ⟨b8,8,none⟩ (.int .i64 xg)) b8 #[.string (B p0),.string (B p1),.int .i64 s,.string r,.int .i64 mi,.slice A1 fs.length c1,.slice X p3.length d,.int .i64 xa,.int .i64 xg] 41):=aH (HK9.out.set 8 (.int .i64 xg))
   have HS7:Hid (aO0 w w0 g pc [.slice D0 p0.length c0,.slice D1 p1.length c1',.slice D2 p2.length c2,.slice D3 p3.length c3,.slice (some ⟨b4,o4,none⟩) p4.length c4] b5 #[.int .i64 s,.string r,.int .i64 mi,.slice A1 fs.length c1] A1 c1 fs ((w5.setCell ⟨b8,7,none⟩ (.int .i64 xa)).setCell ⟨b8,8,none⟩ (.int .i64 xg))):=aH ⟨(HS5.out.1.far 7 _ hne8).far 8 _ hne8,aK HW6.out hb8 8 _,(HS5.out.2.2.1.farT HK8.out neES 7 _).farT HK9.out neES 8 _,(HS5.out.2.2.2.1.far 7 _ hne5).far 8 _ hne5,(HS5.out.2.2.2.2.1.farT HK8.out aOK 7 _).farT HK9.out aOK 8 _,aK (aK HS5.out.2.2.2.2.2 (show w.heap.size≤b8 by have:=HZ0.out;omega) 7 _) (show w.heap.size≤b8 by have:=HZ0.out;omega) 8 _⟩
   have HX7:Hid (Row ((w5.setCell ⟨b8,7,none⟩ (.int .i64 xa)).setCell ⟨b8,8,none⟩ (.int .i64 xg)) w0.heap.size 5 1 X p3.length d (aB p3)):=aH ((HX8.out.farT HK8.out aOJ 7 _).farT HK9.out aOJ 8 _)
   go_upto_region 10 with fail
   clear y0 y1 y2 y3 y4 u0 u1 u2 u3 u4 q0 f0 k0 q1 f1 k1 q2 f2 k2 q3 f3 k3 q4 f4 k4 q5 f5 k5 q6 f6 k6 q7 f7 k7 q8 f8 k8 HGA HGB HS5 HK8 HX8 HK9 HW6
   generalize ((w5.setCell ⟨b8,7,none⟩ (.int .i64 xa)).setCell ⟨b8,8,none⟩ (.int .i64 xg))=w8 at *
   obtain⟨q0,q1,q2,q3,q4,q5,q6,q7,q8⟩:=HK7.out.cells9
   go_wp2_with fail
   refine (HEN.out A1 c1 X d _ HS7.out.2.2.2.2.2 HS7.out.2.2.2.2.1.rd HX7.out.rd).mono ?_
   rintro e w9 ⟨A9,c9,rfl,hr9,hb9⟩
   have HS9:=aH (HS7.out.below hb9)
   have HK9:=aH (HK7.out.below hb9)
   have HX9:=aH (HX7.out.below hb9)
   have HR9:=aH hr9.rd
   have HEQ:=aH (aH3 A9 A OB.length c9 l.length c OB l w9 hr9.rd (HX.out.below HS9.out.2.2.2.2.2))
   clear q0 q1 q2 q3 q4 q5 q6 q7 q8 HS7 HK7 HX7 hr9 hb9 HEN
   obtain⟨q0,q1,q2,q3,q4,q5,q6,q7,q8⟩:=HK9.out.cells9
   go_upto_region 11 with fail
   have HK2:=aH HS9.out.1
   have HB2:=aH HS9.out.2.2.2.2.2
   rcases HDE.out with ⟨h0,h1,h2⟩ | ⟨h0,h2⟩
   ·subst h0
    have h1d:decide (OB=l)=true:=decide_eq_true h1
    rw[h1d]at HEQ
    have HF:=aH h2
    clear HDE h1 h2 h1d
    go_upto_region 11 with fail
    go_wp2_with fail
    refine HEQ.out.mono ?_
    rintro e w10 ⟨rfl,rfl⟩
    obtain⟨a0,a1,a2,a3,a4,a5,a6,a7,a8⟩:=HK2.out.cells9
    obtain⟨g0,g1,g2,g3,g4,g5,g6,g7,g8⟩:=HK2.out.free9
    go_wp2
    obtain⟨z0,z1,z2,z3,z4,z5,z6,z7,z8⟩:=(HK2.out.set9 (.string (B p0)) (.string (B p1)) (.int .i64 s) (.string r) (.int .i64 mi) (.slice A1 fs.length c1) (.slice X p3.length d) (.int .i64 xa) (.int .i64 xg)).cells9
    unfold nine at z0 z1 z2 z3 z4 z5 z6 z7 z8
    refine bK (v:=.tuple #[.agg #[.string (B p0),.string (B p1),.int .i64 s,.string r,.int .i64 mi,.slice A1 fs.length c1,.slice X p3.length d,.int .i64 xa,.int .i64 xg],.int .i64 0]) (by simp [results,Tryz.results138,go_sem,z0,z1,z2,z3,z4,z5,z6,z7,z8]) rfl ?_
    exact .inl ⟨_,A1,c1,X,d,HF.out,rfl,(HS9.out.2.2.2.2.1.farT9 HK2.out aOK _ _ _ _ _ _ _ _ _).mono (by have:=HZ0.out;omega),(HX9.out.farT9 HK2.out aOJ _ _ _ _ _ _ _ _ _).mono (by have:=HZ0.out;omega),aN HB2.out (zA _) _ _ _ _ _ _ _ _ _⟩
   ·have HF:=aH h2
    by_cases hOE:OE=0
    ·subst hOE
     have h1d:decide (OB=l)=false:=decide_eq_false fun h=>h0 ⟨rfl,h⟩
     rw[h1d]at HEQ
     clear HDE h0 h2 h1d q0 q1 q2 q3 q4 q5 q6 q7 q8
     go_wp2_with fail
     refine HEQ.out.mono ?_
     rintro e w10 ⟨rfl,rfl⟩
     obtain⟨a0,a1,a2,a3,a4,a5,a6,a7,a8⟩:=HK2.out.cells9
     obtain⟨g0,g1,g2,g3,g4,g5,g6,g7,g8⟩:=HK2.out.free9
     go_wp2
     obtain⟨z0,z1,z2,z3,z4,z5,z6,z7,z8⟩:=(HK2.out.set9 (.string ⟨#[]⟩) (.string ⟨#[]⟩) (.int .i64 0) (.string ⟨#[]⟩) (.int .i64 0) (.slice none 0 0) (.slice none 0 0) (.int .i64 0) (.int .i64 0)).cells9
     unfold nine at z0 z1 z2 z3 z4 z5 z6 z7 z8
     refine bK (v:=.tuple #[.agg #[.string ⟨#[]⟩,.string ⟨#[]⟩,.int .i64 0,.string ⟨#[]⟩,.int .i64 0,.slice none 0 0,.slice none 0 0,.int .i64 0,.int .i64 0],.int .i64 120]) (by simp [results,Tryz.results138,go_sem,z0,z1,z2,z3,z4,z5,z6,z7,z8]) rfl ?_
     exact .inr ⟨HF.out,rfl,aN HB2.out (zA _) _ _ _ _ _ _ _ _ _⟩
    ·have hOb:(OE != 0)=true:=by rw[bne_iff_ne];exact hOE
     clear HDE h0 h2 q0 q1 q2 q3 q4 q5 q6 q7 q8 HEQ
     obtain⟨a0,a1,a2,a3,a4,a5,a6,a7,a8⟩:=HK2.out.cells9
     obtain⟨g0,g1,g2,g3,g4,g5,g6,g7,g8⟩:=HK2.out.free9
     go_wp2
     obtain⟨z0,z1,z2,z3,z4,z5,z6,z7,z8⟩:=(HK2.out.set9 (.string ⟨#[]⟩) (.string ⟨#[]⟩) (.int .i64 0) (.string ⟨#[]⟩) (.int .i64 0) (.slice none 0 0) (.slice none 0 0) (.int .i64 0) (.int .i64 0)).cells9
     unfold nine at z0 z1 z2 z3 z4 z5 z6 z7 z8
     refine bK (v:=.tuple #[.agg #[.string ⟨#[]⟩,.string ⟨#[]⟩,.int .i64 0,.string ⟨#[]⟩,.int .i64 0,.slice none 0 0,.slice none 0 0,.int .i64 0,.int .i64 0],.int .i64 120]) (by simp [results,Tryz.results138,go_sem,z0,z1,z2,z3,z4,z5,z6,z7,z8]) rfl ?_
     exact .inr ⟨HF.out,rfl,aN HB2.out (zA _) _ _ _ _ _ _ _ _ _⟩
end Go.Proofs.YthjeglnkgdpijaaGreatDoor
