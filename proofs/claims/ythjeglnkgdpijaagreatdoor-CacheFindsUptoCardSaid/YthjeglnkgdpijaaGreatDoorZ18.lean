/- The walks of the library's IndexFunc and DeleteFunc over texts, at any function value that answers a predicate and makes new memory alone. The walks of the Cache laws' cut and feeds. The walk of vary.Matches. Conditions: as each theorem states them. -/
import Derived.Test.YthjeglnkgdpijaaGreatDoorZ07
set_option maxHeartbeats 2000000
set_option maxRecDepth 100000
namespace Go.Proofs.YthjeglnkgdpijaaGreatDoor
open Go Go.RowKit
structure aR8 (g:Nat) (lb:Array Value) (p:ByteArray→Bool) (ok:ByteArray→Prop) (I:World→Prop) (gb:Option Nat):Prop where
 enter:∀ args w,(callFunc g args).run Tryz.prog w=.ok (.enter g args) w
 call:∀ x w,ok x→I w→Calls Tryz.prog g (#[.string x]++lb) w (qP w (p x))
 new:∀ w w',I w→Below w.heap.size w w'→I w'
 set:∀ w b i v,gb=some b→I w→I (w.setCell ⟨b,i,none⟩ v)
section
variable {g:Nat} {lb:Array Value} {p:ByteArray→Bool} {ok:ByteArray→Prop} {I:World→Prop} {gb:Option Nat} {α:Type}
def aSH (p:α→Bool) (l:List α) (r:Int):Prop:=(r=-1∧∀ x∈l,p x=false)∨∃ (k:Nat) (h:k < l.length),r=k∧p l[k]=true∧∀ x∈l.take k,p x=false
theorem aHC (A:Option Addr) (n c:Nat) (xs:List ByteArray) (w:World) (hn:n≤1099511627776) (hl:xs.length=n) (hok:∀ x∈xs,ok x) (H:aR8 g lb p ok I gb) (hI:I w) (hx:Rd w A n 1 (aF xs)) :
  Calls Tryz.prog 87 #[.slice A n c,.func (.func g) #[] lb] w (fun e w'=>∃ r:Int,e=.returned (.int .i64 r)∧aSH p xs r∧Below w.heap.size w w'):=by
 have HL:=aH hl
 have HOK:=aH hok
 have HC:=aH H.call
 have HNW:=aH H.new
 have HI:=aH hI
 have eg:=H.enter
 clear hl hok H hI
 go_enter Tryz.func87,Tryz.ntmps87
 go_wp2
 go_loopw [5,8] (fun _ i wr=>∃ k:Nat,k≤n∧i=.int .i64 k∧(∀ x∈xs.take k,p x=false)∧Below w.heap.size w wr) (fun _ i _=>n - (intOf i).toNat)
 case atStart=>exact⟨0,zF _,rfl,by simp,zB _ _⟩
 case round =>
  obtain⟨k,hk,rfl,ha,hbel⟩:=hrel
  have HA:=aH ha
  have HB:=aH hbel
  clear ha
  by_cases hlt:k < n
  ·have hkl:k < xs.length:=by rw[HL.out];exact hlt
   obtain⟨b,o,rfl,hb,cx⟩:=(hx.below hbel).str hlt HL.out
   have hcc:=HC.out (xs[k]'hkl) wr (HOK.out _ (List.getElem_mem hkl)) (HNW.out _ _ HI.out hbel)
   obtain⟨x,hxk⟩:∃ x,x=xs[k]'hkl:=⟨_,rfl⟩
   rw[← hxk]at cx hcc
   have HK:=aH hxk
   clear hxk hbel
   obtain⟨t,ht⟩:∃ t,p x=t:=⟨_,rfl⟩
   rw[ht]at hcc
   have HT:=aH ht
   clear ht
   cases t with
   | true =>
    go_wp2_with (go_at_fn g;refine hcc.mono ?_;rintro e w1 ⟨rfl,hb1⟩)
    go_ret
    exact⟨k,rfl,.inr ⟨k,hkl,rfl,by rw[← HK.out];exact HT.out,HA.out⟩,pK HB.out hb1⟩
   | false =>
    go_wp2_with (go_at_fn g;refine hcc.mono ?_;rintro e w1 ⟨rfl,hb1⟩;have HB1:=aH (pK HB.out hb1))
    go_roundw
    case rel =>
     refine⟨k+1,by omega,by go_num,?_,HB1.out⟩
     intro y hy
     rw[bI hkl]at hy
     rcases List.mem_append.1 hy with hy | hy
     ·exact HA.out y hy
     ·rw[List.mem_singleton.1 hy,← HK.out];exact HT.out
    case measure=>simp [intOf];omega
  ·have hall:∀ x∈xs,p x=false:=by
    have:=HA.out
    rw[List.take_of_length_le (by rw[HL.out];omega)]at this
    exact this
   have HALL:=aH hall
   clear hall
   go_wp2
   go_ret
   exact⟨-1,rfl,.inl ⟨rfl,HALL.out⟩,hbel⟩
theorem aDD (l:List ByteArray) (i:Nat):(aF l).take i=aF (l.take i):=by
 unfold aF
 rw[List.map_take]
theorem aGH (l:List ByteArray) (i:Nat) (x:ByteArray):(aF l).set i (.string x)=aF (l.set i x):=by
 unfold aF
 rw[List.map_set]
theorem aRY {w:World} {base g n c i:Nat} {xs:List ByteArray} (h:w.ownsRow base 9 1 (.slice (some ⟨g,0,none⟩) n c) n (aF xs)) (hi:i < n) :
  ∃ W,(∀ ty,(Builtin.clear_ #[55] ty #[.slice (some ⟨g,i,none⟩) (n - i) (c - i)]).run Tryz.prog w=.ok (.tuple #[]) W)∧Row W base 9 1 (some ⟨g,0,none⟩) i c (aF (xs.take i))∧w.grownBy W (some g):=by
 rcases h.2 with ⟨h',_⟩ | ⟨g',cap,cur,hv,hb,hg,hnc,hcm,hcs,ht⟩
 ·cases h'
 ·cases hv
  have hz:∀ w:World,(zeroValue 9).run Tryz.prog w=.ok (.string ⟨#[]⟩) w:=Tryz.zeroValue9
  have hzs:(Builtin.zeroCells #[.string ⟨#[]⟩] (n - i)).size=n - i:=by simp [Builtin.zeroCells]
  have hz1:∀ v∈(Builtin.zeroCells #[.string ⟨#[]⟩] (n - i)).toList,v.oneCell'=true:=by
   intro v hv
   simp only[Builtin.zeroCells,Array.toList_map,List.mem_map]at hv
   obtain⟨j,_,rfl⟩:=hv
   show Value.oneCell' (#[Value.string ⟨#[]⟩][j % 1]!)=true
   rw[Nat.mod_one]
   rfl
  have hst:=run_storeCells_at Tryz.prog g i 9 (Builtin.zeroCells #[.string ⟨#[]⟩] (n - i)).toList 0 cur w hg (by rw[Array.length_toList,hzs];omega) hz1
  generalize hnew:(List.take (i+0) cur.toList++(Builtin.zeroCells #[.string ⟨#[]⟩] (n - i)).toList++List.drop (i+0+(Builtin.zeroCells #[.string ⟨#[]⟩] (n - i)).toList.length) cur.toList).toArray=new at hst
  have hs1:new.size=c * 1:=by
   rw[← hnew]
   simp only[List.size_toArray,bC,List.length_take,List.length_drop,Array.length_toList,hzs]
   omega
  have hs2:new.toList.take (i * 1)=aF (xs.take i):=by
   rw[Nat.mul_one]at ht ⊢
   rw[← hnew,Nat.add_zero,List.toList_toArray,List.append_assoc,List.take_append_of_le_length (by simp;omega),List.take_take,Nat.min_self,← aDD,← ht,List.take_take,Nat.min_eq_left (by omega)]
  have hs3:(aF (xs.take i)).length=i * 1:=by
   have:=h.1
   unfold aF at this ⊢
   rw[List.length_map]at this ⊢
   rw[List.length_take]
   omega
  refine⟨w.setRow g new,fun ty=>?_,.inl ⟨hs3,.inr ⟨g,c,new,rfl,hb,setRow_heap w g cur _ _ _ hg,by omega,hcm,hs1,hs2⟩⟩,⟨rfl,rfl,rfl,by simp,fun k hk hne=>setRow_other w g k _ (fun e=>hne (by rw[e]))⟩⟩
  have hni:n - i≠0:=by omega
  obtain⟨q,hq⟩:∃ q,n - i=q+1:=⟨n - i - 1,by omega⟩
  rw[hq]at hst ⊢
  simp [Builtin.clear_,run_underlying Tryz.underlying55,hz,Value.cells,hst]
structure aLL (p:α→Bool) (fs xs:List α) (i j:Nat):Prop where
 len:xs.length=fs.length
 lt:i < j
 le:j≤fs.length
 front:xs.take i=(fs.take j).filter fun f=>!p f
 back:xs.drop j=fs.drop j
theorem aLL.at_ {p:α→Bool} {fs xs:List α} {i j:Nat} (h:aLL p fs xs i j) (hj:j < fs.length):∃ hx:j < xs.length,xs[j]=fs[j]:=by
 have hx:j < xs.length:=by rw[h.len];exact hj
 refine⟨hx,?_⟩
 have:=h.back
 rw[List.drop_eq_getElem_cons hx,List.drop_eq_getElem_cons hj]at this
 injection this
theorem aLL.skip {p:α→Bool} {fs xs:List α} {i j:Nat} (h:aLL p fs xs i j) (hj:j < fs.length) (hp:p fs[j]=true):aLL p fs xs i (j+1):=by
 obtain⟨h1,h2,h3,h4,h5⟩:=h
 refine⟨h1,by omega,by omega,?_,?_⟩
 ·rw[F.fJ _ _ _ hj,if_neg (by simp [hp]),List.append_nil];exact h4
 ·rw[← List.drop_drop,← List.drop_drop,h5]
theorem aLL.move {p:α→Bool} {fs xs:List α} {i j:Nat} (h:aLL p fs xs i j) (hj:j < fs.length) (hp:p fs[j]=false):aLL p fs (xs.set i fs[j]) (i+1) (j+1):=by
 obtain⟨h1,h2,h3,h4,h5⟩:=h
 have hi:i < xs.length:=by omega
 refine⟨by simpa using h1,by omega,by omega,?_,?_⟩
 ·rw[F.fJ _ _ _ hj,if_pos (by simp [hp]),← h4,bI (by simpa using hi)]
  simp [List.take_set_of_le]
 ·rw[List.drop_set_of_lt (by omega),← List.drop_drop,← List.drop_drop,h5]
theorem uV (base:Nat) (A:Option Addr) (n c:Nat) (xs:List ByteArray) (w:World) (hn:n≤1099511627776) (hok:∀ x∈xs,ok x) (H:aR8 g lb p ok I (ownB A c)) (hI:I w) (hr:Row w base 9 1 A n c (aF xs)) :
  Calls Tryz.prog 43 #[.slice A n c,.func (.func g) #[] lb] w (fun e w'=>∃ A',e=.returned (.slice A' (xs.filter fun x=>!p x).length c)∧Row w' base 9 1 A' (xs.filter fun x=>!p x).length c (aF (xs.filter fun x=>!p x))∧w.grownBy w' (ownB A c)):=by
 have hcap:=hr.cap
 have hl:xs.length=n:=by
  have:=hr.rd.1
  unfold aF at this
  rw[List.length_map]at this
  omega
 have HX:=aH (aHC A n c xs w hn hl hok H hI hr.rd)
 have HL:=aH hl
 have HOK:=aH hok
 have HH:=aH H
 have HI:=aH hI
 clear hl hok H hI
 go_enter Tryz.func43,Tryz.ntmps43
 go_wp2_with fail
 refine HX.out.mono ?_
 rintro e w1 ⟨r,rfl,hat,hb1⟩
 have hr1:=hr.below hb1
 have hg1:w.grownBy w1 (ownB A c):=⟨hb1.os,hb1.tape,hb1.output,hb1.size,fun k hk _=>hb1.block k hk⟩
 have HI1:=aH (HH.out.new _ _ HI.out hb1)
 have HG1:=aH hg1
 clear HX hr hb1 hg1
 rcases hat with ⟨rfl,hall⟩ | ⟨i0,hi0,rfl,hp0,hbef⟩
 ·have hk:(xs.filter fun x=>!p x)=xs:=List.filter_eq_self.2 (fun x hx=>by simp [hall x hx])
  have HK:=aH hk
  clear hk hall
  go_wp2
  go_ret
  exact⟨A,by rw[HK.out,HL.out];rfl,by rw[HK.out,HL.out];exact hr1,HG1.out⟩
 ·have hin:i0 < n:=by rw[← HL.out];exact hi0
  rcases hr1 with hr1 | ⟨h0,_,_⟩
  case inr=>omega
  have hM0:aLL p xs xs i0 (i0+1):=by
   refine⟨rfl,by omega,by omega,?_,rfl⟩
   rw[F.fJ _ _ _ hi0,if_neg (by simp [hp0]),List.append_nil]
   exact (List.filter_eq_self.2 (fun x hx=>by simp [hbef x hx])).symm
  have HM0:=aH hM0
  obtain⟨ga,cap,hga,hbase,hlt⟩:=hr1.form (by omega)
  cases hga
  have hown:ownB (some ⟨ga,0,none⟩) c=some ga:=by unfold ownB;rw[if_neg (by omega)];rfl
  rw[hown]at HG1 HH
  have HOW:=aH hown
  have eg:=HH.out.enter
  have hne:((i0:Int)==-1)=false:=by rw[beq_eq_false_iff_ne];omega
  clear hp0 hbef hM0 hown
  go_wp2
  go_loopw [5,6,7] (fun i j _ wr=>∃ (a b:Nat) (ys:List ByteArray),i=.int .i64 a∧j=.int .i64 b∧b≤n∧a < b∧aLL p xs ys a b∧wr.ownsRow base 9 1 (.slice (some ⟨ga,0,none⟩) n c) n (aF ys)∧w1.grownBy wr (some ga)∧I wr) (fun _ j _ _=>n - (intOf j).toNat)
  case atStart=>exact⟨i0,i0+1,xs,rfl,by go_num,by omega,by omega,HM0.out,hr1,World.grownBy.refl _ _,HI1.out⟩
  case round =>
   clear hr1
   obtain⟨a,b,ys,rfl,rfl,hbn,hab,hmv,hrow,hbel,hIr⟩:=hrel
   have HMV:=aH hmv
   have HGR:=aH hbel
   have HIR:=aH hIr
   clear hmv hbel hIr
   by_cases hltb:b < n
   ·have hbl:b < xs.length:=by rw[HL.out];exact hltb
    obtain⟨hxl,hxe⟩:=HMV.out.at_ hbl
    have hal:a < ys.length:=by omega
    have hylen:ys.length=n:=by rw[HMV.out.len,HL.out]
    have cb:=hrow.cellAt b (by omega)
    have e1:(aF ys)[b]?=some (.string (xs[b]'hbl)):=by rw[← hxe];unfold aF;rw[List.getElem?_map,List.getElem?_eq_getElem hxl];rfl
    have e2:(aF ys)[a]?=some (.string (ys[a]'hal)):=by unfold aF;rw[List.getElem?_map,List.getElem?_eq_getElem hal];rfl
    rw[e1]at cb
    obtain⟨ya,hya⟩:∃ ya,ys[a]'hal=ya:=⟨_,rfl⟩
    rw[hya]at e2
    have hskip:=fun h=>HMV.out.skip hbl h
    have hmove:=fun h=>HMV.out.move hbl h
    have hcc:=HH.out.call (xs[b]'hbl) wr (HOK.out _ (List.getElem_mem hbl)) HIR.out
    obtain⟨x,hxk⟩:∃ x,x=xs[b]'hbl:=⟨_,rfl⟩
    rw[← hxk]at cb hskip hmove hcc
    have HE2:=aH e2
    clear hxk e1 hxe e2 hya
    have HSK:=aH hskip
    have HMO:=aH hmove
    clear hskip hmove
    obtain⟨t,ht⟩:∃ t,p x=t:=⟨_,rfl⟩
    rw[ht]at hcc HSK HMO
    have HRW:=aH hrow
    clear ht hrow
    cases t with
    | true =>
     have HS:=aH (HSK.out rfl)
     clear HSK HMO
     go_wp2_with (go_at_fn g;refine hcc.mono ?_;rintro e w2 ⟨rfl,hb2⟩;have hg2:wr.grownBy w2 none:=⟨hb2.os,hb2.tape,hb2.output,hb2.size,fun k hk _=>hb2.block k hk⟩;have HR2:=aH (HRW.out.kept hg2 (by simp [Value.ownBlock]));have HG2:=aH (HGR.out.trans (hg2.but (some ga)));have HI2:=aH (HH.out.new _ _ HIR.out hb2);clear hg2)
     go_roundw
     case rel=>exact⟨a,b+1,ys,rfl,by go_num,by omega,by omega,HS.out,HR2.out,HG2.out,HI2.out⟩
     case measure=>simp [intOf];omega
    | false =>
     have HS:=aH (HMO.out rfl)
     clear HSK HMO
     go_wp2_with (go_at_fn g;refine hcc.mono ?_;rintro e w2 ⟨rfl,hb2⟩;have hg2:wr.grownBy w2 none:=⟨hb2.os,hb2.tape,hb2.output,hb2.size,fun k hk _=>hb2.block k hk⟩;have hr2:=HRW.out.kept hg2 (by simp [Value.ownBlock]);have HG2:=aH (HGR.out.trans (hg2.but (some ga)));have HI2:=aH (HH.out.new _ _ HIR.out hb2);have ca:=hr2.cellAt a (by omega);rw[HE2.out]at ca;have fa:=hr2.frozenAt a;have hst:=hr2.stored a (.string x);have HST:=aH hst.2;have hrw:=hst.1;rw[aGH]at hrw;have HRW2:=aH hrw;clear hg2 hr2 hst hrw)
     go_roundw
     case rel =>
      exact⟨a+1,b+1,_,by go_num,by go_num,by omega,by omega,HS.out,HRW2.out,HG2.out.trans (aT _ _ _ _),HH.out.set _ _ _ _ rfl HI2.out⟩
     case measure=>simp [intOf];omega
   ·have hbn':b=xs.length:=by rw[HL.out];omega
    have hxt:ys.take a=xs.filter fun x=>!p x:=by
     have:=HMV.out.front
     rw[hbn',List.take_length]at this
     exact this
    have hal:(xs.filter fun x=>!p x).length=a:=by
     rw[← hxt,List.length_take,HMV.out.len];omega
    have han:a < n:=by omega
    obtain⟨W,hcl,hrW,hgW⟩:=aRY hrow han
    rw[hxt]at hrW
    have HAL:=aH hal
    have HRW:=aH hrW
    have HGW:=aH hgW
    have hca:¬ c=a:=by omega
    have hca2:¬ (c:Int)=(a:Int):=by omega
    have hac:(a:Int)≤(n:Int):=by omega
    have han2:a≤n:=by omega
    have hac2:a≤c:=by omega
    clear hbn' hxt hal hrow hrW hgW
    go_wp2
    go_ret
    refine⟨some ⟨ga,0,none⟩,by rw[HAL.out];rfl,by rw[HAL.out];exact HRW.out,?_⟩
    rw[HOW.out]
    exact (HG1.out.trans HGR.out).trans HGW.out
end
theorem aG9 (A:Option Addr) (n c:Nat) (w:World) (hc:n≤c) :
  Calls Tryz.prog 8 #[.slice A n c] w (fun e w'=>e=.returned (.slice A (min n 50) c)∧w'=w):=by
 by_cases h:n > 50
 ·have hm:min n 50=50:=by omega
  have h1:(n:Int) > 50:=by omega
  have h2:(50:Int)≤(c:Int):=by omega
  have h3:50≤c:=by omega
  rw[hm]
  go_enter Tryz.func8,Tryz.ntmps8
  go_wp2
  go_ret
  exact⟨rfl,rfl⟩
 ·have hm:min n 50=n:=by omega
  have h1:¬ (n:Int) > 50:=by omega
  rw[hm]
  go_enter Tryz.func8,Tryz.ntmps8
  go_wp2
  go_ret
  exact⟨rfl,rfl⟩
theorem rd_q {w:World} {A:Option Addr} {n k:Nat} {l:List SQ} (h:Rd w A n 12 (eG l)) (hk:k < l.length) (hl:l.length=n) :
  ∃ b o,A=some ⟨b,o,none⟩∧b < w.heap.size∧∀ j v,((l[k]'hk).c)[j]?=some v→w.cell? ⟨b,o+k * 12+j,none⟩=some v:=by
 obtain⟨b,o,rfl,hlt,hc⟩:=h.2 (by omega)
 refine⟨b,o,rfl,hlt,fun j v hv=>?_⟩
 have hj:j < 12:=(List.getElem?_eq_some_iff.1 hv).1
 have:=hc (k * 12+j) v ((oG l k j hk hj).trans hv)
 rwa [← Nat.add_assoc]at this
def yP (s:ByteArray):Prop:=(10:UInt8) ∉ L s
theorem aJC {s:ByteArray} (h:∀ j (hj:j < s.size),(s[j]'hj)≠10):yP s:=fun hm=>by
 obtain⟨j,hj,e⟩:=List.getElem_of_mem hm
 exact h j (by rw[aS];exact hj) e
theorem aMI {s t:ByteArray} (h:yP (s++t)):yP s∧yP t:=by
 unfold yP at *
 rw[dG,List.mem_append]at h
 exact⟨fun hm=>h (.inl hm),fun hm=>h (.inr hm)⟩
theorem aKC (A:Option Addr) (n c:Nat) (l:List SQ) (key:ByteArray) (w:World) (hl:l.length=n) (hn:n≤100) (hx:Rd w A n 12 (eG l)) (hs:∀ q∈l,q.p.E.k.size+q.key.size≤1099511627776) (hk:key.size≤1099511627776) :
  Calls Tryz.prog 9 #[.slice A n c,.string key] w (fun e w'=>∃ t,e=.returned (.bool t)∧Below w.heap.size w w'∧(t=false→(∀ q∈l,yP q.p.E.k∧yP q.key)∧yP key)):=by
 have HL:=aH hl
 have HX:=aH hx
 have HS:=aH hs
 clear hl hx hs
 go_enter Tryz.func9,Tryz.ntmps9
 go_wp2
 go_loopw [5,6,7] (fun i _ _ wr=>∃ k:Nat,k≤n∧i=.int .i64 k∧(∀ q∈l.take k,yP q.p.E.k∧yP q.key)∧Below w.heap.size w wr) (fun i _ _ _=>n - (intOf i).toNat)
 case atStart=>exact⟨0,zF _,rfl,(fun _ h=>by cases h),zB _ _⟩
 case round =>
  obtain⟨k,hkn,rfl,hno,hbe⟩:=hrel
  have HNO:=aH hno
  have HBE:=aH hbe
  clear hno hbe
  obtain⟨wo,rfl⟩:∃ wo:World,wo=wr:=⟨_,rfl⟩
  by_cases hlt:k < n
  ·have hki:k < l.length:=by rw[HL.out];exact hlt
   have h100:(k:Int) < 100:=by omega
   obtain⟨b,o,rfl,hb,hat⟩:=rd_q (HX.out.below HBE.out) hki HL.out
   have hsz:=HS.out _ (List.getElem_mem hki)
   have HTK:Hid (l.take (k+1)=l.take k++[l[k]'hki]):=aH (bI hki)
   obtain⟨q,hq⟩:∃ q,l[k]'hki=q:=⟨_,rfl⟩
   rw[hq]at hat hsz HTK
   have y1:=hat 1 _ rfl
   have y10:=hat 10 _ rfl
   clear hat hq
   obtain⟨s1,hs1⟩:∃ s1,q.p.E.k=s1:=⟨_,rfl⟩
   obtain⟨s2,hs2⟩:∃ s2,q.key=s2:=⟨_,rfl⟩
   rw[hs1]at y1 hsz
   rw[hs2]at y10 hsz
   have H1:=aH hs1
   have H2:=aH hs2
   clear hs1 hs2
   have hcat:¬ 9223372036854775807 < s1.size+s2.size:=by omega
   obtain⟨s,hs⟩:∃ s,s1++s2=s:=⟨_,rfl⟩
   have hss:s.size=s1.size+s2.size:=by rw[← hs];exact ByteArray.size_append
   have HSS:=aH hs
   clear hs
   go_upto_region 4 with fail
   go_region
   rw[HSS.out]
   go_wp2
   go_loopw [7] (fun j wr=>∃ m:Nat,m≤s.size∧j=.int .i64 m∧(∀ i (h:i < s.size),i < m→(s[i]'h)≠10)∧Below w.heap.size w wr) (fun j _=>s.size - (intOf j).toNat)
   case atStart=>exact⟨0,zF _,rfl,fun i _ h=>absurd h (by omega),HBE.out.drew⟩
   case round =>
    obtain⟨m,hm,rfl,hno2,hbe2⟩:=hrel
    have HN2:=aH hno2
    have HB2:=aH hbe2
    clear hno2 hbe2
    by_cases hml:m < s.size
    ·by_cases h10:(s[m]'hml)=10
     ·have g:=gV (y:=10) h10
      replace g:(((s[m]'hml).toNat:Int)==10)=true:=g
      have HG:=aH h10
      clear h10
      go_wp2
      go_ret
      exact⟨true,rfl,HB2.out,fun h=>by cases h⟩
     ·have g:=fK (y:=10) h10
      replace g:(((s[m]'hml).toNat:Int)==10)=false:=g
      have HG:=aH h10
      clear h10
      go_wp2
      go_roundw
      case rel=>exact⟨m+1,hml,by go_num,fun i hi him=>by
       by_cases e:i=m
       ·subst e;exact HG.out
       ·exact HN2.out i hi (by omega),HB2.out⟩
      case measure=>simp [intOf];omega
    ·go_wp2
     go_roundw
     case rel=>exact⟨k+1,by omega,by go_num,by
      rw[HTK.out]
      intro q' hq'
      rcases List.mem_append.1 hq' with h | h
      ·exact HNO.out q' h
      ·rw[List.mem_singleton.1 h,H1.out,H2.out]
       refine aMI ?_
       rw[HSS.out]
       exact aJC fun j hj=>HN2.out j hj (by omega),HB2.out⟩
     case measure=>simp [intOf];omega
  ·have hkn2:k=n:=by omega
   subst hkn2
   have HL2:Hid (∀ q∈l,yP q.p.E.k∧yP q.key):=aH (by
    have:=HNO.out
    rwa [← HL.out,List.take_length]at this)
   go_wp2
   go_loopw [8] (fun j wr=>∃ m:Nat,m≤key.size∧j=.int .i64 m∧(∀ i (h:i < key.size),i < m→(key[i]'h)≠10)∧Below w.heap.size w wr) (fun j _=>key.size - (intOf j).toNat)
   case atStart=>exact⟨0,zF _,rfl,fun i _ h=>absurd h (by omega),HBE.out⟩
   case round =>
    obtain⟨m,hm,rfl,hno2,hbe2⟩:=hrel
    have HN2:=aH hno2
    have HB2:=aH hbe2
    clear hno2 hbe2
    by_cases hml:m < key.size
    ·by_cases h10:(key[m]'hml)=10
     ·have g:=gV (y:=10) h10
      replace g:(((key[m]'hml).toNat:Int)==10)=true:=g
      have HG:=aH h10
      clear h10
      go_wp2
      go_ret
      exact⟨true,rfl,HB2.out,fun h=>by cases h⟩
     ·have g:=fK (y:=10) h10
      replace g:(((key[m]'hml).toNat:Int)==10)=false:=g
      have HG:=aH h10
      clear h10
      go_wp2
      go_roundw
      case rel=>exact⟨m+1,hml,by go_num,fun i hi him=>by
       by_cases e:i=m
       ·subst e;exact HG.out
       ·exact HN2.out i hi (by omega),HB2.out⟩
      case measure=>simp [intOf];omega
    ·go_wp2
     go_ret
     exact⟨false,rfl,HB2.out,fun _=>⟨HL2.out,aJC fun j hj=>HN2.out j hj (by omega)⟩⟩
def V.matches (E:O.Ent) (ask:List FD):Bool:=match V.names E.fs with
 | none=>false
 | some l=>decide (B (V.key l ask)=E.v)
structure V.Fits (fs ask:List FD):Prop where
 n:fs.length≤1099511627776
 f:qQ fs
 t:(F.tokens fs V.vary).length≤1099511627776
 ny:ask.length≤1099511627776
 fa:qQ ask
 l:∀ l,V.names fs=some l→l.length≤1099511627776∧(∀ x∈l,x.size≤1099511627776∧(V.elems ask x).length≤1099511627776)∧(V.key l ask).length≤70368744177664
theorem uI (p:EP) (Y:Option Addr) (cy:Nat) (ask:List FD) (w:World) (h:ERd w p) (hy:Rd w Y ask.length 2 (aJ ask)) (hs:V.Fits p.E.fs ask) :
  Calls Tryz.prog 15 #[p.v,.slice Y ask.length cy] w (qP w (V.matches p.E ask)):=by
 obtain⟨w0,hw0⟩:∃ w0,w.alloc (.cells #[.string p.E.k,.string p.E.v,.int .i64 p.E.s,.string p.E.r,.int .i64 p.E.m,.slice p.A p.E.fs.length p.c,.slice p.X p.E.body.length p.d,.int .i64 p.E.asked,.int .i64 p.E.got] 41)=w0:=⟨_,rfl⟩
 have hb0:Below w.heap.size w w0:=by rw[← hw0];exact (zB _ _).alloc (zA _) _
 have hk0:=Blk.new w #[.string p.E.k,.string p.E.v,.int .i64 p.E.s,.string p.E.r,.int .i64 p.E.m,.slice p.A p.E.fs.length p.c,.slice p.X p.E.body.length p.d,.int .i64 p.E.asked,.int .i64 p.E.got] 41
 rw[hw0]at hk0
 have HN:=aH (aJE p.A p.E.fs.length p.c p.E.fs w0 hs.n rfl hs.f hs.t (h.1.below hb0))
 obtain⟨x0,x1,x2,x3,x4,x5,x6,x7,x8⟩:=hk0.cells9
 have HB0:=aH hb0
 have HK0:=aH hk0
 have HY:=aH (hy.below hb0)
 have HS:=aH hs
 clear hb0 hk0 h hy hs
 unfold EP.v lW
 go_enter Tryz.func15,Tryz.ntmps15
 go_wp2_with fail
 clear x0 x1 x2 x3 x4 x5 x6 x7 x8 hw0
 refine HN.out.mono ?_
 rintro e w1 ⟨hb1,hm⟩
 have HB1:=aH (aA HB0.out.size HB0.out hb1)
 have HK1:=aH (HK0.out.below hb1)
 have HY1:=aH (HY.out.below hb1)
 have HZ0:=aH hb1.size
 cases hv:V.names p.E.fs with
 | none =>
  rw[hv]at hm
  have hm2:e=_:=hm
  subst hm2
  have HV:Hid (V.matches p.E ask=false):=aH (by unfold V.matches;rw[hv])
  clear hm hv hb1 HN HB0 HK0 HY HS
  go_upto_region 2 with fail
  have hS0:Below w1.heap.size w1 w1.drew:=(zB _ _).drew
  refine wp_region_noPanic ?_
  refine HT.begin (n:=8) (S:=(fun u=>Below w1.heap.size w1 u)) (by kernel_rfl) hS0 ?_
  generalize w1.drew=w2 at *
  refine HT.take 0 (.bool false) rfl (by kernel_rfl) (fun _ _ _ h=>h) (Or.inl ⟨by rfl,?_⟩) ?_
  ·intro u hu
   go_simp
  refine HT.take 1 (.bool false) rfl (by kernel_rfl) (fun _ _ _ h=>h) (Or.inl ⟨by rfl,?_⟩) ?_
  ·intro u hu
   go_simp
  refine HT.take 2 undef rfl (by kernel_rfl) (fun _ _ _ h=>h) (Or.inr ⟨by rfl,rfl⟩) ?_
  refine HT.take 3 undef rfl (by kernel_rfl) (fun _ _ _ h=>h) (Or.inr ⟨by rfl,rfl⟩) ?_
  refine HT.take 4 undef rfl (by kernel_rfl) (fun _ _ _ h=>h) (Or.inr ⟨by rfl,rfl⟩) ?_
  refine HT.take 5 undef rfl (by kernel_rfl) (fun _ _ _ h=>h) (Or.inr ⟨by rfl,rfl⟩) ?_
  refine HT.take 6 undef rfl (by kernel_rfl) (fun _ _ _ h=>h) (Or.inr ⟨by rfl,rfl⟩) ?_
  refine HT.take 7 undef rfl (by kernel_rfl) (fun _ _ _ h=>h) (Or.inr ⟨by rfl,rfl⟩) (?_:HT _ _ _ _ _ _ _ ⟨#[_,_,_,_,_,_,_,_,_,_,_,_,_,_,.bool false,.bool false,undef,undef,undef,undef,undef,undef,_],[]⟩ _)
  refine HT.tail _ rfl rfl (by kernel_rfl) (fun hS=>?_)
  have HB2:=aH (aA (bD HB1.out.size (zA _)) HB1.out hS)
  clear hS hS0
  go_wp2
  refine NoPanic.normal ?_
  go_wp2
  go_ret
  exact⟨aQ HV.out.symm,HB2.out⟩
 | some l =>
  rw[hv]at hm
  obtain⟨A,c,rfl,hr⟩:=hm
  obtain⟨hl1,hl2,hl3⟩:=HS.out.l l hv
  have HKY:=aH (fun u (hu:Below w1.heap.size w1 u)=>aP3 A Y l.length c ask.length cy l ask u (hr.rd.below hu) (HY1.out.below hu) hl1 HS.out.ny rfl HS.out.fa (fun x hx=>(hl2 x hx).1) (fun x hx=>(hl2 x hx).2) hl3)
  obtain⟨kb,hkb⟩:∃ kb,B (V.key l ask)=kb:=⟨_,rfl⟩
  rw[hkb]at HKY
  obtain⟨bq,hbq⟩:∃ bq,decide (kb=p.E.v)=bq:=⟨_,rfl⟩
  have HV:Hid (V.matches p.E ask=bq):=aH (by unfold V.matches;rw[hv];show decide (B (V.key l ask)=p.E.v)=bq;rw[hkb,hbq])
  obtain⟨vb,hvb⟩:∃ vb,p.E.v=vb:=⟨_,rfl⟩
  have hcmp:(kb.toList==vb.toList)=bq:=by rw[← hbq,hvb,bM]
  rw[hvb]at HK1
  clear hv hb1 HN HB0 HK0 HY HS hr hl1 hl2 hl3 hkb hbq hvb
  go_upto_region 2 with fail
  have hS0:Below w1.heap.size w1 w1.drew:=(zB _ _).drew
  refine wp_region_noPanic ?_
  refine HT.begin (n:=8) (S:=(fun u=>Below w1.heap.size w1 u)) (by kernel_rfl) hS0 ?_
  generalize w1.drew=w2 at *
  refine HT.take 0 (.bool true) rfl (by kernel_rfl) (fun _ _ _ h=>h) (Or.inl ⟨by rfl,?_⟩) ?_
  ·intro u hu
   go_simp
  refine HT.take 1 (.bool true) rfl (by kernel_rfl) (fun _ _ _ h=>h) (Or.inl ⟨by rfl,?_⟩) ?_
  ·intro u hu
   go_simp
  refine HT.take 2 (.slice A l.length c) rfl (by kernel_rfl) (fun _ _ _ h=>h) (Or.inl ⟨by rfl,?_⟩) ?_
  ·intro u hu
   go_simp
  refine HT.take 3 (.slice Y ask.length cy) rfl (by kernel_rfl) (fun _ _ _ h=>h) (Or.inl ⟨by rfl,?_⟩) ?_
  ·intro u hu
   go_simp
  refine HT.take 5 (.pointer (some ⟨w.heap.size,1,none⟩)) rfl (by kernel_rfl) (fun _ _ _ h=>h) (Or.inl ⟨by rfl,?_⟩) ?_
  ·intro u hu
   go_simp
  refine HT.take 6 (.string vb) rfl (by kernel_rfl) (fun _ _ _ h=>h) (Or.inl ⟨by rfl,?_⟩) (?_:HT _ _ _ _ _ _ _ ⟨#[_,_,_,_,_,_,_,_,_,_,_,_,_,_,.bool true,.bool true,.slice A l.length c,.slice Y ask.length cy,_,.pointer (some ⟨w.heap.size,1,none⟩),.string vb,_,_],[]⟩ _)
  ·intro u hu
   have y1:=(HK1.out.below hu).cell 1 rfl
   go_simp
  refine HT.step 4 rfl (by kernel_rfl) (fun hS K hK=>?_)
  go_simp
  refine (HKY.out _ hS).mono ?_
  rintro e w3 ⟨rfl,hb3⟩
  refine hK.out _ _ (aA hS.size hS hb3) ?_
  clear hK hS hb3
  refine HT.take 7 (.bool bq) rfl (by kernel_rfl) (fun _ _ _ h=>h) (Or.inl ⟨by rfl,?_⟩) (?_:HT _ _ _ _ _ _ _ ⟨#[_,_,_,_,_,_,_,_,_,_,_,_,_,_,.bool true,.bool true,.slice A l.length c,.slice Y ask.length cy,.string kb,.pointer (some ⟨w.heap.size,1,none⟩),.string vb,.bool bq,_],[]⟩ _)
  ·intro u hu
   go_simp
  refine HT.tail _ rfl rfl (by kernel_rfl) (fun hS=>?_)
  have HB2:=aH (aA HB1.out.size HB1.out hS)
  clear hS hS0
  go_wp2
  refine NoPanic.normal ?_
  go_wp2
  go_ret
  exact⟨aQ HV.out.symm,HB2.out⟩
end Go.Proofs.YthjeglnkgdpijaaGreatDoor
