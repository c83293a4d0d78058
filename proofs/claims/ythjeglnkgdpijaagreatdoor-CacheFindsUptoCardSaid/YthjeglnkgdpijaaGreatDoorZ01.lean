/- A text's bytes appended to a list of bytes that the call owns: both ways. The walks of rec's word and Encode. The walks of the store's hexPair and Path. How far a store's steps take its disk. Conditions: as each theorem states them. -/
import Derived.Test.YthjeglnkgdpijaaGreatDoorZ35
set_option maxHeartbeats 4000000
set_option maxRecDepth 100000
namespace Go.Proofs.YthjeglnkgdpijaaGreatDoor
open Go Go.RowKit
theorem tC (s:ByteArray):(Array.map (fun b:UInt8=>Value.int IntKind.u8 (b.toNat:Int)) s.data)=(aB (L s)).toArray:=by
 apply Array.ext'
 simp [aB,L]
theorem extract_all (s:ByteArray):(Array.map (fun b:UInt8=>Value.int IntKind.u8 (b.toNat:Int)) s.data).extract 0 s.size=(aB (L s)).toArray:=by
 rw[← tC]
 have hs:s.size=(Array.map (fun b:UInt8=>Value.int IntKind.u8 (b.toNat:Int)) s.data).size:=by rw[Array.size_map];rfl
 rw[hs,Array.extract_size]
section
variable {P:Program} (w:World)
theorem aGK (t u ty e:TypeId) (i:TypeInfo) (z:Value) (ht:P.underlying t=some (.slice e)) (hu:P.underlying u=some .string) (hi:P.info? e=some i) (hz:i.zero=some z)
  (hsize:i.size=1) (hby:i.bytes=1) (hzs:z.cells.size=1) (hE:e=5)
  (base g n c:Nat) (bs:List UInt8) (hc0:c≠0) (hown:bZ w base (some ⟨g,0,none⟩) n c bs)
  (s:ByteArray) (h63:n+s.size≤4398046511104) (hbase:base≤w.heap.size) :
  ∃ A' c' w',(Builtin.append_ #[t,u] ty #[.slice (some ⟨g,0,none⟩) n c,.string s]).run P w=.ok (.slice A' (n+s.size) c') w'∧bZ w' base A' (n+s.size) c' (bs++L s)∧App w w' (some ⟨g,0,none⟩) c A' c':=by
 obtain⟨hl,hnc,hcase⟩:=hown
 rcases hcase with h | ⟨g2,hg2,hB,hg,hf,hcl⟩
 ·exact absurd h hc0
 have hgg:g2=g:=by
  injection hg2 with h
  injection h with h
  exact h.symm
 subst hgg
 have hnl:(aB (L s)).length=s.size:=by rw[gG,aS]
 have hLs:(L s).length=s.size:=(aS s).symm
 by_cases hroom:n+s.size≤c
 ·have hst:=run_storeCells_cells (P:=P) g2 n (aB (L s)) 0 w (fun j hj=>by simp at hj ⊢;exact (hf _ (by omega)).1) (fun j hj=>by simp at hj ⊢;exact (hf _ (by omega)).2) (lF _)
  simp only[Nat.add_zero]at hst
  have hrun:(Builtin.append_ #[t,u] ty #[.slice (some ⟨g2,0,none⟩) n c,.string s]).run P w=.ok (.slice (some ⟨g2,0,none⟩) (n+s.size) c) (w.setCells g2 n (aB (L s))):=by
   have hx:=extract_all s
   simp [Builtin.append_,run_underlying ht,run_underlying hu,sizeOf,typeInfo,hi,hsize,Builtin.lenOf,Builtin.firstCells,hroom,Addr.add_lit,hx,hst]
  have hsome:∀ j,j < (aB (L s)).length→(w.cell? ⟨g2,n+j,none⟩).isSome=true:=fun j hj=>(hf _ (by omega)).1
  have hsz:∀ (vs:List Value) (o:Nat) (u:World),(u.setCells g2 o vs).heap.size=u.heap.size:=by
   intro vs
   induction vs with
   | nil=>intro o u;rfl
   | cons v vs ih =>
    intro o u
    show ((u.setCell ⟨g2,o,none⟩ v).setCells g2 (o+1) vs).heap.size=_
    rw[ih]
    simp [World.setCell]
  have hoth:∀ (vs:List Value) (o:Nat) (u:World) (k:Nat),k≠g2→(u.setCells g2 o vs).heap[k]?=u.heap[k]?:=by
   intro vs
   induction vs with
   | nil=>intro o u k _;rfl
   | cons v vs ih =>
    intro o u k hk
    show ((u.setCell ⟨g2,o,none⟩ v).setCells g2 (o+1) vs).heap[k]?=_
    rw[ih _ _ k hk]
    unfold World.setCell
    simp only[Array.getElem?_modify]
    rw[if_neg (Ne.symm hk)]
  refine⟨_,c,_,hrun,⟨by rw[bC,hl,hLs],hroom,.inr ⟨g2,rfl,hB,by rw[hsz];exact hg,fun j hj=>⟨?_,?_⟩,fun j u hu=>?_⟩⟩,⟨?_,.inl ⟨rfl,rfl⟩⟩⟩
  ·by_cases hin:n≤j∧j < n+(aB (L s)).length
   ·have:=World.cell?_setCells_in g2 (aB (L s)) n w hsome (j - n) (by omega)
    rw[show n+(j - n)=j from by omega]at this
    rw[this];rfl
   ·rw[World.cell?_setCells_out g2 (aB (L s)) n w ⟨g2,j,none⟩ (fun _ _=>by simp only;omega)]
    exact (hf j hj).1
  ·rw[World.frozen?_setCells];exact (hf j hj).2
  ·have e:aB (bs++L s)=aB bs++aB (L s):=fD bs (L s)
   rw[e]at hu
   have hbl:(aB bs).length=n:=by simp [aB,hl]
   by_cases hin:j < n
   ·rw[List.getElem?_append_left (by omega)]at hu
    rw[World.cell?_setCells_out g2 (aB (L s)) n w ⟨g2,j,none⟩ (fun _ _=>by simp only;omega)]
    exact hcl j u hu
   ·rw[List.getElem?_append_right (by omega),hbl]at hu
    have hj:=(List.getElem?_eq_some_iff.1 hu).1
    have:=World.cell?_setCells_in g2 (aB (L s)) n w hsome (j - n) hj
    rw[show n+(j - n)=j from by omega]at this
    rw[this,← (List.getElem?_eq_some_iff.1 hu).2]
  ·have hob:ownB (some ⟨g2,0,none⟩) c=some g2:=by unfold ownB;rw[if_neg hc0];rfl
   rw[hob]
   have hfl:∀ (vs:List Value) (o:Nat) (u:World),(u.setCells g2 o vs).os=u.os∧(u.setCells g2 o vs).tape=u.tape∧(u.setCells g2 o vs).output=u.output:=by
    intro vs
    induction vs with
    | nil=>intro o u;exact⟨rfl,rfl,rfl⟩
    | cons v vs ih =>
     intro o u
     have:=ih (o+1) (u.setCell ⟨g2,o,none⟩ v)
     exact⟨this.1,this.2.1,this.2.2⟩
   exact⟨(hfl _ _ _).1,(hfl _ _ _).2.1,(hfl _ _ _).2.2,by rw[hsz];exact zA _,fun k _ hne=>hoth _ _ _ k (fun e=>hne (by rw[e]))⟩
 ·have hn:¬ (n+s.size≤c):=hroom
  have h63':¬ (9223372036854775807 < ((n:Int)+(s.size:Int))):=by omega
  have hfit:Builtin.nextslicecap (n+s.size) c * i.bytes≤281474976710656:=growslice_fits (by omega) (by rw[hby];omega)
  have h48':¬ (281474976710656 < Builtin.nextslicecap (n+s.size) c * i.bytes):=by omega
  have hfo:=run_firstCells_some (P:=P) w.drew i.size n ⟨g2,0,none⟩ n c (aB bs) (by rw[hsize,gG,hl,Nat.mul_one]) (fun j v hv=>by
   have:(⟨g2,0,none⟩:Addr).add j=⟨g2,0+j,none⟩:=by unfold Addr.add;split<;>simp_all
   rw[this,Nat.zero_add]
   simpa using hcl j v hv)
  have hge:=grownCap_ge w (n+s.size) c e
  have hcm:grownCap w (n+s.size) c e≤maxLen:=grownCap_le_maxLen w (n+s.size) c e (by simp only[maxLen];omega)
  obtain⟨cs,hcs⟩:∃ cs,cs=(aB bs++aB (L s)).toArray++Builtin.zeroCells z.cells (grownCap w (n+s.size) c e - (n+s.size)):=⟨_,rfl⟩
  have hrun:(Builtin.append_ #[t,u] ty #[.slice (some ⟨g2,0,none⟩) n c,.string s]).run P w=.ok (.slice (some ⟨w.heap.size,0,none⟩) (n+s.size) (grownCap w (n+s.size) c e)) (w.drew.alloc (.cells cs e)):=by
   have hx:=extract_all s
   simp [Builtin.append_,run_underlying ht,run_underlying hu,sizeOf,typeInfo,zeroValue,hi,hz,Builtin.lenOf,hn,h63',h48',Question.forced,hfo,newRow,grownCap]
   simp [Builtin.firstCells,hcs,grownCap,tC]
   rw[← Array.append_assoc,show (aB bs).toArray++(aB (L s)).toArray=(aB bs++aB (L s)).toArray by simp]
  have hrow:(w.drew.alloc (.cells cs e)).heap[w.heap.size]?=some (.cells cs e (0,0)):=heap_alloc_new w.drew _
  have hl2:(aB bs++aB (L s)).length=n+s.size:=by rw[bC,gG,hl,hnl]
  have hcsz:cs.size=grownCap w (n+s.size) c e:=by
   rw[hcs,Array.size_append,List.size_toArray,size_zeroCells,hzs,hl2]
   omega
  have hown:(w.drew.alloc (.cells cs e)).ownsRow w.heap.size e 1 (.slice (some ⟨w.heap.size,0,none⟩) (n+s.size) (grownCap w (n+s.size) c e)) (n+s.size) (aB bs++aB (L s)):=by
   refine⟨by rw[hl2,Nat.mul_one],.inr ⟨w.heap.size,_,_,rfl,zA _,hrow,hge,hcm,by rw[hcsz,Nat.mul_one],?_⟩⟩
   rw[hcs,Array.toList_append,Nat.mul_one]
   have h9:(aB bs++aB (L s)).toArray.toList.length=n+s.size:=by simpa using hl2
   rw[← h9]
   exact List.take_left
  subst hE
  have hgr:World.grownBy w (w.drew.alloc (.cells cs 5)) (ownB (some ⟨g2,0,none⟩) c):=⟨rfl,rfl,rfl,by simp,fun k hk _=>Below.heap_alloc w.drew _ k hk⟩
  refine⟨_,_,_,hrun,(Row.crow (.inl ?_)).mono hbase,⟨hgr,.inr ⟨_,rfl,zA _⟩⟩⟩
  rw[fD]
  exact hown
end
section
variable (w:World) {ops:Array Oper} {rest:List Oper} {o:Oper} {a:Act} {K:Act→World→Prop} {Q:Exit→Act→World→Prop}
theorem Tryz.undStr:Tryz.prog.underlying 9=some .string:=by kernel_rfl
theorem aOR (hgd:o.guard=none) (s x:Operand) (ho:o.op=.call { callee:=.builtin .append,args:=#[s,x],argTypes:=#[39,9] })
  (base g n c:Nat) (xs:List UInt8) (hs:a.eval s=.slice (some ⟨g,0,none⟩) n c) (hc0:c≠0) (hown:bZ w base (some ⟨g,0,none⟩) n c xs)
  (str:ByteArray) (hx:a.eval x=.string str) (h63:n+str.size≤4398046511104) (hbase:base≤w.heap.size)
  (h:∀ A' c' w',bZ w' base A' (n+str.size) c' (xs++L str)→App w w' (some ⟨g,0,none⟩) c A' c'→wpList Tryz.prog ops Q rest (a.put o.dst (.slice A' (n+str.size) c')) w'):wpList Tryz.prog ops Q (o::rest) a w :=
 wpList_plain hgd fun K hK=>by
  obtain⟨i0,hi0,hz0,hz1,hz2⟩:=info_parts Tryz.infoB
  obtain⟨A',c',w',hrun,h2,h3⟩:=aGK (P:=Tryz.prog) w 39 9 o.type 5 i0 _ Tryz.underlying39 Tryz.undStr hi0 hz0 hz1 hz2 rfl rfl base g n c xs hc0 hown str h63 hbase
  unfold Oper.wp execOp
  simp only[ho,resolve,invoke,builtin,Sem.run_bind,Sem.run_pure,Result.andThen_ok,List.map_toArray,List.map_cons,List.map_nil,hs,hx,hrun]
  exact hK _ _ (h A' c' w' h2 h3)
end
end Go.Proofs.YthjeglnkgdpijaaGreatDoor
namespace Go.Proofs.YthjeglnkgdpijaaGreatDoor
open Go.RowKit
theorem aLN (v:Int) (w:World):Calls Tryz.prog 139 #[.int .i64 v] w (qP w (R.word v)):=by
 by_cases h0:0≤v
 ·by_cases h1:v≤4294967295
  ·rw[show R.word v=true from decide_eq_true ⟨h0,h1⟩]
   go_enter Tryz.func139,Tryz.ntmps139
   go_wp2
   go_ret
   exact⟨rfl,zB _ _⟩
  ·rw[show R.word v=false from decide_eq_false fun h=>h1 h.2]
   go_enter Tryz.func139,Tryz.ntmps139
   go_wp2
   go_ret
   exact⟨rfl,zB _ _⟩
 ·rw[show R.word v=false from decide_eq_false fun h=>h0 h.1]
  go_enter Tryz.func139,Tryz.ntmps139
  go_wp2
  go_ret
  exact⟨rfl,zB _ _⟩
namespace R
theorem aQE {r:Rc} (h:¬ (r.op=1∨r.op=2)):code r=100:=by
 unfold code
 rw[if_neg]
 simp at h ⊢
 intro h1 h2
 exact absurd (h1.elim h.1 h.2) id
theorem aNP {r:Rc} (h:word r.seq=false):code r=100:=by
 unfold code
 rw[if_neg (by rw[h];simp)]
theorem aQF {r:Rc} (h:word r.no=false):code r=100:=by
 unfold code
 rw[if_neg (by rw[h];simp)]
theorem aKR {r:Rc} (h1:r.op=1∨r.op=2) (h2:word r.seq=true) (h3:word r.no=true):code r=if r.id.size≤4096 then 0 else 101:=by
 unfold code
 rw[if_pos (by rw[h2,h3];rcases h1 with h | h<;>simp [h])]
theorem aKG {r:Rc} (h:code r≠0):enc r=[]:=if_neg h
theorem enc_good {r:Rc} (h:code r=0):enc r=body r++beN (iP (body r)) 4:=if_pos h
theorem aAB (r:Rc) (h:code r=0):(enc r).length=r.id.size+15:=by
 rw[enc_good h]
 unfold body
 simp only[bC,List.length_cons,aP]
 have:(L r.id).length=r.id.size:=(aS r.id).symm
 omega
end R
theorem rowB (u:World) (x:UInt8) (B:Nat) (hB:B≤u.heap.size):Row (u.alloc (.cells #[.int .u8 x.toNat] 5)) B 5 1 (some ⟨u.heap.size,0,none⟩) 1 1 (aB [x]) :=
 .inl ⟨rfl,.inr ⟨u.heap.size,1,_,rfl,hB,heap_alloc_new u _,zA _,by decide,rfl,rfl⟩⟩
theorem tJ (r:R.Rc) (w:World) (hid:r.id.size≤2147483648) :
  Calls Tryz.prog 102 #[.agg #[.int .i64 r.seq,.int .i64 r.op,.int .i64 r.no,.string r.id]] w (fM w (R.enc r) (R.code r)):=by
 have HK:=aH (Blk.new w #[.int .i64 r.seq,.int .i64 r.op,.int .i64 r.no,.string r.id] 111)
 have HB:=aH ((zB w.heap.size w).alloc (zA _) (.cells #[.int .i64 r.seq,.int .i64 r.op,.int .i64 r.no,.string r.id] 111))
 have HZ:Hid ((w.alloc (.cells #[.int .i64 r.seq,.int .i64 r.op,.int .i64 r.no,.string r.id] 111)).heap.size=w.heap.size+1):=aH (bJ ..)
 obtain⟨E,hE⟩:∃ E,R.enc r=E:=⟨_,rfl⟩
 obtain⟨C,hC⟩:∃ C,R.code r=C:=⟨_,rfl⟩
 have c1:=@R.aQE r
 have c2:=@R.aNP r
 have c3:=@R.aQF r
 have c4:=@R.aKR r
 have e1:=@R.aKG r
 have e2:=@R.enc_good r
 have hbody:R.body r=UInt8.ofNat (192+r.op.toNat)::(beN r.id.size 2++(beN r.seq.toNat 4++(beN r.no.toNat 4++L r.id))):=rfl
 have hWS:R.word r.seq=true→0≤r.seq∧r.seq≤4294967295:=fun h=>of_decide_eq_true h
 have hWN:R.word r.no=true→0≤r.no∧r.no≤4294967295:=fun h=>of_decide_eq_true h
 rw[hE]at e1 e2 ⊢
 rw[hC]at c1 c2 c3 c4 e1 e2 ⊢
 generalize R.body r=bd at *
 obtain⟨seq,op,no,id⟩:=r
 dsimp only at *
 have HW:=aH (fun (v:Int) (u:World)=>aLN v u)
 have F1:=aH c1
 have F2:=aH c2
 have F3:=aH c3
 have F4:=aH c4
 have F5:=aH e1
 have F6:=aH e2
 have F7:=aH hbody
 have F8:=aH hWS
 have F9:=aH hWN
 clear c1 c2 c3 c4 e1 e2 hbody hWS hWN hE hC
 go_enter Tryz.func102,Tryz.ntmps102
 go_upto_region 1 with fail
 generalize w.alloc (.cells #[.int .i64 seq,.int .i64 op,.int .i64 no,.string id] 111)=w0 at *
 obtain⟨z0,z1,z2,z3⟩:=HK.out.cells4
 by_cases hop:op=1∨op=2
 rotate_left
 ·have o1:(op != 1)=true:=bne_iff_ne.2 (fun h=>hop (.inl h))
  have o2:(op != 2)=true:=bne_iff_ne.2 (fun h=>hop (.inr h))
  have hc:=F1.out hop
  have he:=F5.out (by rw[hc];decide)
  go_wp2
  go_ret2
  exact fM.none_ HB.out he hc
 have HP:=aH (fun (base:Nat) (A:Option Addr) (c n v k:Nat) (bs:List UInt8) (u:World) (hl:bs.length=n) (hn:n≤1099511627776) (hk:k≤8) (hv:v < 9223372036854775808) (hr:bZ u base A n c bs) (hb:base≤u.heap.size)=>(by
  subst hl
  exact aBJ base A c v k bs u hn hk hv hr hb:Calls Tryz.prog 120 #[.slice A n c,.int .i64 v,.int .i64 k] u (fun e w'=>∃ A' c',e=.returned (.slice A' (n+k) c')∧bZ w' base A' (n+k) c' (bs++beN v k)∧App u w' A c A' c')))
 rcases hop with rfl | rfl
 ·go_wp2_with fail
  clear z0 z1 z2 z3
  refine (HW.out _ _).mono ?_
  rintro e w1 ⟨rfl,hb1⟩
  have HB1:=aH (aA HB.out.size HB.out hb1)
  have HK1:=aH (HK.out.below hb1)
  have HZ1:Hid (w.heap.size+1≤w1.heap.size):=aH (by have:=hb1.size;have:=HZ.out;omega)
  clear hb1 HB HK
  obtain⟨z0,z1,z2,z3⟩:=HK1.out.cells4
  cases hs:R.word seq
  ·have hc:=F2.out hs
   have he:=F5.out (by rw[hc];decide)
   go_wp2
   go_ret2
   exact fM.none_ HB1.out he hc
  have hsq:=F8.out hs
  go_wp2_with fail
  clear z0 z1 z2 z3
  refine (HW.out _ _).mono ?_
  rintro e w2 ⟨rfl,hb2⟩
  have HB2:=aH (aA HB1.out.size HB1.out hb2)
  have HK2:=aH (HK1.out.below hb2)
  have HZ2:Hid (w.heap.size+1≤w2.heap.size):=aH (by have:=hb2.size;have:=HZ1.out;omega)
  clear hb2 HB1 HK1
  obtain⟨z0,z1,z2,z3⟩:=HK2.out.cells4
  cases hn:R.word no
  ·have hc:=F3.out hn
   have he:=F5.out (by rw[hc];decide)
   go_wp2
   go_ret2
   exact fM.none_ HB2.out he hc
  have hnq:=F9.out hn
  have hcd:=F4.out (by decide) hs hn
  clear hs hn F1 F2 F3 F4 F8 F9 HW HZ1
  by_cases hi:id.size≤4096
  rotate_left
  ·rw[if_neg hi]at hcd
   have he:=F5.out (by rw[hcd];decide)
   have hi2:¬ (id.size:Int)≤4096:=by omega
   go_wp2
   go_ret2
   exact fM.none_ HB2.out he hcd
  rw[if_pos hi]at hcd
  have hE:=F6.out hcd
  have hi2:(id.size:Int)≤4096:=by omega
  obtain⟨sq,rfl⟩:∃ a:Nat,seq=a:=⟨seq.toNat,by omega⟩
  obtain⟨nn,rfl⟩:∃ a:Nat,no=a:=⟨no.toNat,by omega⟩
  have HEN:=aH hE
  have HC0:=aH hcd
  have F7':=F7.out
  simp only[Int.toNat_natCast]at F7'
  have HF7:=aH F7'
  clear hE hcd F5 F6 F7 F7'
  have hsq2:sq < 9223372036854775808:=by omega
  have hnn2:nn < 9223372036854775808:=by omega
  clear hsq hnq
  have HR3:Hid (bZ (w2.alloc (.cells #[.int .u8 193] 5)) w2.heap.size (some ⟨w2.heap.size,0,none⟩) 1 1 [UInt8.ofNat 193]):=aH ((rowB w2 (UInt8.ofNat 193) w2.heap.size (zA _)).crow)
  have hz3:(w2.alloc (.cells #[.int .u8 193] 5)).heap.size=w2.heap.size+1:=bJ ..
  have HB3:=aH (HB2.out.alloc (bD (Nat.le_succ _) HZ2.out) (.cells #[.int .u8 193] 5))
  have HK3:=aH (HK2.out.alloc (.cells #[.int .u8 193] 5))
  obtain⟨B0,hB0⟩:∃ B0,B0=w2.heap.size:=⟨_,rfl⟩
  have hk0:w.heap.size < B0:=by have:=HZ2.out;omega
  clear HB2 HK2
  obtain⟨u0,u1,u2,u3⟩:=HK3.out.cells4
  go_wp2_with fail
  clear z0 z1 z2 z3 u0 u1 u2 u3
  simp only[← hB0]at *
  have HZ3:Hid (B0≤(w2.alloc (.cells #[.int .u8 193] 5)).heap.size):=aH (by rw[hz3];omega)
  refine (HP.out B0 (some ⟨B0,0,none⟩) 1 1 id.size 2 [UInt8.ofNat 193] _ rfl (by decide) (by decide) (by omega) HR3.out HZ3.out).mono ?_
  rintro e w4 ⟨A4,c4,rfl,hr4,ha4⟩
  have hb4:=ha4.belowC HR3.out HZ3.out
  have HK4:=aH (HK3.out.under hb4 hk0)
  have HB4:=aH (HB3.out.trans (hb4.mono (Nat.le_of_lt hk0)))
  have HZ4:Hid (B0≤w4.heap.size):=aH (bD HZ3.out hb4.size)
  have HR4:=aH hr4
  clear hr4 ha4 hb4 HK3 HB3 HZ3 HR3
  obtain⟨z0,z1,z2,z3⟩:=HK4.out.cells4
  go_wp2_with fail
  clear z0 z1 z2 z3
  refine (HP.out B0 A4 c4 3 sq 4 _ _ (by simp [aP]) (by decide) (by decide) hsq2 HR4.out HZ4.out).mono ?_
  rintro e w5 ⟨A5,c5,rfl,hr5,ha5⟩
  have hb5:=ha5.belowC HR4.out HZ4.out
  have HK5:=aH (HK4.out.under hb5 hk0)
  have HB5:=aH (HB4.out.trans (hb5.mono (Nat.le_of_lt hk0)))
  have HZ5:Hid (B0≤w5.heap.size):=aH (bD HZ4.out hb5.size)
  have HR5:=aH hr5
  clear hr5 ha5 hb5 HK4 HB4 HZ4 HR4
  obtain⟨z0,z1,z2,z3⟩:=HK5.out.cells4
  go_wp2_with fail
  clear z0 z1 z2 z3
  refine (HP.out B0 A5 c5 7 nn 4 _ _ (by simp [aP]) (by decide) (by decide) hnn2 HR5.out HZ5.out).mono ?_
  rintro e w6 ⟨A6,c6,rfl,hr6,ha6⟩
  have hb6:=ha6.belowC HR5.out HZ5.out
  have HK6:=aH (HK5.out.under hb6 hk0)
  have HB6:=aH (HB5.out.trans (hb6.mono (Nat.le_of_lt hk0)))
  have HZ6:Hid (B0≤w6.heap.size):=aH (bD HZ5.out hb6.size)
  obtain⟨g,hg,hc0⟩:∃ g,A6=some ⟨g,0,none⟩∧c6≠0:=by
   have h1:=hr6.2.1
   rcases hr6.2.2 with h | ⟨g,h,_⟩
   ·exact absurd h (by omega)
   ·exact⟨g,h,by omega⟩
  subst hg
  have HR6:=aH hr6
  clear hr6 ha6 hb6 HK5 HB5 HZ5 HR5
  obtain⟨z0,z1,z2,z3⟩:=HK6.out.cells4
  go_wp2_with (at_builtin;refine aOR _ rfl _ _ rfl B0 g 11 c6 _ rfl hc0 HR6.out id rfl (by omega) HZ6.out ?_;intro A7 c7 w7 hr7 ha7;have hb7:=ha7.belowC HR6.out HZ6.out;have HB7:=aH (HB6.out.trans (hb7.mono (Nat.le_of_lt hk0)));have HZ7:Hid (B0≤w7.heap.size):=aH (bD HZ6.out hb7.size);have HR7:=aH hr7;clear hr7 ha7 hb7 HR6 HK6 HB6 HZ6 z0 z1 z2 z3)
  obtain⟨BD,hBD⟩:∃ BD,UInt8.ofNat 193::(beN id.size 2++(beN sq 4++(beN nn 4++L id)))=BD:=⟨_,rfl⟩
  have hbl:BD.length=11+id.size:=by
   rw[← hBD]
   have:(L id).length=id.size:=(aS id).symm
   simp only[List.length_cons,bC,aP]
   omega
  have HR8:Hid (bZ w7 B0 A7 (11+id.size) c7 BD):=by
   rw[← hBD]
   have:=HR7.out
   simp only[List.append_assoc,List.cons_append,List.nil_append]at this
   exact aH this
  have HSU:=aH (fun (A:Option Addr) (c n:Nat) (u:World) (hl:BD.length=n) (hr:Rd u A n 1 (aB BD))=>(by
   subst hl
   exact sum_any A c BD u (by omega) hr:Calls Tryz.prog 121 #[.slice A n c] u (fun e w'=>e=.returned (.int .i64 (iP BD))∧Below u.heap.size u w')))
  have HBL:=aH hbl
  have HSL:=aH (sO BD)
  have HEB:Hid (E=BD++beN (iP BD) 4):=aH (by rw[HEN.out,HF7.out,← hBD];rfl)
  clear hBD hbl HR7 HEN HF7
  go_wp2_with fail
  refine (HSU.out A7 c7 (11+id.size) _ HBL.out HR8.out.rd).mono ?_
  rintro e w8 ⟨rfl,hb8⟩
  have HR9:=aH (HR8.out.below hb8)
  have HB8:=aH (aA HB7.out.size HB7.out hb8)
  have HZ8:Hid (B0≤w8.heap.size):=aH (bD HZ7.out hb8.size)
  clear hb8 HR8 HB7 HZ7 HSU
  go_wp2_with fail
  refine (HP.out B0 A7 c7 (11+id.size) (iP BD) 4 BD _ HBL.out (by omega) (by decide) (by have:=HSL.out;omega) HR9.out HZ8.out).mono ?_
  rintro e w9 ⟨A9,c9,rfl,hr9,ha9⟩
  have hb9:=ha9.belowC HR9.out HZ8.out
  have HB9:=aH (HB8.out.trans (hb9.mono (Nat.le_of_lt hk0)))
  have HR10:=aH (hr9.mono (Nat.le_of_lt hk0))
  clear hr9 ha9 hb9
  have hfl:(BD++beN (iP BD) 4).length=11+id.size+4:=by rw[bC,aP,HBL.out]
  go_wp2
  refine bK (v:=.tuple #[.slice A9 (11+id.size+4) c9,.int .i64 0]) (by simp [results,Tryz.results102,go_sem]) rfl ?_
  exact⟨A9,c9,by rw[HEB.out,hfl,HC0.out],by rw[HEB.out,hfl];exact HR10.out,HB9.out⟩
 ·go_wp2_with fail
  clear z0 z1 z2 z3
  refine (HW.out _ _).mono ?_
  rintro e w1 ⟨rfl,hb1⟩
  have HB1:=aH (aA HB.out.size HB.out hb1)
  have HK1:=aH (HK.out.below hb1)
  have HZ1:Hid (w.heap.size+1≤w1.heap.size):=aH (by have:=hb1.size;have:=HZ.out;omega)
  clear hb1 HB HK
  obtain⟨z0,z1,z2,z3⟩:=HK1.out.cells4
  cases hs:R.word seq
  ·have hc:=F2.out hs
   have he:=F5.out (by rw[hc];decide)
   go_wp2
   go_ret2
   exact fM.none_ HB1.out he hc
  have hsq:=F8.out hs
  go_wp2_with fail
  clear z0 z1 z2 z3
  refine (HW.out _ _).mono ?_
  rintro e w2 ⟨rfl,hb2⟩
  have HB2:=aH (aA HB1.out.size HB1.out hb2)
  have HK2:=aH (HK1.out.below hb2)
  have HZ2:Hid (w.heap.size+1≤w2.heap.size):=aH (by have:=hb2.size;have:=HZ1.out;omega)
  clear hb2 HB1 HK1
  obtain⟨z0,z1,z2,z3⟩:=HK2.out.cells4
  cases hn:R.word no
  ·have hc:=F3.out hn
   have he:=F5.out (by rw[hc];decide)
   go_wp2
   go_ret2
   exact fM.none_ HB2.out he hc
  have hnq:=F9.out hn
  have hcd:=F4.out (by decide) hs hn
  clear hs hn F1 F2 F3 F4 F8 F9 HW HZ1
  by_cases hi:id.size≤4096
  rotate_left
  ·rw[if_neg hi]at hcd
   have he:=F5.out (by rw[hcd];decide)
   have hi2:¬ (id.size:Int)≤4096:=by omega
   go_wp2
   go_ret2
   exact fM.none_ HB2.out he hcd
  rw[if_pos hi]at hcd
  have hE:=F6.out hcd
  have hi2:(id.size:Int)≤4096:=by omega
  obtain⟨sq,rfl⟩:∃ a:Nat,seq=a:=⟨seq.toNat,by omega⟩
  obtain⟨nn,rfl⟩:∃ a:Nat,no=a:=⟨no.toNat,by omega⟩
  have HEN:=aH hE
  have HC0:=aH hcd
  have F7':=F7.out
  simp only[Int.toNat_natCast]at F7'
  have HF7:=aH F7'
  clear hE hcd F5 F6 F7 F7'
  have hsq2:sq < 9223372036854775808:=by omega
  have hnn2:nn < 9223372036854775808:=by omega
  clear hsq hnq
  have HR3:Hid (bZ (w2.alloc (.cells #[.int .u8 194] 5)) w2.heap.size (some ⟨w2.heap.size,0,none⟩) 1 1 [UInt8.ofNat 194]):=aH ((rowB w2 (UInt8.ofNat 194) w2.heap.size (zA _)).crow)
  have hz3:(w2.alloc (.cells #[.int .u8 194] 5)).heap.size=w2.heap.size+1:=bJ ..
  have HB3:=aH (HB2.out.alloc (bD (Nat.le_succ _) HZ2.out) (.cells #[.int .u8 194] 5))
  have HK3:=aH (HK2.out.alloc (.cells #[.int .u8 194] 5))
  obtain⟨B0,hB0⟩:∃ B0,B0=w2.heap.size:=⟨_,rfl⟩
  have hk0:w.heap.size < B0:=by have:=HZ2.out;omega
  clear HB2 HK2
  obtain⟨u0,u1,u2,u3⟩:=HK3.out.cells4
  go_wp2_with fail
  clear z0 z1 z2 z3 u0 u1 u2 u3
  simp only[← hB0]at *
  have HZ3:Hid (B0≤(w2.alloc (.cells #[.int .u8 194] 5)).heap.size):=aH (by rw[hz3];omega)
  refine (HP.out B0 (some ⟨B0,0,none⟩) 1 1 id.size 2 [UInt8.ofNat 194] _ rfl (by decide) (by decide) (by omega) HR3.out HZ3.out).mono ?_
  rintro e w4 ⟨A4,c4,rfl,hr4,ha4⟩
  have hb4:=ha4.belowC HR3.out HZ3.out
  have HK4:=aH (HK3.out.under hb4 hk0)
  have HB4:=aH (HB3.out.trans (hb4.mono (Nat.le_of_lt hk0)))
  have HZ4:Hid (B0≤w4.heap.size):=aH (bD HZ3.out hb4.size)
  have HR4:=aH hr4
  clear hr4 ha4 hb4 HK3 HB3 HZ3 HR3
  obtain⟨z0,z1,z2,z3⟩:=HK4.out.cells4
  go_wp2_with fail
  clear z0 z1 z2 z3
  refine (HP.out B0 A4 c4 3 sq 4 _ _ (by simp [aP]) (by decide) (by decide) hsq2 HR4.out HZ4.out).mono ?_
  rintro e w5 ⟨A5,c5,rfl,hr5,ha5⟩
  have hb5:=ha5.belowC HR4.out HZ4.out
  have HK5:=aH (HK4.out.under hb5 hk0)
  have HB5:=aH (HB4.out.trans (hb5.mono (Nat.le_of_lt hk0)))
  have HZ5:Hid (B0≤w5.heap.size):=aH (bD HZ4.out hb5.size)
  have HR5:=aH hr5
  clear hr5 ha5 hb5 HK4 HB4 HZ4 HR4
  obtain⟨z0,z1,z2,z3⟩:=HK5.out.cells4
  go_wp2_with fail
  clear z0 z1 z2 z3
  refine (HP.out B0 A5 c5 7 nn 4 _ _ (by simp [aP]) (by decide) (by decide) hnn2 HR5.out HZ5.out).mono ?_
  rintro e w6 ⟨A6,c6,rfl,hr6,ha6⟩
  have hb6:=ha6.belowC HR5.out HZ5.out
  have HK6:=aH (HK5.out.under hb6 hk0)
  have HB6:=aH (HB5.out.trans (hb6.mono (Nat.le_of_lt hk0)))
  have HZ6:Hid (B0≤w6.heap.size):=aH (bD HZ5.out hb6.size)
  obtain⟨g,hg,hc0⟩:∃ g,A6=some ⟨g,0,none⟩∧c6≠0:=by
   have h1:=hr6.2.1
   rcases hr6.2.2 with h | ⟨g,h,_⟩
   ·exact absurd h (by omega)
   ·exact⟨g,h,by omega⟩
  subst hg
  have HR6:=aH hr6
  clear hr6 ha6 hb6 HK5 HB5 HZ5 HR5
  obtain⟨z0,z1,z2,z3⟩:=HK6.out.cells4
  go_wp2_with (at_builtin;refine aOR _ rfl _ _ rfl B0 g 11 c6 _ rfl hc0 HR6.out id rfl (by omega) HZ6.out ?_;intro A7 c7 w7 hr7 ha7;have hb7:=ha7.belowC HR6.out HZ6.out;have HB7:=aH (HB6.out.trans (hb7.mono (Nat.le_of_lt hk0)));have HZ7:Hid (B0≤w7.heap.size):=aH (bD HZ6.out hb7.size);have HR7:=aH hr7;clear hr7 ha7 hb7 HR6 HK6 HB6 HZ6 z0 z1 z2 z3)
  obtain⟨BD,hBD⟩:∃ BD,UInt8.ofNat 194::(beN id.size 2++(beN sq 4++(beN nn 4++L id)))=BD:=⟨_,rfl⟩
  have hbl:BD.length=11+id.size:=by
   rw[← hBD]
   have:(L id).length=id.size:=(aS id).symm
   simp only[List.length_cons,bC,aP]
   omega
  have HR8:Hid (bZ w7 B0 A7 (11+id.size) c7 BD):=by
   rw[← hBD]
   have:=HR7.out
   simp only[List.append_assoc,List.cons_append,List.nil_append]at this
   exact aH this
  have HSU:=aH (fun (A:Option Addr) (c n:Nat) (u:World) (hl:BD.length=n) (hr:Rd u A n 1 (aB BD))=>(by
   subst hl
   exact sum_any A c BD u (by omega) hr:Calls Tryz.prog 121 #[.slice A n c] u (fun e w'=>e=.returned (.int .i64 (iP BD))∧Below u.heap.size u w')))
  have HBL:=aH hbl
  have HSL:=aH (sO BD)
  have HEB:Hid (E=BD++beN (iP BD) 4):=aH (by rw[HEN.out,HF7.out,← hBD];rfl)
  clear hBD hbl HR7 HEN HF7
  go_wp2_with fail
  refine (HSU.out A7 c7 (11+id.size) _ HBL.out HR8.out.rd).mono ?_
  rintro e w8 ⟨rfl,hb8⟩
  have HR9:=aH (HR8.out.below hb8)
  have HB8:=aH (aA HB7.out.size HB7.out hb8)
  have HZ8:Hid (B0≤w8.heap.size):=aH (bD HZ7.out hb8.size)
  clear hb8 HR8 HB7 HZ7 HSU
  go_wp2_with fail
  refine (HP.out B0 A7 c7 (11+id.size) (iP BD) 4 BD _ HBL.out (by omega) (by decide) (by have:=HSL.out;omega) HR9.out HZ8.out).mono ?_
  rintro e w9 ⟨A9,c9,rfl,hr9,ha9⟩
  have hb9:=ha9.belowC HR9.out HZ8.out
  have HB9:=aH (HB8.out.trans (hb9.mono (Nat.le_of_lt hk0)))
  have HR10:=aH (hr9.mono (Nat.le_of_lt hk0))
  clear hr9 ha9 hb9
  have hfl:(BD++beN (iP BD) 4).length=11+id.size+4:=by rw[bC,aP,HBL.out]
  go_wp2
  refine bK (v:=.tuple #[.slice A9 (11+id.size+4) c9,.int .i64 0]) (by simp [results,Tryz.results102,go_sem]) rfl ?_
  exact⟨A9,c9,by rw[HEB.out,hfl,HC0.out],by rw[HEB.out,hfl];exact HR10.out,HB9.out⟩
theorem aJZ (v:Int) (h0:0≤v) (h1:v < 64):bits .and .i64 v 15=v % 16:=by
 obtain⟨n,rfl⟩:=Int.eq_ofNat_of_zero_le h0
 have h:∀ m:Fin 64,bits .and .i64 (m.1:Int) 15=(m.1:Int) % 16:=by decide
 exact h ⟨n,by omega⟩
def hexD (i:Int):UInt8:=(#[48,49,50,51,52,53,54,55,56,57,97,98,99,100,101,102]:Array UInt8).getD i.toNat 0
theorem aJ1 (i:Int) (h:i.toNat < ({ data:=#[48,49,50,51,52,53,54,55,56,57,97,98,99,100,101,102] }:ByteArray).size):({ data:=#[48,49,50,51,52,53,54,55,56,57,97,98,99,100,101,102] }:ByteArray)[i.toNat]'h=hexD i:=by
 have e:({ data:=#[48,49,50,51,52,53,54,55,56,57,97,98,99,100,101,102] }:ByteArray).data[i.toNat]?=some (({ data:=#[48,49,50,51,52,53,54,55,56,57,97,98,99,100,101,102] }:ByteArray)[i.toNat]'h):=Array.getElem?_eq_getElem h
 unfold hexD
 rw[Array.getD_eq_getD_getElem?,e]
 rfl
theorem zX (n:Nat) (h:n < 16):hexD n=S.hx n:=by
 have:∀ m:Fin 16,hexD (m.1:Int)=S.hx m.1:=by decide
 exact this ⟨n,h⟩
def hexT (v:Int):ByteArray:=⟨#[hexD (v / 16),hexD (v % 16)]⟩
theorem aKQ (w:World) (x y:UInt8):(convert 39 9 (.slice (some ⟨w.heap.size,0,none⟩) 2 2)).run Tryz.prog ((w.alloc (.cells #[.int .u8 x.toNat,.int .u8 y.toNat] 5)).drew) =
  .ok (.string ⟨#[x,y]⟩) ((w.alloc (.cells #[.int .u8 x.toNat,.int .u8 y.toNat] 5)).drew):=by
 refine run_convert_bytes_back _ 39 9 5 ⟨w.heap.size,0,none⟩ 2 [x,y] Tryz.underlying39 Tryz.underlying5 Tryz.underlying9 ?_
 intro j hj
 match j,hj with
 | 0,_=>simp [Addr.add]
 | 1,_=>simp [Addr.add]
theorem uO (v:Int) (w:World) (h0:0≤v) (h1:v < 64):Calls Tryz.prog 101 #[.int .i64 v] w (aEM w (hexT v)):=by
 have ha:=aJZ v h0 h1
 have h2:0≤v / 16:=by omega
 have h3:v / 16 < 16:=by omega
 have h4:0≤v % 16:=by omega
 have h5:v % 16 < 16:=by omega
 have hcv:=aKQ w
 have e1:(({ data:=#[48,49,50,51,52,53,54,55,56,57,97,98,99,100,101,102] }:ByteArray)[(v / 16).toNat]'(by show (v / 16).toNat < 16;omega))=hexD (v / 16):=aJ1 _ _
 have e2:(({ data:=#[48,49,50,51,52,53,54,55,56,57,97,98,99,100,101,102] }:ByteArray)[(v % 16).toNat]'(by show (v % 16).toNat < 16;omega))=hexD (v % 16):=aJ1 _ _
 go_enter Tryz.func101,Tryz.ntmps101
 go_wp2
 go_region
 go_wp2
 go_ret
 exact⟨rfl,(((zB _ _).alloc (zA _) _).drew)⟩
theorem zL (no:Nat) (w:World) (h:no < 4096):Calls Tryz.prog 54 #[.int .i64 no] w (aEM w (S.path no)):=by
 obtain⟨v,hv⟩:∃ v:Int,v=no:=⟨_,rfl⟩
 have h0:0≤v:=by omega
 have h1:v < 4096:=by omega
 have h0i:¬ v < 0:=by omega
 have h1i:¬ v≥4096:=by omega
 have h2:0≤v / 64:=by omega
 have h3:v / 64 < 64:=by omega
 have h4:0≤v % 64:=by omega
 have h5:v % 64 < 64:=by omega
 have z1:(hexT (v / 64)).size≤2:=zA 2
 have z2:(hexT (v % 64)).size≤2:=zA 2
 have HP1:=aH (fun u:World=>uO (v / 64) u (by omega) (by omega))
 have HP2:=aH (fun u:World=>uO (v % 64) u (by omega) (by omega))
 have HV:Hid (S.path no=⟨#[111,47]⟩++hexT (v / 64)++⟨#[47]⟩++hexT (v % 64)):=aH (by
  rw[S.oL h]
  have a1:hexD (v / 64 / 16)=S.hx (no / 1024):=by rw[show v / 64 / 16=((no / 1024:Nat):Int) by omega];exact zX _ (by omega)
  have a2:hexD (v / 64 % 16)=S.hx (no / 64 % 16):=by rw[show v / 64 % 16=((no / 64 % 16:Nat):Int) by omega];exact zX _ (by omega)
  have a3:hexD (v % 64 / 16)=S.hx (no % 64 / 16):=by rw[show v % 64 / 16=((no % 64 / 16:Nat):Int) by omega];exact zX _ (by omega)
  have a4:hexD (v % 64 % 16)=S.hx (no % 16):=by rw[show v % 64 % 16=((no % 16:Nat):Int) by omega];exact zX _ (by omega)
  unfold hexT
  rw[a1,a2,a3,a4]
  rfl)
 rw[← hv,HV.out]
 generalize hexT (v / 64)=t1 at *
 generalize hexT (v % 64)=t2 at *
 clear hv HV h
 go_enter Tryz.func54,Tryz.ntmps54
 go_wp2_with fail
 refine (HP1.out _).mono ?_
 rintro e w1 ⟨rfl,hb1⟩
 go_wp2_with fail
 refine (HP2.out _).mono ?_
 rintro e w2 ⟨rfl,hb2⟩
 go_wp2
 go_ret
 exact⟨rfl,aA hb1.size hb1 hb2⟩
end Go.Proofs.YthjeglnkgdpijaaGreatDoor
namespace Go.Proofs.YthjeglnkgdpijaaGreatDoor
namespace S
open D (Fit)
variable {k:Nat} {d:D.Dsk} {s:Sto}
theorem gK:∀ (l:List (D.Dsk→D.Dsk × Int)) {k:Nat} {d:D.Dsk},(∀ f∈l,∀ (k:Nat) (d:D.Dsk),Fit k d→Fit (k+1) (f d).1)→Fit k d→Fit (k+l.length) (steps d l).1
 | [],_,_,_,h=>h
 | f::r,k,d,hf,h=>by
  have h1:=hf f (by simp) k d h
  unfold steps
  rw[List.length_cons]
  split
  ·exact h1.mono (by omega)
  ·exact (gK r (fun g hg=>hf g (List.mem_cons_of_mem _ hg)) h1).mono (by omega)
theorem aBW (b:List UInt8):∀ f∈moves b,∀ (k:Nat) (d:D.Dsk),Fit k d→Fit (k+1) (f d).1:=by
 intro f hf k d h
 unfold moves at hf
 simp only[List.mem_cons,List.not_mem_nil,or_false]at hf
 rcases hf with rfl | rfl | rfl | rfl
 ·exact h.create _
 ·exact h.append _ _
 ·exact h.sync _
 ·exact h.rename _ _
theorem kY:∀ f∈dB,∀ (k:Nat) (d:D.Dsk),Fit k d→Fit (k+1) (f d).1:=by
 intro f hf k d h
 unfold dB at hf
 simp only[List.mem_cons,List.not_mem_nil,or_false]at hf
 rcases hf with rfl | rfl | rfl
 ·exact h.create _
 ·exact h.sync _
 ·exact h.syncNames
theorem aDG (h:Fit k d) (count:Nat) (list:List R.Rc):Fit (k+5) (rewrite d count list).1:=by
 have h1:=gK (moves (R.bH list 0 []).1) (aBW _) h
 have h2:(moves (R.bH list 0 []).1).length=4:=rfl
 rw[h2]at h1
 unfold rewrite
 split
 ·exact h.mono (by omega)
 ·split
  ·exact h1.syncNames
  ·split
   ·exact h1.mono (by omega)
   ·exact h1.remove _
theorem aAO (h:Fit k d) (count:Nat) (op no:Int) (id:ByteArray):Fit (k+2) (add d count op no id).1:=by
 unfold add
 split
 ·exact h.mono (by omega)
 ·split
  ·exact (h.append _ _).mono (by omega)
  ·exact (h.append _ _).sync _
theorem aEW (h:Fit k s.d):Fit (k+5) s.tidy.d:=by
 unfold Sto.tidy
 split
 ·exact h.mono (by omega)
 ·exact aDG h _ _
theorem aJQ (h:Fit k d) (p:ByteArray) (b:List UInt8):Fit (k+5) (lay d p b).1:=by
 unfold lay
 have hx:Fit (k+1) (if has d.list p then d.remove p else (d,0)).1:=by
  split
  ·exact h.remove _
  ·exact h.mono (by omega)
 generalize (if has d.list p then d.remove p else (d,0))=x at *
 dsimp only
 split
 ·exact hx.mono (by omega)
 ·split
  ·exact (hx.create _).mono (by omega)
  ·split
   ·exact ((hx.create _).append _ _).mono (by omega)
   ·split
    ·exact (((hx.create _).append _ _).sync _).mono (by omega)
    ·exact (((hx.create _).append _ _).sync _).syncNames
theorem rW (h:Fit k s.d) (no:Nat):Fit (k+1) (s.free no).d:=h.remove _
theorem aEA (no:Nat) (id:ByteArray) (x:D.Dsk × Bool × Int) (h:Fit k x.1):Fit (k+8) (s.entered no id x).1.d:=by
 unfold Sto.entered
 have hy:Fit (k+2) (if x.2.2=0 then add x.1 s.count 1 no id else (x.1,s.count,x.2.2):D.Dsk × Nat × Int).1:=by
  split
  ·exact aAO h _ _ _ _
  ·exact h.mono (by omega)
 generalize (if x.2.2=0 then add x.1 s.count 1 no id else (x.1,s.count,x.2.2):D.Dsk × Nat × Int)=y at *
 dsimp only
 split
 ·split
  ·exact (hy.remove _).mono (by omega)
  ·exact hy.mono (by omega)
 ·refine aEW (k:=k+3) ?_
  show Fit (k+3) (({ s with d:=y.1,count:=y.2.1 }:Sto).freed id).d
  unfold Sto.freed
  split
  ·exact rW (s:={ s with d:=y.1,count:=y.2.1 }) hy _
  ·exact hy.mono (by omega)
theorem oH (h:Fit k s.d) (E:O.Ent):Fit (k+13) (s.put E).1.d:=by
 unfold Sto.put
 split
 ·exact h.mono (by omega)
 ·split
  ·exact h.mono (by omega)
  ·split
   ·exact h.mono (by omega)
   ·exact aEA _ _ _ (aJQ h _ _)
theorem aAE (h:Fit k s.d) (id:ByteArray):Fit (k+8) (s.drop id).1.d:=by
 unfold Sto.drop
 split
 ·exact h.mono (by omega)
 ·rename_i no _
  have hy:=aAO h s.count 2 no id
  dsimp only
  split
  ·exact hy.mono (by omega)
  ·exact aEW (k:=k+3) (rW (s:={ s with d:=_,count:=_,tab:=_ }) hy _)
end S
end Go.Proofs.YthjeglnkgdpijaaGreatDoor
