/- The walks of be.Put, the document's Number. The walks of rec.Sum and the document's Sum. The walks of the document's section, of inTime, time and both Id. The walk of object.right; an entry's cells. The walks of head.PrintResponse and of the document's. Conditions: as each theorem states them. -/
import Derived.Test.YthjeglnkgdpijaaGreatDoorZ16
set_option maxHeartbeats 4000000
set_option maxRecDepth 100000
namespace Go.Proofs.YthjeglnkgdpijaaGreatDoor
open Go.RowKit
def dig (v i:Nat):UInt8:=UInt8.ofNat (v / 2 ^ (8 * i) % 256)
def beN (v:Nat):Nat→List UInt8
 | 0=>[]
 | k+1=>dig v k::beN v k
theorem aP (v:Nat):∀ k,(beN v k).length=k
 | 0=>rfl
 | k+1=>by rw[beN,List.length_cons,aP v k]
theorem aP9 (v i:Nat):((dig v i).toNat:Int)=(v:Int) / 2 ^ (8 * i) % 256:=by
 have h:(dig v i).toNat=v / 2 ^ (8 * i) % 256:=by
  unfold dig
  rw[UInt8.toNat_ofNat']
  exact Nat.mod_mod _ _
 rw[h,Int.natCast_emod,Int.natCast_ediv,Int.natCast_pow]
 rfl
theorem App.next {w w1 w2:World} {A A1 A2:Option Addr} {c c1 c2:Nat} (h1:App w w1 A c A1 c1) (h2:App w1 w2 A1 c1 A2 c2):App w w2 A c A2 c2:=by
 refine⟨h1.grown.andThen h2.grown fun j hj=>?_,?_⟩
 ·rcases h1.moved with ⟨rfl,rfl⟩ | ⟨g,rfl,hg⟩
  ·exact .inr hj
  ·unfold ownB at hj
   split at hj
   ·cases hj
   ·simp at hj
    exact .inl (by omega)
 ·rcases h2.moved with ⟨rfl,rfl⟩ | ⟨g,rfl,hg⟩
  ·exact h1.moved
  ·exact .inr ⟨g,rfl,bD h1.grown.size hg⟩
theorem App.pre {w w1 w2:World} {A A2:Option Addr} {c c2:Nat} (h1:Below w.heap.size w w1) (h2:App w1 w2 A c A2 c2):App w w2 A c A2 c2 :=
 ⟨aD7 h1 h2.grown,h2.moved.imp id fun⟨g,h,hg⟩=>⟨g,h,bD h1.size hg⟩⟩
theorem App.start (w:World) (A:Option Addr) (c:Nat):App w w A c A c:=⟨World.grownBy.refl _ _,.inl ⟨rfl,rfl⟩⟩
theorem aBJ (base:Nat) (A:Option Addr) (c v k:Nat) (bs:List UInt8) (w:World) (hn:bs.length≤1099511627776) (hk:k≤8) (hv:v < 9223372036854775808) (hr:bZ w base A bs.length c bs) (hb:base≤w.heap.size) :
  Calls Tryz.prog 120 #[.slice A bs.length c,.int .i64 v,.int .i64 k] w (fun e w'=>∃ A' c',e=.returned (.slice A' (bs.length+k) c')∧bZ w' base A' (bs.length+k) c' (bs++beN v k)∧App w w' A c A' c'):=by
 have HR:=aH hr
 obtain⟨n,hnn⟩:∃ n,n=bs.length:=⟨_,rfl⟩
 rw[← hnn]at HR hn ⊢
 clear hr
 go_enter Tryz.func120,Tryz.ntmps120
 go_wp2
 go_loopw [0,7] (fun o i wr=>∃ (j:Nat) (A2:Option Addr) (c2:Nat) (xs:List UInt8),j≤k∧i=.int .i64 ((j:Int) - 1)∧o=.slice A2 (n+k - j) c2∧bZ wr base A2 (n+k - j) c2 xs∧xs++beN v j=bs++beN v k∧App w wr A c A2 c2) (fun _ i _=>(intOf i+1).toNat)
 case atStart=>exact⟨k,A,c,bs,zA _,by go_num,by rw[Nat.add_sub_cancel],by rw[Nat.add_sub_cancel];exact HR.out,rfl,App.start _ _ _⟩
 case round =>
  obtain⟨j,A2,c2,xs,hj,rfl,rfl,hrow,hxs,happ⟩:=hrel
  have HROW:=aH hrow
  have HAPP:=aH happ
  have HXS:=aH hxs
  have hz:=happ.grown.size
  clear hrow happ hxs HR
  rcases Nat.eq_zero_or_pos j with h0 | h0
  ·subst h0
   go_wp2
   go_ret
   refine⟨A2,c2,by rw[Nat.sub_zero];rfl,?_,HAPP.out⟩
   have h1:=HROW.out
   have h2:=HXS.out
   rw[beN,List.append_nil]at h2
   rw[Nat.sub_zero,h2]at h1
   exact h1
  ·have hmb:n+k - j≤1099511627784:=by omega
   obtain⟨i,rfl⟩:∃ i,j=i+1:=⟨j - 1,by omega⟩
   have e1:((i+1:Nat):Int) - 1=(i:Int):=by omega
   rw[e1]
   obtain⟨m,hm⟩:∃ m,m=n+k - (i+1):=⟨_,rfl⟩
   rw[← hm]at HROW hmb ⊢
   have hi0:(0:Int)≤(i:Int):=by omega
   have hnew:=fun u:World=>newB u (dig v i)
   rw[aP9]at hnew
   have HNEW:=aH hnew
   clear hnew
   have HML:Hid (n+k - i=m+1):=aH (by omega)
   clear hm
   go_wp2_with (at_builtin;refine appC _ rfl (.tmp 14) (.tmp 21) rfl base A2 m c2 xs rfl (HROW.out.alloc _) _ 1 1 [dig v i] rfl (HNEW.out _) (by omega) (by rw[bJ];omega) ?_;intro A3 c3 w3 hr3 ha3;have HR3:=aH hr3;have HA3:=aH (App.next HAPP.out (App.pre ((zB _ _).alloc (zA _) _) ha3));clear hr3 ha3)
   go_roundw
   case rel =>
    refine⟨i,A3,c3,xs++[dig v i],by omega,by go_num,?_,?_,?_,HA3.out⟩
    ·rw[HML.out]
    ·rw[HML.out];exact HR3.out
    ·have:=HXS.out
     rw[beN]at this
     rw[List.append_assoc]
     exact this
   case measure=>simp [intOf]
def aQZ (v:Nat):Nat:=if v % 2=1 then v / 2 ^^^ 3988292384 else v / 2
def aCO (v:Nat):Nat→Nat
 | 0=>v
 | k+1=>aQZ (aCO v k)
def aEG (v:Nat) (c:UInt8):Nat:=aCO (v ^^^ c.toNat) 8
def aLI (bs:List UInt8):Nat:=bs.foldl aEG 4294967295
def iP (bs:List UInt8):Nat:=aLI bs ^^^ 4294967295
theorem wO {a b:Nat} (ha:a < 4294967296) (hb:b < 4294967296):a ^^^ b < 4294967296:=Nat.xor_lt_two_pow (n:=32) ha hb
theorem aQJ {v:Nat} (h:v < 4294967296):aQZ v < 4294967296:=by
 unfold aQZ
 split
 ·exact wO (by omega) (by decide)
 ·omega
theorem sD {v:Nat} (h:v < 4294967296):∀ k,aCO v k < 4294967296
 | 0=>h
 | k+1=>aQJ (sD h k)
theorem aNQ {v:Nat} (h:v < 4294967296) (c:UInt8):aEG v c < 4294967296:=sD (wO h (by have:=c.toNat_lt;omega)) 8
theorem aFR:∀ (bs:List UInt8) (v:Nat),v < 4294967296→bs.foldl aEG v < 4294967296
 | [],_,h=>h
 | c::bs,_,h=>aFR bs _ (aNQ h c)
theorem aIS (bs:List UInt8):aLI bs < 4294967296:=aFR bs _ (by decide)
theorem sO (bs:List UInt8):iP bs < 4294967296:=wO (aIS bs) (by decide)
theorem aIR (bs:List UInt8) (i:Nat) (h:i < bs.length):aLI (bs.take (i+1))=aEG (aLI (bs.take i)) bs[i]:=by
 unfold aLI
 rw[List.take_add_one,List.getElem?_eq_getElem h,List.foldl_append]
 rfl
theorem aPB (q:Nat) (h:q < 4294967296):bits .xor .u32 ((q:Int) / 2) (bits .and .u32 3988292384 (-bits .and .u32 (q:Int) 1 % 4294967296))=((aQZ q:Nat):Int):=by
 have hand:=u32_and_nat q 1 h (by decide)
 rw[Nat.and_one_is_mod,show ((1:Nat):Int)=1 from rfl]at hand
 have hd:(q:Int) / 2=((q / 2:Nat):Int):=by omega
 rw[hand,hd]
 unfold aQZ
 rcases (by omega:q % 2=1∨q % 2=0) with h2 | h2
 ·rw[h2,if_pos rfl]
  have h3:=u32_and_nat 3988292384 4294967295 (by decide) (by decide)
  have h4:(3988292384 &&& 4294967295:Nat)=3988292384:=by decide
  rw[h4]at h3
  have h5:(-((1:Nat):Int)) % 4294967296=((4294967295:Nat):Int):=by decide
  rw[h5,show (3988292384:Int)=((3988292384:Nat):Int) from rfl,h3]
  exact u32_xor_nat _ _ (by omega) (by decide)
 ·rw[h2,if_neg (by decide)]
  have h3:=u32_and_nat 3988292384 0 (by decide) (by decide)
  rw[Nat.and_zero]at h3
  have h5:(-((0:Nat):Int)) % 4294967296=((0:Nat):Int):=by decide
  rw[h5,show (3988292384:Int)=((3988292384:Nat):Int) from rfl,h3]
  have:=u32_xor_nat (q / 2) 0 (by omega) (by decide)
  rw[Nat.xor_zero]at this
  exact this
theorem sum_any (A:Option Addr) (c:Nat) (bs:List UInt8) (w:World) (hn:bs.length≤1099511627776) (hx:Rd w A bs.length 1 (aB bs)) :
  Calls Tryz.prog 121 #[.slice A bs.length c] w (fun e w'=>e=.returned (.int .i64 (iP bs))∧Below w.heap.size w w'):=by
 have HX:=aH hx
 clear hx
 obtain⟨n,hnn⟩:∃ n,n=bs.length:=⟨_,rfl⟩
 rw[← hnn]at HX hn ⊢
 have HN:=aH hnn
 clear hnn
 go_enter Tryz.func121,Tryz.ntmps121
 go_wp2
 go_loopw [3,8] (fun x i wr=>∃ k:Nat,k≤n∧i=.int .i64 k∧x=.int .u32 (aLI (bs.take k))∧w=wr) (fun _ i _=>n - (intOf i).toNat)
 case atStart=>exact⟨0,zF _,rfl,rfl,rfl⟩
 case round =>
  obtain⟨k,hk,rfl,rfl,rfl⟩:=hrel
  have hvl:=aIS (bs.take k)
  by_cases hlt:k < n
  ·have hkb:k < bs.length:=by have:=HN.out;omega
   obtain⟨b,o,hA,hblt,hcs⟩:=HX.out.2 (by omega)
   have hce:=hcs k (.int .u8 (bs[k]'hkb).toNat) (by simp [aB,hkb])
   have HNX:=aH (aIR bs k hkb)
   have hy:=(bs[k]'hkb).toNat_lt
   generalize (bs[k]'hkb)=y at *
   generalize aLI (bs.take k)=x at *
   subst hA
   have hxor:=u32_xor_nat x y.toNat hvl (by omega)
   have hxl:=wO (b:=y.toNat) hvl (by omega)
   clear hcs HX
   obtain⟨z,hz⟩:∃ z,z=x ^^^ y.toNat:=⟨_,rfl⟩
   rw[← hz]at hxor hxl
   have HNX':Hid (aLI (bs.take (k+1))=aCO z 8):=by
    have h:=HNX.out
    unfold aEG at h
    rw[← hz]at h
    exact aH h
   clear hz HNX
   go_wp2_with fail
   go_loopw [3,16] (fun x i wi=>∃ j:Nat,j≤8∧i=.int .i64 j∧x=.int .u32 (aCO z j)∧w=wi) (fun _ i _=>8 - (intOf i).toNat)
   case atStart=>exact⟨0,zF _,rfl,rfl,rfl⟩
   case round =>
    obtain⟨j,hj,rfl,rfl,rfl⟩:=hrel
    have hql:=sD hxl j
    have HS:Hid (aCO z (j+1)=aQZ (aCO z j)):=aH rfl
    by_cases hj8:j < 8
    ·generalize aCO z j=q at *
     have HST:=aH (aPB q hql)
     go_wp2_with fail
     refine⟨⟨j+1,by omega,by go_num,?_,trivial⟩,by simp [intOf];omega⟩
     rw[HST.out,← HS.out]
    ·obtain rfl:j=8:=by omega
     rw[← HNX'.out]
     clear HS
     go_wp2_with fail
     exact⟨⟨k+1,by omega,by go_num,rfl,trivial⟩,by simp [intOf];omega⟩
  ·obtain rfl:k=n:=by omega
   have hst:bs.take k=bs:=List.take_of_length_le (by have:=HN.out;omega)
   rw[hst]
   rw[hst]at hvl
   have HU:Hid (iP bs=aLI bs ^^^ 4294967295):=aH rfl
   clear hst
   generalize aLI bs=x at *
   have hxor:=u32_xor_nat 4294967295 x (by decide) hvl
   rw[Nat.xor_comm,← HU.out]at hxor
   have hmx:bits .xor .u32 IntKind.u32.max (x:Int)=((iP bs:Nat):Int):=hxor
   have hwr:wrap64 ((iP bs:Nat):Int)=((iP bs:Nat):Int):=by
    have:=sO bs
    unfold wrap64
    omega
   have HR:Hid (wrap64 (bits .xor .u32 IntKind.u32.max (x:Int))=((iP bs:Nat):Int)):=by
    rw[hmx];exact aH hwr
   clear hxor hmx hwr
   go_wp2
   go_ret
   refine⟨?_,zB _ _⟩
   show Ending.returned (.int .i64 (wrap64 (bits .xor .u32 IntKind.u32.max (x:Int))))=_
   rw[HR.out]
def sZ (t:Nat) (data:List UInt8):List UInt8:=UInt8.ofNat t::(beN data.length 4++data)
theorem rO (t:Nat) (data:List UInt8):(sZ t data).length=5+data.length:=by
 unfold sZ
 rw[List.length_cons,bC,aP]
 omega
def qW (v:Int):Bool:=decide (0≤v∧v≤253402300799)
theorem xY (v:Int) (w:World):Calls Tryz.prog 157 #[.int .i64 v] w (qP w (qW v)):=by
 by_cases h0:0≤v
 ·by_cases h1:v≤253402300799
  ·rw[show qW v=true from decide_eq_true ⟨h0,h1⟩]
   go_enter Tryz.func157,Tryz.ntmps157
   go_wp2
   go_ret
   exact⟨rfl,zB _ _⟩
  ·rw[show qW v=false from decide_eq_false fun h=>h1 h.2]
   go_enter Tryz.func157,Tryz.ntmps157
   go_wp2
   go_ret
   exact⟨rfl,zB _ _⟩
 ·rw[show qW v=false from decide_eq_false fun h=>h0 h.1]
  go_enter Tryz.func157,Tryz.ntmps157
  go_wp2
  go_ret
  exact⟨rfl,zB _ _⟩
theorem aOO (k v:ByteArray) (w:World) (hk:k.size≤1073741824) (hv:v.size≤1073741824):Calls Tryz.prog 33 #[.string k,.string v] w (aEM w (k++⟨#[10]⟩++v)):=by
 go_enter Tryz.func33,Tryz.ntmps33
 go_wp2
 go_ret
 exact⟨rfl,zB _ _⟩
section
variable {w:World} {b:Nat} {x0 x1 x2 x3 x4 x5 x6 x7 x8:Value} {t:TypeId}
theorem Blk.cells9 (h:Blk w b #[x0,x1,x2,x3,x4,x5,x6,x7,x8] t):w.cell? ⟨b,0,none⟩=some x0∧w.cell? ⟨b,1,none⟩=some x1∧w.cell? ⟨b,2,none⟩=some x2∧w.cell? ⟨b,3,none⟩=some x3∧w.cell? ⟨b,4,none⟩=some x4∧w.cell? ⟨b,5,none⟩=some x5∧w.cell? ⟨b,6,none⟩=some x6∧w.cell? ⟨b,7,none⟩=some x7∧w.cell? ⟨b,8,none⟩=some x8 :=
 ⟨h.cell 0 rfl,h.cell 1 rfl,h.cell 2 rfl,h.cell 3 rfl,h.cell 4 rfl,h.cell 5 rfl,h.cell 6 rfl,h.cell 7 rfl,h.cell 8 rfl⟩
end
def okE (k v:ByteArray) (nb:Nat) (asked got:Int):Bool:=decide (k.size≠0∧k.size≤4096∧v.size≤4096∧nb≤65536∧qW asked=true∧qW got=true)
theorem aAC {k:ByteArray} (h:k.size=0):k=⟨#[]⟩:=by
 obtain⟨d⟩:=k
 have:d=#[]:=Array.eq_empty_of_size_eq_zero h
 rw[this]
theorem aIZ (k v:ByteArray) (s:Int) (r:ByteArray) (m:Int) (A:Option Addr) (nf cf:Nat) (X:Option Addr) (nb cb:Nat) (asked got:Int) (w:World):Calls Tryz.prog 119 #[.agg #[.string k,.string v,.int .i64 s,.string r,.int .i64 m,.slice A nf cf,.slice X nb cb,.int .i64 asked,.int .i64 got]] w (qP w (okE k v nb asked got)):=by
 have HK:=aH (Blk.new w #[.string k,.string v,.int .i64 s,.string r,.int .i64 m,.slice A nf cf,.slice X nb cb,.int .i64 asked,.int .i64 got] 41)
 have HB:=aH ((zB w.heap.size w).alloc (zA _) (.cells #[.string k,.string v,.int .i64 s,.string r,.int .i64 m,.slice A nf cf,.slice X nb cb,.int .i64 asked,.int .i64 got] 41))
 have HT1:=aH (fun u=>xY asked u)
 have HT2:=aH (fun u=>xY got u)
 obtain⟨ok,hok⟩:∃ ok,ok=okE k v nb asked got:=⟨_,rfl⟩
 rw[← hok]
 unfold okE at hok
 by_cases h0:k.size=0
 ·obtain rfl:ok=false:=hok.trans (decide_eq_false fun h=>h.1 h0)
  obtain rfl:=aAC h0
  clear hok HT1 HT2
  go_enter Tryz.func119,Tryz.ntmps119
  obtain⟨x0,x1,x2,x3,x4,x5,x6,x7,x8⟩:=HK.out.cells9
  go_wp2
  go_ret
  exact⟨rfl,HB.out⟩
 have h01:¬ k.toList=[]:=fun h=>h0 (by have:k=⟨#[]⟩:=toList_inj.1 (h.trans (by simp));rw[this];rfl)
 have h02:k.toList.isEmpty=false:=by cases h:k.toList<;>simp_all
 by_cases h1:(k.size:Int)≤4096
 rotate_left
 ·obtain rfl:ok=false:=hok.trans (decide_eq_false fun h=>by omega)
  clear hok HT1 HT2 h0
  go_enter Tryz.func119,Tryz.ntmps119
  obtain⟨x0,x1,x2,x3,x4,x5,x6,x7,x8⟩:=HK.out.cells9
  go_wp2
  go_ret
  exact⟨rfl,HB.out⟩
 by_cases h2:(v.size:Int)≤4096
 rotate_left
 ·obtain rfl:ok=false:=hok.trans (decide_eq_false fun h=>by omega)
  clear hok HT1 HT2 h0
  go_enter Tryz.func119,Tryz.ntmps119
  obtain⟨x0,x1,x2,x3,x4,x5,x6,x7,x8⟩:=HK.out.cells9
  go_wp2
  go_ret
  exact⟨rfl,HB.out⟩
 by_cases h3:(nb:Int)≤65536
 rotate_left
 ·obtain rfl:ok=false:=hok.trans (decide_eq_false fun h=>by omega)
  clear hok HT1 HT2 h0
  go_enter Tryz.func119,Tryz.ntmps119
  obtain⟨x0,x1,x2,x3,x4,x5,x6,x7,x8⟩:=HK.out.cells9
  go_wp2
  go_ret
  exact⟨rfl,HB.out⟩
 have hok2:ok=(qW asked&&qW got):=by
  rw[hok]
  have h1':k.size≤4096:=by omega
  have h2':v.size≤4096:=by omega
  have h3':nb≤65536:=by omega
  cases qW asked<;>cases qW got<;>simp [h0,h1',h2',h3']
 clear hok
 have HOK:=aH hok2
 clear hok2 h0
 generalize qW asked=ta at *
 generalize qW got=tg at *
 go_enter Tryz.func119,Tryz.ntmps119
 obtain⟨x0,x1,x2,x3,x4,x5,x6,x7,x8⟩:=HK.out.cells9
 go_wp2_with fail
 clear x0 x1 x2 x3 x4 x5 x6 x7 x8
 refine (HT1.out _).mono ?_
 rintro e w1 ⟨rfl,hb1⟩
 have HB1:=aH (aA HB.out.size HB.out hb1)
 have HK1:=aH (HK.out.below hb1)
 clear hb1 HB HK HT1
 obtain⟨x0,x1,x2,x3,x4,x5,x6,x7,x8⟩:=HK1.out.cells9
 cases ta with
 | false =>
  obtain rfl:ok=false:=HOK.out
  go_wp2
  go_ret
  exact⟨rfl,HB1.out⟩
 | true =>
  obtain rfl:ok=tg:=by rw[HOK.out];rfl
  go_wp2_with fail
  clear x0 x1 x2 x3 x4 x5 x6 x7 x8
  refine (HT2.out _).mono ?_
  rintro e w2 ⟨rfl,hb2⟩
  have HB2:=aH (aA HB1.out.size HB1.out hb2)
  clear hb2
  go_wp2
  go_ret
  exact⟨rfl,HB2.out⟩
theorem aL9 {s m:Int} {r:ByteArray} {fs:List FD} (h:m < 0∨1 < m∨F.text r=false):F.eQ s r m fs=[]∧F.gW s r m fs=50:=by
 have h1:F.gW s r m fs=50:=if_pos h
 exact⟨if_neg (by rw[h1];decide),h1⟩
theorem aDK {s m:Int} {r:ByteArray} {fs:List FD} (h:¬ (m < 0∨1 < m∨F.text r=false)) (h2:s < 100∨599 < s):F.eQ s r m fs=[]∧F.gW s r m fs=53:=by
 have h1:F.gW s r m fs=53:=(if_neg h).trans (if_pos h2)
 exact⟨if_neg (by rw[h1];decide),h1⟩
theorem aPK {s m:Int} {r:ByteArray} {fs:List FD} (h:¬ (m < 0∨1 < m∨F.text r=false)) (h2:¬ (s < 100∨599 < s)):F.eQ s r m fs=F.iR (F.bG s r m) fs∧F.gW s r m fs=F.dP (F.bG s r m) fs:=by
 have h1:F.gW s r m fs=F.dP (F.bG s r m) fs:=(if_neg h).trans (if_neg h2)
 refine⟨?_,h1⟩
 unfold F.eQ
 rw[h1]
 split
 ·rfl
 ·rename_i h3
  exact (if_neg h3).symm
theorem oI (s:Int) (r:ByteArray) (m:Int) (A:Option Addr) (c:Nat) (fs:List FD) (w:World) (hr:r.size≤1073741824) (hf:F.bulk fs≤1073741824) (hx:Rd w A fs.length 2 (aJ fs)) (ht:iY w) :
  Calls Tryz.prog 118 #[.agg #[.int .i64 s,.string r,.int .i64 m,.slice A fs.length c]] w (fM w (F.eQ s r m fs) (F.gW s r m fs)):=by
 have HTX:=aH (fun u=>aEX r u (by omega))
 by_cases hbad:m < 0∨1 < m∨F.text r=false
 ·have HRB:=aH (aL9 (s:=s) (m:=m) (r:=r) (fs:=fs) hbad)
  generalize F.eQ s r m fs=PB at *
  generalize F.gW s r m fs=PE at *
  clear hx
  by_cases hm0:m < 0
  ·have g1:decide (m < 0)=true:=by simpa using hm0
   have g1:0≤0:=zA 0
   clear hbad HTX
   have HB0:=aH ((zB w.heap.size w).alloc (zA _) (.cells #[.int .i64 s,.string r,.int .i64 m,.slice A fs.length c] 38))
   go_enter Tryz.func118,Tryz.ntmps118
   go_wp2
   refine bK (v:=.tuple #[.slice none 0 0,.int .i64 50]) (by simp [results,Tryz.results118,go_sem]) rfl ?_
   exact fM.none_ HB0.out HRB.out.1 HRB.out.2
  ·by_cases hm1:1 < m
   ·have g1:decide (m < 0)=false:=by rw[decide_eq_false_iff_not];omega
    have g2:decide (m > 1)=true:=by rw[decide_eq_true_eq];omega
    have g1:0≤0:=zA 0
    have g7:¬ m < 0:=by omega
    clear hbad HTX
    have HB0:=aH ((zB w.heap.size w).alloc (zA _) (.cells #[.int .i64 s,.string r,.int .i64 m,.slice A fs.length c] 38))
    go_enter Tryz.func118,Tryz.ntmps118
    go_wp2
    refine bK (v:=.tuple #[.slice none 0 0,.int .i64 50]) (by simp [results,Tryz.results118,go_sem]) rfl ?_
    exact fM.none_ HB0.out HRB.out.1 HRB.out.2
   ·have htx:F.text r=false:=by
     rcases hbad with h | h | h
     ·exact absurd h hm0
     ·exact absurd h hm1
     ·exact h
    rw[htx]at HTX
    clear hbad htx
    go_enter Tryz.func118,Tryz.ntmps118
    go_wp2_with fail
    have HK0:=aH (Blk.new w #[.int .i64 s,.string r,.int .i64 m,.slice A fs.length c] 38)
    have HB0:=aH ((zB w.heap.size w).alloc (zA _) (.cells #[.int .i64 s,.string r,.int .i64 m,.slice A fs.length c] 38))
    generalize w.alloc (.cells #[.int .i64 s,.string r,.int .i64 m,.slice A fs.length c] 38)=w0 at *
    refine (HTX.out _).mono ?_
    rintro e w1 ⟨rfl,hb1⟩
    replace HK0:=aH (HK0.out.below hb1)
    replace HB0:=aH (aA HB0.out.size HB0.out hb1)
    obtain⟨x0,x1,x2,x3⟩:=HK0.out.cells4
    clear hb1 HTX
    go_wp2
    refine bK (v:=.tuple #[.slice none 0 0,.int .i64 50]) (by simp [results,Tryz.results118,go_sem]) rfl ?_
    exact fM.none_ HB0.out HRB.out.1 HRB.out.2
 ·have htx:F.text r=true:=by
   rcases tf (F.text r) with h | h
   ·exact h
   ·exact absurd (.inr (.inr h)) hbad
  rw[htx]at HTX
  have hm0:¬ m < 0:=fun h=>hbad (.inl h)
  have hm1:¬ 1 < m:=fun h=>hbad (.inr (.inl h))
  by_cases hst:s < 100∨599 < s
  ·have HRB:=aH (aDK (s:=s) (m:=m) (r:=r) (fs:=fs) hbad hst)
   generalize F.eQ s r m fs=PB at *
   generalize F.gW s r m fs=PE at *
   clear hx hbad htx
   by_cases hs1:s < 100
   ·have g8:decide (s < 100)=true:=by simpa using hs1
    clear hst
    go_enter Tryz.func118,Tryz.ntmps118
    go_wp2_with fail
    have HK0:=aH (Blk.new w #[.int .i64 s,.string r,.int .i64 m,.slice A fs.length c] 38)
    have HB0:=aH ((zB w.heap.size w).alloc (zA _) (.cells #[.int .i64 s,.string r,.int .i64 m,.slice A fs.length c] 38))
    generalize w.alloc (.cells #[.int .i64 s,.string r,.int .i64 m,.slice A fs.length c] 38)=w0 at *
    refine (HTX.out _).mono ?_
    rintro e w1 ⟨rfl,hb1⟩
    replace HK0:=aH (HK0.out.below hb1)
    replace HB0:=aH (aA HB0.out.size HB0.out hb1)
    obtain⟨x0,x1,x2,x3⟩:=HK0.out.cells4
    clear hb1 HTX
    go_wp2
    refine bK (v:=.tuple #[.slice none 0 0,.int .i64 53]) (by simp [results,Tryz.results118,go_sem]) rfl ?_
    exact fM.none_ HB0.out HRB.out.1 HRB.out.2
   ·have hs2:599 < s:=by omega
    have g8:decide (s < 100)=false:=by rw[decide_eq_false_iff_not];omega
    have g9:decide (s > 599)=true:=by rw[decide_eq_true_eq];omega
    clear hst
    go_enter Tryz.func118,Tryz.ntmps118
    go_wp2_with fail
    have HK0:=aH (Blk.new w #[.int .i64 s,.string r,.int .i64 m,.slice A fs.length c] 38)
    have HB0:=aH ((zB w.heap.size w).alloc (zA _) (.cells #[.int .i64 s,.string r,.int .i64 m,.slice A fs.length c] 38))
    generalize w.alloc (.cells #[.int .i64 s,.string r,.int .i64 m,.slice A fs.length c] 38)=w0 at *
    refine (HTX.out _).mono ?_
    rintro e w1 ⟨rfl,hb1⟩
    replace HK0:=aH (HK0.out.below hb1)
    replace HB0:=aH (aA HB0.out.size HB0.out hb1)
    obtain⟨x0,x1,x2,x3⟩:=HK0.out.cells4
    clear hb1 HTX
    go_wp2
    refine bK (v:=.tuple #[.slice none 0 0,.int .i64 53]) (by simp [results,Tryz.results118,go_sem]) rfl ?_
    exact fM.none_ HB0.out HRB.out.1 HRB.out.2
  ·have HRB:=aH (aPK (s:=s) (m:=m) (r:=r) (fs:=fs) hbad hst)
   have hs1:¬ s < 100:=fun h=>hst (.inl h)
   have hs2:¬ 599 < s:=fun h=>hst (.inr h)
   have zI:(B (Lib.itoa m)).size≤21:=by rw[iZ];exact Lib.itoa_length_le m (by omega) (by omega)
   have zJ:(B (Lib.itoa s)).size≤21:=by rw[iZ];exact Lib.itoa_length_le s (by omega) (by omega)
   have HI:=aH (fun (u:World) (hb:Below w.heap.size w u)=>aFJ m (by omega) (by omega) u (ht.below hb))
   have HJ:=aH (fun (u:World) (hb:Below w.heap.size w u)=>aFJ s (by omega) (by omega) u (ht.below hb))
   have hline:L (⟨#[72,84,84,80,47,49,46]⟩++B (Lib.itoa m)++⟨#[32]⟩++B (Lib.itoa s)++⟨#[32]⟩++r:ByteArray)=F.bG s r m:=by
    simp only[dG]
    rfl
   have hlsz:(⟨#[72,84,84,80,47,49,46]⟩++B (Lib.itoa m)++⟨#[32]⟩++B (Lib.itoa s)++⟨#[32]⟩++r:ByteArray).size=7+(B (Lib.itoa m)).size+1+(B (Lib.itoa s)).size+1+r.size:=by
    simp only[ByteArray.size_append]
    rfl
   have HWH:=aH (fun (u:World) (hb:Below w.heap.size w u)=>aIG (⟨#[72,84,84,80,47,49,46]⟩++B (Lib.itoa m)++⟨#[32]⟩++B (Lib.itoa s)++⟨#[32]⟩++r:ByteArray) A c fs u (by omega) hf (hx.below hb))
   rw[hline]at HWH
   generalize F.eQ s r m fs=PB at *
   generalize F.gW s r m fs=PE at *
   generalize F.iR (F.bG s r m) fs=WB at *
   generalize F.dP (F.bG s r m) fs=WE at *
   clear hline hlsz
   generalize B (Lib.itoa m)=I at *
   generalize B (Lib.itoa s)=J at *
   have hq1:7+I.size≤9223372036854775807:=by omega
   have hq2:7+I.size+1≤9223372036854775807:=by omega
   have hq3:7+I.size+1+J.size≤9223372036854775807:=by omega
   have hq4:7+I.size+1+J.size+1≤9223372036854775807:=by omega
   have hq5:7+I.size+1+J.size+1+r.size≤9223372036854775807:=by omega
   clear hx hbad htx hst
   go_enter Tryz.func118,Tryz.ntmps118
   go_wp2_with fail
   have HK0:=aH (Blk.new w #[.int .i64 s,.string r,.int .i64 m,.slice A fs.length c] 38)
   have HB0:=aH ((zB w.heap.size w).alloc (zA _) (.cells #[.int .i64 s,.string r,.int .i64 m,.slice A fs.length c] 38))
   generalize w.alloc (.cells #[.int .i64 s,.string r,.int .i64 m,.slice A fs.length c] 38)=w0 at *
   refine (HTX.out _).mono ?_
   rintro e w1 ⟨rfl,hb1⟩
   replace HK0:=aH (HK0.out.below hb1)
   replace HB0:=aH (aA HB0.out.size HB0.out hb1)
   obtain⟨x0,x1,x2,x3⟩:=HK0.out.cells4
   clear hb1 HTX
   go_wp2
   have hS0:=And.intro HK0.out.drew HB0.out.drew
   clear HK0 HB0
   refine wp_region_noPanic ?_
   refine HT.begin (n:=18) (S:=(fun u=>Blk u w.heap.size #[.int .i64 s,.string r,.int .i64 m,.slice A fs.length c] 38∧Below w.heap.size w u)) (by kernel_rfl) hS0 ?_
   refine HT.take 0 (.pointer (some ⟨w.heap.size,2,none⟩)) rfl (by kernel_rfl) (fun _ _ _ h=>h) (Or.inl ⟨by rfl,?_⟩) ?_
   ·intro u hu
    go_simp
   refine HT.take 1 (.int .i64 m) rfl (by kernel_rfl) (fun _ _ _ h=>h) (Or.inl ⟨by rfl,?_⟩) ?_
   ·intro u hu
    obtain⟨x0,x1,x2,x3⟩:=hu.1.cells4
    go_simp
   refine HT.take 5 (.pointer (some ⟨w.heap.size,0,none⟩)) rfl (by kernel_rfl) (fun _ _ _ h=>h) (Or.inl ⟨by rfl,?_⟩) ?_
   ·intro u hu
    go_simp
   refine HT.take 6 (.int .i64 s) rfl (by kernel_rfl) (fun _ _ _ h=>h) (Or.inl ⟨by rfl,?_⟩) ?_
   ·intro u hu
    obtain⟨x0,x1,x2,x3⟩:=hu.1.cells4
    go_simp
   refine HT.take 10 (.pointer (some ⟨w.heap.size,1,none⟩)) rfl (by kernel_rfl) (fun _ _ _ h=>h) (Or.inl ⟨by rfl,?_⟩) ?_
   ·intro u hu
    go_simp
   refine HT.take 11 (.string r) rfl (by kernel_rfl) (fun _ _ _ h=>h) (Or.inl ⟨by rfl,?_⟩) ?_
   ·intro u hu
    obtain⟨x0,x1,x2,x3⟩:=hu.1.cells4
    go_simp
   refine HT.take 13 (.pointer (some ⟨w.heap.size,3,none⟩)) rfl (by kernel_rfl) (fun _ _ _ h=>h) (Or.inl ⟨by rfl,?_⟩) ?_
   ·intro u hu
    go_simp
   refine HT.take 14 (.slice A fs.length c) rfl (by kernel_rfl) (fun _ _ _ h=>h) (Or.inl ⟨by rfl,?_⟩) (?_:HT _ _ _ _ _ _ _ ⟨#[_,_,_,_,_,_,_,_,_,_,_,_,_,_,_,_,_,_,_,_,_,_,_,_,_,_,_,_,.pointer (some ⟨w.heap.size,2,none⟩),.int .i64 m,_,_,_,.pointer (some ⟨w.heap.size,0,none⟩),.int .i64 s,_,_,_,.pointer (some ⟨w.heap.size,1,none⟩),.string r,_,.pointer (some ⟨w.heap.size,3,none⟩),.slice A fs.length c,_,_,_],[]⟩ _)
   ·intro u hu
    obtain⟨x0,x1,x2,x3⟩:=hu.1.cells4
    go_simp
   refine HT.step 2 rfl (by kernel_rfl) (fun hS K hK=>?_)
   go_simp
   refine (HI.out _ hS.2).mono ?_
   rintro e w2 ⟨rfl,hb2⟩
   refine hK.out _ _ ⟨hS.1.below hb2,aA hS.2.size hS.2 hb2⟩ ?_
   clear hK hS hb2 hS0
   refine HT.take 3 (.string (⟨#[72,84,84,80,47,49,46]⟩++I)) rfl (by kernel_rfl) (fun _ _ _ h=>h) (Or.inl ⟨by rfl,?_⟩) ?_
   ·intro u hu
    go_simp
   refine HT.take 4 (.string (⟨#[72,84,84,80,47,49,46]⟩++I++⟨#[32]⟩)) rfl (by kernel_rfl) (fun _ _ _ h=>h) (Or.inl ⟨by rfl,?_⟩) (?_:HT _ _ _ _ _ _ _ ⟨#[_,_,_,_,_,_,_,_,_,_,_,_,_,_,_,_,_,_,_,_,_,_,_,_,_,_,_,_,.pointer (some ⟨w.heap.size,2,none⟩),.int .i64 m,.string I,.string (⟨#[72,84,84,80,47,49,46]⟩++I),.string (⟨#[72,84,84,80,47,49,46]⟩++I++⟨#[32]⟩),.pointer (some ⟨w.heap.size,0,none⟩),.int .i64 s,_,_,_,.pointer (some ⟨w.heap.size,1,none⟩),.string r,_,.pointer (some ⟨w.heap.size,3,none⟩),.slice A fs.length c,_,_,_],[]⟩ _)
   ·intro u hu
    go_simp
   refine HT.step 7 rfl (by kernel_rfl) (fun hS K hK=>?_)
   go_simp
   refine (HJ.out _ hS.2).mono ?_
   rintro e w3 ⟨rfl,hb3⟩
   refine hK.out _ _ ⟨hS.1.below hb3,aA hS.2.size hS.2 hb3⟩ ?_
   clear hK hS hb3
   refine HT.take 8 (.string (⟨#[72,84,84,80,47,49,46]⟩++I++⟨#[32]⟩++J)) rfl (by kernel_rfl) (fun _ _ _ h=>h) (Or.inl ⟨by rfl,?_⟩) ?_
   ·intro u hu
    go_simp
   refine HT.take 9 (.string (⟨#[72,84,84,80,47,49,46]⟩++I++⟨#[32]⟩++J++⟨#[32]⟩)) rfl (by kernel_rfl) (fun _ _ _ h=>h) (Or.inl ⟨by rfl,?_⟩) ?_
   ·intro u hu
    go_simp
   refine HT.take 12 (.string (⟨#[72,84,84,80,47,49,46]⟩++I++⟨#[32]⟩++J++⟨#[32]⟩++r)) rfl (by kernel_rfl) (fun _ _ _ h=>h) (Or.inl ⟨by rfl,?_⟩) (?_:HT _ _ _ _ _ _ _ ⟨#[_,_,_,_,_,_,_,_,_,_,_,_,_,_,_,_,_,_,_,_,_,_,_,_,_,_,_,_,.pointer (some ⟨w.heap.size,2,none⟩),.int .i64 m,.string I,.string (⟨#[72,84,84,80,47,49,46]⟩++I),.string (⟨#[72,84,84,80,47,49,46]⟩++I++⟨#[32]⟩),.pointer (some ⟨w.heap.size,0,none⟩),.int .i64 s,.string J,.string (⟨#[72,84,84,80,47,49,46]⟩++I++⟨#[32]⟩++J),.string (⟨#[72,84,84,80,47,49,46]⟩++I++⟨#[32]⟩++J++⟨#[32]⟩),.pointer (some ⟨w.heap.size,1,none⟩),.string r,.string (⟨#[72,84,84,80,47,49,46]⟩++I++⟨#[32]⟩++J++⟨#[32]⟩++r),.pointer (some ⟨w.heap.size,3,none⟩),.slice A fs.length c,_,_,_],[]⟩ _)
   ·intro u hu
    go_simp
   refine HT.step 15 rfl (by kernel_rfl) (fun hS K hK=>?_)
   go_simp
   refine (HWH.out _ hS.2).mono ?_
   rintro e w4 ⟨R0,d,rfl,hr4,hb4⟩
   refine hK.out _ _ ⟨hS.1.below hb4,aA hS.2.size hS.2 hb4⟩ ?_
   have HR4:=aH (hr4.mono hS.2.size)
   clear hK hS hb4 hr4
   refine HT.take 16 (.slice R0 WB.length d) rfl (by kernel_rfl) (fun _ _ _ h=>h) (Or.inl ⟨by rfl,?_⟩) ?_
   ·intro u hu
    go_simp
   refine HT.take 17 (.int .i64 WE) rfl (by kernel_rfl) (fun _ _ _ h=>h) (Or.inl ⟨by rfl,?_⟩) (?_:HT _ _ _ _ _ _ _ ⟨#[_,_,_,_,_,_,_,_,_,_,_,_,_,_,_,_,_,_,_,_,_,_,_,_,_,_,_,_,.pointer (some ⟨w.heap.size,2,none⟩),.int .i64 m,.string I,.string (⟨#[72,84,84,80,47,49,46]⟩++I),.string (⟨#[72,84,84,80,47,49,46]⟩++I++⟨#[32]⟩),.pointer (some ⟨w.heap.size,0,none⟩),.int .i64 s,.string J,.string (⟨#[72,84,84,80,47,49,46]⟩++I++⟨#[32]⟩++J),.string (⟨#[72,84,84,80,47,49,46]⟩++I++⟨#[32]⟩++J++⟨#[32]⟩),.pointer (some ⟨w.heap.size,1,none⟩),.string r,.string (⟨#[72,84,84,80,47,49,46]⟩++I++⟨#[32]⟩++J++⟨#[32]⟩++r),.pointer (some ⟨w.heap.size,3,none⟩),.slice A fs.length c,.tuple #[.slice R0 WB.length d,.int .i64 WE],.slice R0 WB.length d,.int .i64 WE],[]⟩ _)
   ·intro u hu
    go_simp
   refine HT.tail _ rfl rfl (by kernel_rfl) (fun hS=>?_)
   have HB:=aH hS.2
   clear hS
   go_wp2
   refine NoPanic.normal ?_
   go_wp2
   refine bK (v:=.tuple #[.slice R0 WB.length d,.int .i64 WE]) (by simp [results,Tryz.results118,go_sem]) rfl ?_
   rw[HRB.out.1,HRB.out.2]
   exact⟨R0,d,rfl,HR4.out,HB.out⟩
end Go.Proofs.YthjeglnkgdpijaaGreatDoor
