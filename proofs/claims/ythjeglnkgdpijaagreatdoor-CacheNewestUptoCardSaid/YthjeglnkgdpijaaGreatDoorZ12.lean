/- The walks of CopyBytes, Spare and hop's length. Conditions: lists of at most 2^40 elements, a number of 64 bits, the library's table of powers of ten. The walks of be.Put, the document's Number. Conditions: a number of 63 bits that isn't negative, at most eight bytes. The walks of rec.Sum and the document's Sum. Conditions: a row of at most 2^40 bytes. The walks of the document's section, of inTime, time and both Id. Conditions: a tag below 256, rows of at most 2^31 bytes; the data lie apart from the list that is written on. The walk of object.right; an entry's cells. Conditions: none. The walks of tok.Quote, of head.text and of the document's text. Conditions: texts of at most 2^40 bytes. The walks of tok.Quote and of head.text. Conditions: texts of at most 2^40 bytes. What a response's reading tells of sizes, and its three ways. No program here. trial The walks of head.whole, head.PrintRequest and of the document's. Conditions: a list of bulk at most 2^30, texts of at most 2^30 bytes, a number of 64 bits, the library's table of powers of ten. -/
import Derived.Test.YthjeglnkgdpijaaGreatDoorZ10
import Derived.IntWalk
import Derived.Laws.MakeOwn
import Derived.Laws.BitsAllLaws
import Derived.Shelf.Strings.Builder1
import Derived.Lib.ItoaLen
set_option maxHeartbeats 1000000
set_option maxRecDepth 100000
namespace Go.Proofs.YthjeglnkgdpijaaGreatDoor
open Go.RowKit
def marks:List UInt8:=[201,202,203,204,205,206,207,208]
theorem marks_at (k:Nat) (h:k < 8):marks.take (k+1)=marks.take k++[UInt8.ofNat (201+k)]:=by
 have:∀ j:Fin 8,marks.take (j.1+1)=marks.take j.1++[UInt8.ofNat (201+j.1)]:=by decide
 exact this ⟨k,h⟩
theorem grown_trans {a b c:World} {r:Option Nat} (h1:Below a.heap.size a b) (h2:b.grownBy c r):a.grownBy c r :=
 ⟨h2.os.trans h1.os,h2.tape.trans h1.tape,h2.output.trans h1.output,Nat.le_trans h1.size h2.size,fun k hk hne=>(h2.block k (Nat.lt_of_lt_of_le hk h1.size) hne).trans (h1.block k hk)⟩
def dig (v i:Nat):UInt8:=UInt8.ofNat (v / 2 ^ (8 * i) % 256)
def beN (v:Nat):Nat→List UInt8
 | 0=>[]
 | k+1=>dig v k::beN v k
theorem beN_len (v:Nat):∀ k,(beN v k).length=k
 | 0=>rfl
 | k+1=>by rw[beN,List.length_cons,beN_len v k]
theorem dig_nat (v i:Nat):((dig v i).toNat:Int)=(v:Int) / 2 ^ (8 * i) % 256:=by
 have h:(dig v i).toNat=v / 2 ^ (8 * i) % 256:=by
  unfold dig
  rw[UInt8.toNat_ofNat']
  exact Nat.mod_mod _ _
 rw[h,Int.natCast_emod,Int.natCast_ediv,Int.natCast_pow]
 rfl
theorem App.next {w w1 w2:World} {A A1 A2:Option Addr} {c c1 c2:Nat} (h1:App w w1 A c A1 c1) (h2:App w1 w2 A1 c1 A2 c2):App w w2 A c A2 c2:=by
 refine⟨h1.grown.andThen h2.grown fun j hj=>?_,?_⟩
 ·rcases h1.moved with ⟨rfl,rfl⟩ | ⟨g,rfl,hg⟩
  ·exact .inr hj
  ·unfold ownB at hj
   split at hj
   ·cases hj
   ·simp at hj
    exact .inl (by omega)
 ·rcases h2.moved with ⟨rfl,rfl⟩ | ⟨g,rfl,hg⟩
  ·exact h1.moved
  ·exact .inr ⟨g,rfl,Nat.le_trans h1.grown.size hg⟩
theorem App.pre {w w1 w2:World} {A A2:Option Addr} {c c2:Nat} (h1:Below w.heap.size w w1) (h2:App w1 w2 A c A2 c2):App w w2 A c A2 c2 :=
 ⟨grown_trans h1 h2.grown,h2.moved.imp id fun⟨g,h,hg⟩=>⟨g,h,Nat.le_trans h1.size hg⟩⟩
theorem App.start (w:World) (A:Option Addr) (c:Nat):App w w A c A c:=⟨World.grownBy.refl _ _,.inl ⟨rfl,rfl⟩⟩
theorem put_be (base:Nat) (A:Option Addr) (c v k:Nat) (bs:List UInt8) (w:World) (hn:bs.length≤1099511627776) (hk:k≤8) (hv:v < 9223372036854775808) (hr:CRow w base A bs.length c bs) (hb:base≤w.heap.size) :
  Calls Tryz.prog 120 #[.slice A bs.length c,.int .i64 v,.int .i64 k] w (fun e w'=>∃ A' c',e=.returned (.slice A' (bs.length+k) c')∧CRow w' base A' (bs.length+k) c' (bs++beN v k)∧App w w' A c A' c'):=by
 have HR:=Lib.hid hr
 obtain⟨n,hnn⟩:∃ n,n=bs.length:=⟨_,rfl⟩
 rw[← hnn]at HR hn ⊢
 clear hr
 go_enter Tryz.func120,Tryz.ntmps120
 go_wp2
 go_loopw [0,7] (fun o i wr=>∃ (j:Nat) (A2:Option Addr) (c2:Nat) (xs:List UInt8),j≤k∧i=.int .i64 ((j:Int) - 1)∧o=.slice A2 (n+k - j) c2∧CRow wr base A2 (n+k - j) c2 xs∧xs++beN v j=bs++beN v k∧App w wr A c A2 c2) (fun _ i _=>(intOf i+1).toNat)
 case atStart=>exact⟨k,A,c,bs,Nat.le_refl _,by go_num,by rw[Nat.add_sub_cancel],by rw[Nat.add_sub_cancel];exact HR.out,rfl,App.start _ _ _⟩
 case round =>
  obtain⟨j,A2,c2,xs,hj,rfl,rfl,hrow,hxs,happ⟩:=hrel
  have HROW:=Lib.hid hrow
  have HAPP:=Lib.hid happ
  have HXS:=Lib.hid hxs
  have hz:=happ.grown.size
  clear hrow happ hxs HR
  rcases Nat.eq_zero_or_pos j with h0 | h0
  ·subst h0
   go_wp2
   go_ret
   refine⟨A2,c2,by rw[Nat.sub_zero];rfl,?_,HAPP.out⟩
   have h1:=HROW.out
   have h2:=HXS.out
   rw[beN,List.append_nil]at h2
   rw[Nat.sub_zero,h2]at h1
   exact h1
  ·have hmb:n+k - j≤1099511627784:=by omega
   obtain⟨i,rfl⟩:∃ i,j=i+1:=⟨j - 1,by omega⟩
   have e1:((i+1:Nat):Int) - 1=(i:Int):=by omega
   rw[e1]
   obtain⟨m,hm⟩:∃ m,m=n+k - (i+1):=⟨_,rfl⟩
   rw[← hm]at HROW hmb ⊢
   have hi0:(0:Int)≤(i:Int):=by omega
   have hnew:=fun u:World=>newB u (dig v i)
   rw[dig_nat]at hnew
   have HNEW:=Lib.hid hnew
   clear hnew
   have HML:Hid (n+k - i=m+1):=Lib.hid (by omega)
   clear hm
   go_wp2_with (at_builtin;refine appC _ rfl (.tmp 14) (.tmp 21) rfl base A2 m c2 xs rfl (HROW.out.alloc _) _ 1 1 [dig v i] rfl (HNEW.out _) (by omega) (by rw[World.size_alloc];omega) ?_;intro A3 c3 w3 hr3 ha3;have HR3:=Lib.hid hr3;have HA3:=Lib.hid (App.next HAPP.out (App.pre ((Below.refl _ _).alloc (Nat.le_refl _) _) ha3));clear hr3 ha3)
   go_roundw
   case rel =>
    refine⟨i,A3,c3,xs++[dig v i],by omega,by go_num,?_,?_,?_,HA3.out⟩
    ·rw[HML.out]
    ·rw[HML.out];exact HR3.out
    ·have:=HXS.out
     rw[beN]at this
     rw[List.append_assoc]
     exact this
   case measure=>simp [intOf]
def bitS (v:Nat):Nat:=if v % 2=1 then v / 2 ^^^ 3988292384 else v / 2
def bitsS (v:Nat):Nat→Nat
 | 0=>v
 | k+1=>bitS (bitsS v k)
def byteS (v:Nat) (c:UInt8):Nat:=bitsS (v ^^^ c.toNat) 8
def sumS (bs:List UInt8):Nat:=bs.foldl byteS 4294967295
def sumN (bs:List UInt8):Nat:=sumS bs ^^^ 4294967295
theorem xor_lt {a b:Nat} (ha:a < 4294967296) (hb:b < 4294967296):a ^^^ b < 4294967296:=Nat.xor_lt_two_pow (n:=32) ha hb
theorem bitS_lt {v:Nat} (h:v < 4294967296):bitS v < 4294967296:=by
 unfold bitS
 split
 ·exact xor_lt (by omega) (by decide)
 ·omega
theorem bitsS_lt {v:Nat} (h:v < 4294967296):∀ k,bitsS v k < 4294967296
 | 0=>h
 | k+1=>bitS_lt (bitsS_lt h k)
theorem byteS_lt {v:Nat} (h:v < 4294967296) (c:UInt8):byteS v c < 4294967296:=bitsS_lt (xor_lt h (by have:=c.toNat_lt;omega)) 8
theorem foldS_lt:∀ (bs:List UInt8) (v:Nat),v < 4294967296→bs.foldl byteS v < 4294967296
 | [],_,h=>h
 | c::bs,_,h=>foldS_lt bs _ (byteS_lt h c)
theorem sumS_lt (bs:List UInt8):sumS bs < 4294967296:=foldS_lt bs _ (by decide)
theorem sumN_lt (bs:List UInt8):sumN bs < 4294967296:=xor_lt (sumS_lt bs) (by decide)
theorem sumS_next (bs:List UInt8) (i:Nat) (h:i < bs.length):sumS (bs.take (i+1))=byteS (sumS (bs.take i)) bs[i]:=by
 unfold sumS
 rw[List.take_add_one,List.getElem?_eq_getElem h,List.foldl_append]
 rfl
theorem step_eq (q:Nat) (h:q < 4294967296):bits .xor .u32 ((q:Int) / 2) (bits .and .u32 3988292384 (-bits .and .u32 (q:Int) 1 % 4294967296))=((bitS q:Nat):Int):=by
 have hand:=u32_and_nat q 1 h (by decide)
 rw[Nat.and_one_is_mod,show ((1:Nat):Int)=1 from rfl]at hand
 have hd:(q:Int) / 2=((q / 2:Nat):Int):=by omega
 rw[hand,hd]
 unfold bitS
 rcases (by omega:q % 2=1∨q % 2=0) with h2 | h2
 ·rw[h2,if_pos rfl]
  have h3:=u32_and_nat 3988292384 4294967295 (by decide) (by decide)
  have h4:(3988292384 &&& 4294967295:Nat)=3988292384:=by decide
  rw[h4]at h3
  have h5:(-((1:Nat):Int)) % 4294967296=((4294967295:Nat):Int):=by decide
  rw[h5,show (3988292384:Int)=((3988292384:Nat):Int) from rfl,h3]
  exact u32_xor_nat _ _ (by omega) (by decide)
 ·rw[h2,if_neg (by decide)]
  have h3:=u32_and_nat 3988292384 0 (by decide) (by decide)
  rw[Nat.and_zero]at h3
  have h5:(-((0:Nat):Int)) % 4294967296=((0:Nat):Int):=by decide
  rw[h5,show (3988292384:Int)=((3988292384:Nat):Int) from rfl,h3]
  have:=u32_xor_nat (q / 2) 0 (by omega) (by decide)
  rw[Nat.xor_zero]at this
  exact this
theorem sum_any (A:Option Addr) (c:Nat) (bs:List UInt8) (w:World) (hn:bs.length≤1099511627776) (hx:Rd w A bs.length 1 (bcells bs)) :
  Calls Tryz.prog 121 #[.slice A bs.length c] w (fun e w'=>e=.returned (.int .i64 (sumN bs))∧Below w.heap.size w w'):=by
 have HX:=Lib.hid hx
 clear hx
 obtain⟨n,hnn⟩:∃ n,n=bs.length:=⟨_,rfl⟩
 rw[← hnn]at HX hn ⊢
 have HN:=Lib.hid hnn
 clear hnn
 go_enter Tryz.func121,Tryz.ntmps121
 go_wp2
 go_loopw [3,8] (fun x i wr=>∃ k:Nat,k≤n∧i=.int .i64 k∧x=.int .u32 (sumS (bs.take k))∧w=wr) (fun _ i _=>n - (intOf i).toNat)
 case atStart=>exact⟨0,Nat.zero_le _,rfl,rfl,rfl⟩
 case round =>
  obtain⟨k,hk,rfl,rfl,rfl⟩:=hrel
  have hvl:=sumS_lt (bs.take k)
  by_cases hlt:k < n
  ·have hkb:k < bs.length:=by have:=HN.out;omega
   obtain⟨b,o,hA,hblt,hcs⟩:=HX.out.2 (by omega)
   have hce:=hcs k (.int .u8 (bs[k]'hkb).toNat) (by simp [bcells,hkb])
   have HNX:=Lib.hid (sumS_next bs k hkb)
   have hy:=(bs[k]'hkb).toNat_lt
   generalize (bs[k]'hkb)=y at *
   generalize sumS (bs.take k)=x at *
   subst hA
   have hxor:=u32_xor_nat x y.toNat hvl (by omega)
   have hxl:=xor_lt (b:=y.toNat) hvl (by omega)
   clear hcs HX
   obtain⟨z,hz⟩:∃ z,z=x ^^^ y.toNat:=⟨_,rfl⟩
   rw[← hz]at hxor hxl
   have HNX':Hid (sumS (bs.take (k+1))=bitsS z 8):=by
    have h:=HNX.out
    unfold byteS at h
    rw[← hz]at h
    exact Lib.hid h
   clear hz HNX
   go_wp2_with fail
   go_loopw [3,16] (fun x i wi=>∃ j:Nat,j≤8∧i=.int .i64 j∧x=.int .u32 (bitsS z j)∧w=wi) (fun _ i _=>8 - (intOf i).toNat)
   case atStart=>exact⟨0,Nat.zero_le _,rfl,rfl,rfl⟩
   case round =>
    obtain⟨j,hj,rfl,rfl,rfl⟩:=hrel
    have hql:=bitsS_lt hxl j
    have HS:Hid (bitsS z (j+1)=bitS (bitsS z j)):=Lib.hid rfl
    by_cases hj8:j < 8
    ·generalize bitsS z j=q at *
     have HST:=Lib.hid (step_eq q hql)
     go_wp2_with fail
     refine⟨⟨j+1,by omega,by go_num,?_,trivial⟩,by simp [intOf];omega⟩
     rw[HST.out,← HS.out]
    ·obtain rfl:j=8:=by omega
     rw[← HNX'.out]
     clear HS
     go_wp2_with fail
     exact⟨⟨k+1,by omega,by go_num,rfl,trivial⟩,by simp [intOf];omega⟩
  ·obtain rfl:k=n:=by omega
   have hst:bs.take k=bs:=List.take_of_length_le (by have:=HN.out;omega)
   rw[hst]
   rw[hst]at hvl
   have HU:Hid (sumN bs=sumS bs ^^^ 4294967295):=Lib.hid rfl
   clear hst
   generalize sumS bs=x at *
   have hxor:=u32_xor_nat 4294967295 x (by decide) hvl
   rw[Nat.xor_comm,← HU.out]at hxor
   have hmx:bits .xor .u32 IntKind.u32.max (x:Int)=((sumN bs:Nat):Int):=hxor
   have hwr:wrap64 ((sumN bs:Nat):Int)=((sumN bs:Nat):Int):=by
    have:=sumN_lt bs
    unfold wrap64
    omega
   have HR:Hid (wrap64 (bits .xor .u32 IntKind.u32.max (x:Int))=((sumN bs:Nat):Int)):=by
    rw[hmx];exact Lib.hid hwr
   clear hxor hmx hwr
   go_wp2
   go_ret
   refine⟨?_,Below.refl _ _⟩
   show Ending.returned (.int .i64 (wrap64 (bits .xor .u32 IntKind.u32.max (x:Int))))=_
   rw[HR.out]
def secB (t:Nat) (data:List UInt8):List UInt8:=UInt8.ofNat t::(beN data.length 4++data)
theorem secB_len (t:Nat) (data:List UInt8):(secB t data).length=5+data.length:=by
 unfold secB
 rw[List.length_cons,List.length_append,beN_len]
 omega
def timeB (v:Int):Bool:=decide (0≤v∧v≤253402300799)
theorem inTime_any (v:Int) (w:World):Calls Tryz.prog 157 #[.int .i64 v] w (RetB w (timeB v)):=by
 by_cases h0:0≤v
 ·by_cases h1:v≤253402300799
  ·rw[show timeB v=true from decide_eq_true ⟨h0,h1⟩]
   go_enter Tryz.func157,Tryz.ntmps157
   go_wp2
   go_ret
   exact⟨rfl,Below.refl _ _⟩
  ·rw[show timeB v=false from decide_eq_false fun h=>h1 h.2]
   go_enter Tryz.func157,Tryz.ntmps157
   go_wp2
   go_ret
   exact⟨rfl,Below.refl _ _⟩
 ·rw[show timeB v=false from decide_eq_false fun h=>h0 h.1]
  go_enter Tryz.func157,Tryz.ntmps157
  go_wp2
  go_ret
  exact⟨rfl,Below.refl _ _⟩
theorem id_any (k v:ByteArray) (w:World) (hk:k.size≤1073741824) (hv:v.size≤1073741824):Calls Tryz.prog 33 #[.string k,.string v] w (RetS w (k++⟨#[10]⟩++v)):=by
 go_enter Tryz.func33,Tryz.ntmps33
 go_wp2
 go_ret
 exact⟨rfl,Below.refl _ _⟩
theorem refId_any (k v:ByteArray) (w:World) (hk:k.size≤1073741824) (hv:v.size≤1073741824):Calls Tryz.prog 21 #[.string k,.string v] w (RetS w (k++⟨#[10]⟩++v)):=by
 go_enter Tryz.func21,Tryz.ntmps21
 go_wp2
 go_ret
 exact⟨rfl,Below.refl _ _⟩
section
variable {w:World} {b:Nat} {x0 x1 x2 x3 x4 x5 x6 x7 x8:Value} {t:TypeId}
theorem Blk.cells9 (h:Blk w b #[x0,x1,x2,x3,x4,x5,x6,x7,x8] t):w.cell? ⟨b,0,none⟩=some x0∧w.cell? ⟨b,1,none⟩=some x1∧w.cell? ⟨b,2,none⟩=some x2∧w.cell? ⟨b,3,none⟩=some x3∧w.cell? ⟨b,4,none⟩=some x4∧w.cell? ⟨b,5,none⟩=some x5∧w.cell? ⟨b,6,none⟩=some x6∧w.cell? ⟨b,7,none⟩=some x7∧w.cell? ⟨b,8,none⟩=some x8 :=
 ⟨h.cell 0 rfl,h.cell 1 rfl,h.cell 2 rfl,h.cell 3 rfl,h.cell 4 rfl,h.cell 5 rfl,h.cell 6 rfl,h.cell 7 rfl,h.cell 8 rfl⟩
end
def okE (k v:ByteArray) (nb:Nat) (asked got:Int):Bool:=decide (k.size≠0∧k.size≤4096∧v.size≤4096∧nb≤65536∧timeB asked=true∧timeB got=true)
theorem empty_of_size {k:ByteArray} (h:k.size=0):k=⟨#[]⟩:=by
 obtain⟨d⟩:=k
 have:d=#[]:=Array.eq_empty_of_size_eq_zero h
 rw[this]
theorem right_any (k v:ByteArray) (s:Int) (r:ByteArray) (m:Int) (A:Option Addr) (nf cf:Nat) (X:Option Addr) (nb cb:Nat) (asked got:Int) (w:World):Calls Tryz.prog 119 #[.agg #[.string k,.string v,.int .i64 s,.string r,.int .i64 m,.slice A nf cf,.slice X nb cb,.int .i64 asked,.int .i64 got]] w (RetB w (okE k v nb asked got)):=by
 have HK:=Lib.hid (Blk.new w #[.string k,.string v,.int .i64 s,.string r,.int .i64 m,.slice A nf cf,.slice X nb cb,.int .i64 asked,.int .i64 got] 41)
 have HB:=Lib.hid ((Below.refl w.heap.size w).alloc (Nat.le_refl _) (.cells #[.string k,.string v,.int .i64 s,.string r,.int .i64 m,.slice A nf cf,.slice X nb cb,.int .i64 asked,.int .i64 got] 41))
 have HT1:=Lib.hid (fun u=>inTime_any asked u)
 have HT2:=Lib.hid (fun u=>inTime_any got u)
 obtain⟨ok,hok⟩:∃ ok,ok=okE k v nb asked got:=⟨_,rfl⟩
 rw[← hok]
 unfold okE at hok
 by_cases h0:k.size=0
 ·obtain rfl:ok=false:=hok.trans (decide_eq_false fun h=>h.1 h0)
  obtain rfl:=empty_of_size h0
  clear hok HT1 HT2
  go_enter Tryz.func119,Tryz.ntmps119
  obtain⟨x0,x1,x2,x3,x4,x5,x6,x7,x8⟩:=HK.out.cells9
  go_wp2
  go_ret
  exact⟨rfl,HB.out⟩
 have h01:¬ k.toList=[]:=fun h=>h0 (by have:k=⟨#[]⟩:=toList_inj.1 (h.trans (by simp));rw[this];rfl)
 have h02:k.toList.isEmpty=false:=by cases h:k.toList<;>simp_all
 by_cases h1:(k.size:Int)≤4096
 rotate_left
 ·obtain rfl:ok=false:=hok.trans (decide_eq_false fun h=>by omega)
  clear hok HT1 HT2 h0
  go_enter Tryz.func119,Tryz.ntmps119
  obtain⟨x0,x1,x2,x3,x4,x5,x6,x7,x8⟩:=HK.out.cells9
  go_wp2
  go_ret
  exact⟨rfl,HB.out⟩
 by_cases h2:(v.size:Int)≤4096
 rotate_left
 ·obtain rfl:ok=false:=hok.trans (decide_eq_false fun h=>by omega)
  clear hok HT1 HT2 h0
  go_enter Tryz.func119,Tryz.ntmps119
  obtain⟨x0,x1,x2,x3,x4,x5,x6,x7,x8⟩:=HK.out.cells9
  go_wp2
  go_ret
  exact⟨rfl,HB.out⟩
 by_cases h3:(nb:Int)≤65536
 rotate_left
 ·obtain rfl:ok=false:=hok.trans (decide_eq_false fun h=>by omega)
  clear hok HT1 HT2 h0
  go_enter Tryz.func119,Tryz.ntmps119
  obtain⟨x0,x1,x2,x3,x4,x5,x6,x7,x8⟩:=HK.out.cells9
  go_wp2
  go_ret
  exact⟨rfl,HB.out⟩
 have hok2:ok=(timeB asked&&timeB got):=by
  rw[hok]
  have h1':k.size≤4096:=by omega
  have h2':v.size≤4096:=by omega
  have h3':nb≤65536:=by omega
  cases timeB asked<;>cases timeB got<;>simp [h0,h1',h2',h3']
 clear hok
 have HOK:=Lib.hid hok2
 clear hok2 h0
 generalize timeB asked=ta at *
 generalize timeB got=tg at *
 go_enter Tryz.func119,Tryz.ntmps119
 obtain⟨x0,x1,x2,x3,x4,x5,x6,x7,x8⟩:=HK.out.cells9
 go_wp2_with fail
 clear x0 x1 x2 x3 x4 x5 x6 x7 x8
 refine (HT1.out _).mono ?_
 rintro e w1 ⟨rfl,hb1⟩
 have HB1:=Lib.hid (below_then HB.out.size HB.out hb1)
 have HK1:=Lib.hid (HK.out.below hb1)
 clear hb1 HB HK HT1
 obtain⟨x0,x1,x2,x3,x4,x5,x6,x7,x8⟩:=HK1.out.cells9
 cases ta with
 | false =>
  obtain rfl:ok=false:=HOK.out
  go_wp2
  go_ret
  exact⟨rfl,HB1.out⟩
 | true =>
  obtain rfl:ok=tg:=by rw[HOK.out];rfl
  go_wp2_with fail
  clear x0 x1 x2 x3 x4 x5 x6 x7 x8
  refine (HT2.out _).mono ?_
  rintro e w2 ⟨rfl,hb2⟩
  have HB2:=Lib.hid (below_then HB1.out.size HB1.out hb2)
  clear hb2
  go_wp2
  go_ret
  exact⟨rfl,HB2.out⟩
def quoteRen:Go.Shelf.Ren:=⟨fun | 167=>84 | 240=>122 | 276=>158 | n=>n,fun | 0=>0 | 3=>3 | 4=>4 | 5=>5 | 9=>9 | 20=>20 | 37=>39 | 70=>138 | 72=>140 | 75=>142 | 80=>149 | 164=>213 | n=>n,fun | n=>n⟩
theorem lays167:Go.Proofs.Lays.n167 Tryz.prog quoteRen:={
 mixed:=by kernel_rfl
 f167:=Tryz.func84.trans (congrArg some (by kernel_rfl))
 f240:=Tryz.func122.trans (congrArg some (by kernel_rfl))
 f276:=Tryz.func158.trans (congrArg some (by kernel_rfl))
 t0:=Tryz.underlying0
 a0:=Tryz.isAgg0
 z0:=Tryz.sizeOf0
 v0:=Tryz.zeroValue0
 t4:=Tryz.underlying4
 a4:=Tryz.isAgg4
 z4:=Tryz.sizeOf4
 v4:=Tryz.zeroValue4
 t5:=Tryz.underlying5
 a5:=Tryz.isAgg5
 z5:=Tryz.sizeOf5
 v5:=Tryz.zeroValue5
 t9:=Tryz.underlying9
 a9:=Tryz.isAgg9
 z9:=Tryz.sizeOf9
 v9:=Tryz.zeroValue9
 t20:=Tryz.underlying20
 a20:=Tryz.isAgg20
 z20:=Tryz.sizeOf20
 v20:=Tryz.zeroValue20
 t37:=Tryz.underlying39
 a37:=Tryz.isAgg39
 z37:=Tryz.sizeOf39
 v37:=Tryz.zeroValue39
 t70:=Tryz.underlying138
 a70:=Tryz.isAgg138
 z70:=Tryz.sizeOf138
 v70:=Tryz.zeroValue138
 t72:=Tryz.underlying140
 a72:=Tryz.isAgg140
 z72:=Tryz.sizeOf140
 v72:=Tryz.zeroValue140
 t75:=Tryz.underlying142
 a75:=Tryz.isAgg142
 z75:=Tryz.sizeOf142
 v75:=Tryz.zeroValue142
 t164:=Tryz.underlying213
 a164:=Tryz.isAgg213
 z164:=Tryz.sizeOf213
 v164:=Tryz.zeroValue213 }
theorem extra167:Builder.Extra Tryz.prog quoteRen:={
 sizeBuilder:=by kernel_rfl
 liesBuilder:=by kernel_rfl
 t5:=Tryz.underlying5
 a5:=Tryz.isAgg5
 z5:=Tryz.sizeOf5
 v5:=Tryz.zeroValue5
 infoByte:=by kernel_rfl
 cellsByte:=by kernel_rfl
 sizeByte:=by kernel_rfl
 neB5:=by decide }
theorem writeByte_any (B b:Nat) (bs:List Value) (c:Int) (w:World) (h:Lib.IsBuilder 140 5 B b bs w) (hlen:bs.length+1≤140737488355328) (hBw:B≤w.heap.size) :
  Calls Tryz.prog 84 #[.pointer (some ⟨b,0,none⟩),.int .u8 c] w fun e w'=>e=.returned .nilIface∧(Lib.BuilderAt 140 5 B b (.pointer (some ⟨b,0,none⟩)) (bs++[.int .u8 c]) w'∧Below B w w') :=
 Any.Builder_WriteByte lays167 extra167 B b bs c w h hlen hBw
theorem textByte_any (c:UInt8) (w:World):Calls Tryz.prog 198 #[.int .u8 c.toNat] w (RetP w (.bool (T.textB c))):=by
 rcases textB_of c with ⟨h,g1,g2⟩ | ⟨h,g1,g2⟩ | ⟨h,g1,g2,g3⟩ | ⟨h,g1,g2,g3⟩
 case' inr.inr.inl=>have g4:((c.toNat:Int) != 127)=true:=by rw[bne,g3];rfl
 case' inr.inr.inr=>have g4:((c.toNat:Int) != 127)=false:=by rw[bne,g3];rfl
 all_goals
  rw[h]
  clear h
  go_enter Tryz.func198,Tryz.ntmps198
  go_wp2
  go_ret
  exact⟨rfl,rfl⟩
def Wrote (w:World) (n:Nat) (e:Ending) (u:World):Prop:=e=.returned .nilIface∧∃ l:List UInt8,l.length≤n∧Lib.IsBuilder 140 5 w.heap.size w.heap.size (Lib.byteCells l) u∧Below w.heap.size w u
theorem write_more {w u:World} {n:Nat} (c:UInt8) (hn:n≤4398046511104) (h:∃ l:List UInt8,l.length≤n∧Lib.IsBuilder 140 5 w.heap.size w.heap.size (Lib.byteCells l) u∧Below w.heap.size w u) :
  Calls Tryz.prog 84 #[.pointer (some ⟨w.heap.size,0,none⟩),.int .u8 c.toNat] u (Wrote w (n+1)):=by
 obtain⟨l,hl,hb,hbel⟩:=h
 refine (writeByte_any w.heap.size w.heap.size (Lib.byteCells l) c.toNat u hb (by rw[Lib.byteCells_length];omega) hbel.size).mono ?_
 rintro e v ⟨he,hat,hb2⟩
 refine⟨he,l++[c],by rw[List.length_append];simp only[List.length_singleton];omega,?_,hbel.trans hb2⟩
 have e2:Lib.byteCells (l++[c])=Lib.byteCells l++[.int .u8 c.toNat]:=by simp [Lib.byteCells]
 rw[e2]
 exact .inr hat
def RetQuote (w:World) (ok:Bool) (e:Ending) (w':World):Prop:=∃ q:ByteArray,e=.returned (.tuple #[.string q,.int .i64 (if ok then 0 else 11)])∧Below w.heap.size w w'
theorem quote_any (s:ByteArray) (w:World) (hs:s.size≤1099511627776):Calls Tryz.prog 182 #[.string s] w (RetQuote w (F.text s)):=by
 have HZ:Hid ((L s).length=s.size):=(L_size s).symm
 have H0:Hid (∃ l:List UInt8,l.length≤0∧Lib.IsBuilder 140 5 w.heap.size w.heap.size (Lib.byteCells l) (w.alloc (.cells #[.pointer none,.slice none 0 0] 140))∧Below w.heap.size w (w.alloc (.cells #[.pointer none,.slice none 0 0] 140))) :=
  Lib.hid ⟨[],Nat.le_refl _,Lib.fresh_isBuilder 140 5 w,(Below.refl w.heap.size w).alloc (Nat.le_refl _) _⟩
 go_enter Tryz.func182,Tryz.ntmps182
 go_wp2_with fail
 generalize w.alloc (.cells #[.pointer none,.slice none 0 0] 140)=w0 at *
 refine (write_more 34 (by omega) H0.out).mono ?_
 rintro e w1 ⟨rfl,h1⟩
 have H1:=Lib.hid h1
 clear h1 H0
 go_wp2
 go_loopw [5,6,10,16,20] (fun _ _ i _ _ wr=>∃ k:Nat,k≤s.size∧i=.int .i64 k∧((L s).take k).all T.textB=true∧∃ l:List UInt8,l.length≤2 * k+1∧Lib.IsBuilder 140 5 w.heap.size w.heap.size (Lib.byteCells l) wr∧Below w.heap.size w wr) (fun _ _ i _ _ _=>s.size - (intOf i).toNat)
 case atStart=>exact⟨0,Nat.zero_le _,rfl,by simp,H1.out⟩
 case round =>
  clear H1
  obtain⟨k,hk,rfl,ha,hl⟩:=hrel
  have HAll:=Lib.hid ha
  have HL:=Lib.hid hl
  clear ha hl
  by_cases hlt:k < s.size
  ·have hL:k < (L s).length:=by rw[HZ.out];exact hlt
   have HB:=Lib.hid (textByte_any s[k])
   rcases tf (T.textB ((L s)[k]'hL)) with h | h
   ·have HN:=Lib.hid (all_step T.textB (L s) k hL HAll.out h)
    have hb:T.textB s[k]=true:=h
    rw[hb]at HB
    clear h hb
    rcases tf (((s[k]'hlt).toNat:Int)==34||((s[k]'hlt).toNat:Int)==92) with hq | hq
    ·have HW1:=Lib.hid (write_more 92 (by omega) HL.out)
     rcases tf (((s[k]'hlt).toNat:Int)==34) with g1 | g1
     case' inr =>
      have g2:(((s[k]'hlt).toNat:Int)==92)=true:=by rw[g1]at hq;exact hq
     all_goals
      clear hq
      go_wp2_with fail
      refine (HB.out _).mono ?_
      rintro e w' ⟨rfl,rfl⟩
      go_wp2_with fail
      refine HW1.out.mono ?_
      rintro e w2 ⟨rfl,h2⟩
      have HW2:=Lib.hid (write_more (s[k]'hlt) (by omega) h2)
      clear h2 HW1 HL
      go_wp2_with fail
      refine HW2.out.mono ?_
      rintro e w3 ⟨rfl,l3,z3,b3,d3⟩
      have HL3:=Lib.hid (And.intro z3 (And.intro b3 d3))
      clear z3 b3 d3 HW2
      go_wp2
      go_roundw
      case rel=>exact⟨k+1,by omega,by go_num,HN.out,l3,by have:=HL3.out.1;omega,HL3.out.2⟩
      case measure=>simp [intOf];omega
    ·have HW2:=Lib.hid (write_more (s[k]'hlt) (by omega) HL.out)
     have g1:(((s[k]'hlt).toNat:Int)==34)=false:=(Bool.or_eq_false_iff.1 hq).1
     have g2:(((s[k]'hlt).toNat:Int)==92)=false:=(Bool.or_eq_false_iff.1 hq).2
     clear hq
     go_wp2_with fail
     refine (HB.out _).mono ?_
     rintro e w' ⟨rfl,rfl⟩
     go_wp2_with fail
     refine HW2.out.mono ?_
     rintro e w3 ⟨rfl,l3,z3,b3,d3⟩
     have HL3:=Lib.hid (And.intro z3 (And.intro b3 d3))
     clear z3 b3 d3 HW2
     go_wp2
     go_roundw
     case rel=>exact⟨k+1,by omega,by go_num,HN.out,l3,by have:=HL3.out.1;omega,HL3.out.2⟩
     case measure=>simp [intOf];omega
   ·have HN:Hid (F.text s=false):=Lib.hid (all_no T.textB (L s) k hL h)
    have hb:T.textB s[k]=false:=h
    rw[hb]at HB
    clear h hb
    go_wp2_with fail
    refine (HB.out _).mono ?_
    rintro e w' ⟨rfl,rfl⟩
    go_wp2
    refine bodyPost_ret (v:=.tuple #[.string ⟨#[]⟩,.int .i64 11]) (by simp [results,Tryz.results182,go_sem]) rfl ?_
    obtain⟨l,_,_,d⟩:=HL.out
    exact⟨⟨#[]⟩,by rw[HN.out];rfl,d⟩
  ·have hks:k=s.size:=by omega
   have ha:=HAll.out
   rw[List.take_of_length_le (by rw[HZ.out];omega)]at ha
   have HT:Hid (F.text s=true):=Lib.hid ha
   have HW:=Lib.hid (write_more 34 (by omega) HL.out)
   clear ha hks HL
   go_wp2_with fail
   refine HW.out.mono ?_
   rintro e w3 ⟨rfl,l3,z3,b3,d3⟩
   have HS:=Lib.hid (Tryz.Builder_String_any w.heap.size w.heap.size l3 w3 b3 d3.size)
   have HD:=Lib.hid d3
   clear z3 b3 d3 HW
   go_wp2_with fail
   refine HS.out.mono ?_
   rintro e w4 ⟨rfl,hb4⟩
   have HD4:=Lib.hid (HD.out.trans hb4)
   clear hb4 HD HS
   go_wp2
   refine bodyPost_ret (v:=.tuple #[.string ⟨l3.toArray⟩,.int .i64 0]) (by simp [results,Tryz.results182,go_sem]) rfl ?_
   exact⟨_,by rw[HT.out];rfl,HD4.out⟩
theorem text_any (s:ByteArray) (w:World) (hs:s.size≤1099511627776):Calls Tryz.prog 154 #[.string s] w (RetB w (F.text s)):=by
 have HQ:=Lib.hid (quote_any s w hs)
 rcases tf (F.text s) with h | h
 all_goals
  rw[h]at HQ ⊢
  clear h
  go_enter Tryz.func154,Tryz.ntmps154
  go_wp2_with fail
  refine HQ.out.mono ?_
  rintro e w1 ⟨q,rfl,hb⟩
  have HB:=Lib.hid hb
  clear hb HQ
  go_wp2
  go_ret
  exact⟨rfl,HB.out⟩
end Go.Proofs.YthjeglnkgdpijaaGreatDoor
namespace Go.Proofs.YthjeglnkgdpijaaGreatDoor
namespace P
open T (Bs)
theorem block_lenR (bs:Bs) (s:Nat):(hBlock bs s).length≤bs.length:=by
 unfold hBlock hText
 rw[List.length_drop,List.length_take,List.length_drop]
 omega
theorem response_bulk (bs:Bs):F.bulk (response bs).fs≤bs.length∧(response bs).r.size≤bs.length:=by
 have hp:=(parse_facts _ [] (hBlock bs 0) (Nat.le_refl _) (Nat.zero_le _)).1
 have hb:=block_lenR bs 0
 have hl:=hLine_le bs 0
 have h0:F.bulk []=0:=rfl
 have hz:∀ e:Int,F.bulk (RS.bad e).fs≤bs.length∧(RS.bad e).r.size≤bs.length:=fun e=>⟨Nat.zero_le _,Nat.zero_le _⟩
 unfold response
 split
 ·exact hz _
 ·unfold respOf
  split
  ·exact hz _
  ·split
   ·exact hz _
   ·split
    ·exact hz _
    ·split
     ·exact hz _
     ·refine⟨?_,?_⟩
      ·show F.bulk (parse [] (hBlock bs 0)).1≤_
       omega
      ·show (B (behind (behind (hLine bs 0)))).size≤_
       rw[B_size']
       have h1:=behind_le (behind (hLine bs 0))
       have h2:=behind_le (hLine bs 0)
       omega
end P
open Go.RowKit
theorem sameFields_any (A B:Option Addr) (n m c d:Nat) (xs ys:List FD) (w:World) (hn:n≤1099511627776) (hm:m≤1099511627776) (hx:Rd w A n 2 (fcells xs)) (hy:Rd w B m 2 (fcells ys)) (hxl:xs.length=n) (hyl:ys.length=m) :
  Calls Tryz.prog 86 #[.slice A n c,.slice B m d] w (RetB w (decide (xs=ys))):=by
 have HX:=Lib.hid hxl
 have HY:=Lib.hid hyl
 clear hxl hyl
 by_cases hnm:n=m
 ·subst hnm
  go_enter Tryz.func86,Tryz.ntmps86
  go_wp2
  go_loopw [5] (fun i wr=>∃ k:Nat,k≤n∧i=.int .i64 k∧xs.take k=ys.take k∧∃ q,wr=w.drewN q) (fun i _=>n - (intOf i).toNat)
  case atStart=>exact⟨0,Nat.zero_le _,rfl,rfl,0,rfl⟩
  case round =>
   obtain⟨k,hk,rfl,he,q,rfl⟩:=hrel
   have HE:=Lib.hid he;clear he
   by_cases hlt:k < n
   ·obtain⟨b1,o1,rfl,hl1,c1,c2⟩:=hx.field hlt HX.out
    obtain⟨b2,o2,rfl,hl2,d1,d2⟩:=hy.field hlt HY.out
    have hneq:=fun w=>neqF (xs[k]'(by have:=HX.out;omega)) (ys[k]'(by have:=HY.out;omega)) w
    have hdec:=tf (decide (xs[k]'(by have:=HX.out;omega)=ys[k]'(by have:=HY.out;omega)))
    rcases hdec with hd | hd
    ·go_wp2
     go_region
     go_wp2
     go_roundw
     case rel=>exact⟨k+1,by omega,by go_num,take_eq_snoc _ _ HE.out (of_decide_eq_true hd),_,rfl⟩
     case measure=>simp [intOf];omega
    ·go_wp2
     go_region
     go_wp2
     go_ret
     exact⟨ret_bool (by
      symm;apply decide_eq_false
      intro e
      subst e
      simp at hd),below_drewN (Below.refl _ _) _⟩
   ·have hkn:k=n:=by omega
    have hfin:xs=ys:=by
     have:=HE.out
     have h1:=HX.out
     have h2:=HY.out
     rw[List.take_of_length_le (by omega),List.take_of_length_le (by omega)]at this
     exact this
    have HF:=Lib.hid hfin
    clear hkn hfin
    go_wp2
    go_ret
    exact⟨ret_bool (by rw[decide_eq_true HF.out]),below_drewN (Below.refl _ _) _⟩
 ·have h1:((n:Int)==(m:Int))=false:=by simp;omega
  have h2:((n:Int) != (m:Int))=true:=by simp;omega
  go_enter Tryz.func86,Tryz.ntmps86
  go_wp2
  go_ret
  exact⟨ret_bool (by have:=HX.out;have:=HY.out;symm;apply decide_eq_false;rintro rfl;omega),Below.refl _ _⟩
theorem whole_bad {l:List UInt8} {fs:List FD} {c:Int} (h:F.printE fs=c) (hc:c≠0):F.wholeB l fs=[]∧F.wholeE l fs=c:=by
 have h1:F.wholeE l fs=c:=by unfold F.wholeE;rw[if_neg (by rw[h];exact hc),h]
 exact⟨if_neg (by rw[h1];exact hc),h1⟩
theorem whole_big {l:List UInt8} {fs:List FD} (h:F.printE fs=0) (hc:8192 < l.length+(F.lines fs).length+4):F.wholeB l fs=[]∧F.wholeE l fs=51:=by
 have h1:F.wholeE l fs=51:=by unfold F.wholeE;rw[if_pos h,if_pos hc]
 exact⟨if_neg (by rw[h1];decide),h1⟩
theorem whole_ok {l:List UInt8} {fs:List FD} (h:F.printE fs=0) (hc:¬ 8192 < l.length+(F.lines fs).length+4):F.wholeB l fs=l++[13,10]++F.lines fs++[13,10]∧F.wholeE l fs=0:=by
 have h1:F.wholeE l fs=0:=by unfold F.wholeE;rw[if_pos h,if_neg hc]
 exact⟨if_pos h1,h1⟩
theorem whole_any (l:ByteArray) (A:Option Addr) (c:Nat) (fs:List FD) (w:World) (hl:l.size≤8589934592) (hf:F.bulk fs≤1073741824) (hx:Rd w A fs.length 2 (fcells fs)) :
  Calls Tryz.prog 155 #[.string l,.slice A fs.length c] w (RetBE w (F.wholeB (L l) fs) (F.wholeE (L l) fs)):=by
 have HP:=Lib.hid (print_any A c fs w hf hx)
 have hll:=F.lines_len fs
 have hn1:(F.lines fs).length≤4294967296:=by omega
 have hlz:=L_size l
 rcases F.printE_cases fs with hp | hp | hp
 ·have HBIG:=Lib.hid (fun h=>whole_big (l:=L l) hp h)
  have HOK:=Lib.hid (fun h=>whole_ok (l:=L l) hp h)
  rw[F.printB_ok hp,hp]at HP
  have HLZ:=Lib.hid hlz
  generalize F.wholeB (L l) fs=WB at *
  generalize F.wholeE (L l) fs=WE at *
  obtain⟨T,hT⟩:∃ T,T=B (F.lines fs):=⟨_,rfl⟩
  have hTl:F.lines fs=L T:=by rw[hT];rfl
  obtain⟨N,hN⟩:∃ N,N=T.size:=⟨_,rfl⟩
  have hNl:(L T).length=N:=by rw[hN,L_size]
  rw[hTl]at HBIG HOK HP hn1
  rw[hNl]at HBIG HOK hn1
  have HNL:=Lib.hid hNl
  have HN:=Lib.hid hN
  clear hp hx hll hlz hT hTl hN hNl
  by_cases hbig:8192 < l.size+N+4
  ·have HB:=Lib.hid (HBIG.out (by have:=HLZ.out;omega))
   go_enter Tryz.func155,Tryz.ntmps155
   go_wp2_with fail
   refine HP.out.mono ?_
   rintro e w1 ⟨R,d,rfl,hr,hb1⟩
   rw[HNL.out]
   have HB1:=Lib.hid hb1
   clear HP hr hb1
   go_wp2
   refine bodyPost_ret (v:=.tuple #[.slice none 0 0,.int .i64 51]) (by simp [results,Tryz.results155,go_sem]) rfl ?_
   exact RetBE.none_ HB1.out HB.out.1 HB.out.2
  ·have HB:=Lib.hid (HOK.out (by have:=HLZ.out;omega))
   go_enter Tryz.func155,Tryz.ntmps155
   go_wp2_with fail
   refine HP.out.mono ?_
   rintro e w1 ⟨R,d,rfl,hr,hb1⟩
   rw[HNL.out]at hr ⊢
   have hcv1:=conv_bs hr.rd d
   rw[B_L]at hcv1
   have hs1:l.size+2≤9223372036854775807:=by omega
   have hs2:l.size+2+T.size≤9223372036854775807:=by have:=HN.out;omega
   have hs3:l.size+2+T.size+2≤9223372036854775807:=by have:=HN.out;omega
   obtain⟨cc,W,hcv2,hcr,hcb⟩:=conv_sbC w1 (l++⟨#[13,10]⟩++T++⟨#[13,10]⟩)
   have HCR:=Lib.hid hcr
   have HB1:=Lib.hid (below_next hb1 hcb)
   have hz1:=hb1.size
   clear HP hr hb1 hcr hcb
   go_wp2
   refine bodyPost_ret (v:=.tuple #[.slice (some ⟨w1.heap.size,0,none⟩) (l++⟨#[13,10]⟩++T++⟨#[13,10]⟩).size cc,.int .i64 0]) (by simp [results,Tryz.results155,go_sem]) rfl ?_
   have hL:L (l++⟨#[13,10]⟩++T++⟨#[13,10]⟩)=WB:=by
    rw[HB.out.1]
    simp only[L_append]
    rfl
   have hS:(l++⟨#[13,10]⟩++T++⟨#[13,10]⟩:ByteArray).size=WB.length:=by rw[L_size,hL]
   have hr:=HCR.out
   rw[hL,hS]at hr
   rw[HB.out.2,hS]
   exact⟨_,cc,rfl,hr.mono hz1,HB1.out⟩
 all_goals
  have HB:=Lib.hid (whole_bad (l:=L l) hp (by decide))
  rw[F.printB_bad (by rw[hp];decide),hp]at HP
  generalize F.wholeB (L l) fs=WB at *
  generalize F.wholeE (L l) fs=WE at *
  clear hp hx hll hlz hn1
  go_enter Tryz.func155,Tryz.ntmps155
  go_wp2_with fail
  refine HP.out.mono ?_
  rintro e w1 ⟨R,d,rfl,hr,hb1⟩
  have HB1:=Lib.hid hb1
  clear HP hr hb1
  go_wp2
  first
  | (refine bodyPost_ret (v:=.tuple #[.slice none 0 0,.int .i64 40]) (by simp [results,Tryz.results155,go_sem]) rfl ?_
     exact RetBE.none_ HB1.out HB.out.1 HB.out.2)
  | (refine bodyPost_ret (v:=.tuple #[.slice none 0 0,.int .i64 42]) (by simp [results,Tryz.results155,go_sem]) rfl ?_
     exact RetBE.none_ HB1.out HB.out.1 HB.out.2)
end Go.Proofs.YthjeglnkgdpijaaGreatDoor
