/- strconv.Atoi from whatever text, with its two error variables out of the row's list; strings.Trim at the ten digits. What chunk.Decode computes, as plain functions on lists of bytes; what is told of some bytes is told of them with more behind. The walks of bytes.IndexByte, bytes.HasSuffix and bytes.Cut at a semicolon; of chunk.size. The walk of the decoder's readSize. The walk of the decoder's readData. The walks of be.Put, the document's Number. The walks of rec.Sum and the document's Sum. The walks of the document's section, of inTime, time and both Id. The walk of object.right; an entry's cells. Conditions: as each theorem states them. -/
import Derived.Test.YthjeglnkgdpijaaGreatDoorZ13
import Derived.Stop.LaidErr
set_option maxHeartbeats 1000000
set_option maxRecDepth 100000
namespace Go.Proofs.YthjeglnkgdpijaaGreatDoor
open Go.RowKit
def zY (w:World):Prop:=(∃ t p,w.cell? ⟨5,0,none⟩=some (.iface t p))∧∃ t p,w.cell? ⟨6,0,none⟩=some (.iface t p)
theorem zY.below {w w':World} (h:zY w) (hb:Below w.heap.size w w'):zY w':=by
 obtain⟨⟨t,p,h1⟩,t2,p2,h2⟩:=h
 exact⟨⟨t,p,(hb.cell (p:=⟨5,0,none⟩) (cell_lt h1)).trans h1⟩,t2,p2,(hb.cell (p:=⟨6,0,none⟩) (cell_lt h2)).trans h2⟩
theorem aHW: "*"++ "errors.errorString"= "*errors.errorString":=by decide
theorem aM8 (u:TypeId) (h:Tryz.prog.typeName? 3 u=some "*errors.errorString"):u=304 :=
 typeName_ptr_named (nm:= "errors.errorString") (by rw[aHW];kernel_rfl) (by kernel_rfl) (by decide) u (by rw[aHW];exact h)
theorem gS:Tryz.prog.globalNamed "strconv.ErrSyntax"=some 5:=by kernel_rfl
theorem gST:(Tryz.prog.globals[5]?).map (·.type)=some 142:=by kernel_rfl
theorem gR:Tryz.prog.globalNamed "strconv.ErrRange"=some 6:=by kernel_rfl
theorem gRT:(Tryz.prog.globals[6]?).map (·.type)=some 142:=by kernel_rfl
theorem aE3:Tryz.prog.cellsOf 306=1:=by kernel_rfl
theorem aE2:Tryz.prog.cellsOf 9=1:=by kernel_rfl
theorem aQH {W:World} {laid:List (String × DataW Unit)} (h:laidMetH Tryz.prog laid W)
  (hm1:laid.filter (fun x=>x.1== "strconv.ErrSyntax")=[("strconv.ErrSyntax",Rows.laid_strconv_ErrSyntax)]) (hm2:laid.filter (fun x=>x.1== "strconv.ErrRange")=[("strconv.ErrRange",Rows.laid_strconv_ErrRange)]):zY W:=by
 have h1:=h.filter (fun x=>x.1== "strconv.ErrSyntax")
 have h2:=h.filter (fun x=>x.1== "strconv.ErrRange")
 rw[hm1]at h1
 rw[hm2]at h2
 obtain⟨a0,s0,hv0,_⟩:=laid_sentinel (r:=[]) h1 gS gST Tryz.underlying142 aM8 Tryz.underlying304 Tryz.underlying306 rfl rfl Tryz.underlying9 aE3 aE2
 obtain⟨a1,s1,hv1,_⟩:=laid_sentinel (r:=[]) h2 gR gRT Tryz.underlying142 aM8 Tryz.underlying304 Tryz.underlying306 rfl rfl Tryz.underlying9 aE3 aE2
 exact⟨⟨_,_,by have h0:=World.var?_cell gS hv0 0;simpa using h0⟩,_,_,by have h0:=World.var?_cell gR hv1 0;simpa using h0⟩
def RetA (w:World) (l:List UInt8) (e:Ending) (w':World):Prop :=
 ∃ v b,e=.returned (.tuple #[.int .i64 v,b])∧((b=.nilIface∧Lib.atoiAll l=.ok v)∨((∃ t p,b=.iface t (.pointer p))∧∀ u,Lib.atoiAll l≠.ok u))∧Below w.heap.size w w'
theorem aMQ (s:ByteArray) (w:World) (hs:s.size≤2147483648) (h:zY w):Calls Tryz.prog 194 #[.string s] w (RetA w (L s)):=by
 obtain⟨⟨t1,p1,h1⟩,t2,p2,h2⟩:=h
 cases ha:Lib.atoiAll s.data.toList
 case ok v =>
  refine (Tryz.strconv_Atoi_ok s (by omega) v ha w).mono ?_
  rintro e w' ⟨rfl,hw⟩
  refine⟨v,_,rfl,.inl ⟨rfl,ha⟩,?_⟩
  rcases hw with rfl | ⟨t,rfl⟩
  ·exact zB _ _
  ·exact Lib.bytesWorld_below _ _ _
 case range =>
  refine (Tryz.strconv_Atoi_range s (by omega) ha _ w h2 (.inr ⟨_,_,rfl⟩)).mono ?_
  rintro e w' ⟨N,rfl,_,_,hb⟩
  exact⟨_,_,rfl,.inr ⟨⟨_,_,rfl⟩,fun u hu=>by rw[show L s=s.data.toList from rfl,ha]at hu;cases hu⟩,hb⟩
 ·refine (Any.strconv_Atoi_syntax Tryz.laysC172 s (by omega) ha _ w h1 (.inr ⟨_,_,rfl⟩)).mono ?_
  rintro e w' ⟨N,rfl,_,_,hb⟩
  exact⟨_,_,rfl,.inr ⟨⟨_,_,rfl⟩,fun u hu=>by rw[show L s=s.data.toList from rfl,ha]at hu;cases hu⟩,hb⟩
def aMC:List UInt8:=[48,49,50,51,52,53,54,55,56,57]
theorem aMD (c:UInt8):P.dig c=aMC.contains c:=by
 have:∀ n:Fin 256,P.dig (UInt8.ofNat n.1)=aMC.contains (UInt8.ofNat n.1):=by decide +kernel
 have h:=this ⟨c.toNat,c.toNat_lt⟩
 simpa using h
theorem drop_nil {p:UInt8→Bool}:∀ {l:List UInt8},l.dropWhile p=[]↔∀ x∈l,p x=true
 | []=>by simp
 | x::l=>by
  cases hx:p x
  ·simp [hx]
  ·simp [hx,drop_nil (l:=l)]
theorem aAC (l:List UInt8):Lib.trimS l aMC=[]↔l.all P.dig=true:=by
 have e:P.dig=fun c=>aMC.contains c:=funext aMD
 unfold Lib.trimS Lib.trimLeftS Lib.trimRightS
 rw[← e,List.all_eq_true]
 constructor
 ·intro h
  rw[drop_nil]at h
  have h2:l.reverse.dropWhile P.dig=[]:=by
   cases h3:l.reverse.dropWhile P.dig with
   | nil=>rfl
   | cons x r =>
    have h4:=List.head_dropWhile_not P.dig (l:=l.reverse) (by rw[h3];simp)
    simp only[h3,List.head_cons]at h4
    have h5:=h x (by rw[h3];simp)
    rw[h4]at h5
    cases h5
  rw[drop_nil]at h2
  exact fun x hx=>h2 x (by simpa using hx)
 ·intro h
  have h2:l.reverse.dropWhile P.dig=[]:=by
   rw[drop_nil]
   exact fun x hx=>h x (by simpa using hx)
  rw[h2]
  rfl
theorem aOZ (s:ByteArray) (w:World) (hs:s.size≤1099511627776):Calls Tryz.prog 88 #[.string s,.string ⟨#[48,49,50,51,52,53,54,55,56,57]⟩] w (aDU w (B (Lib.trimS (L s) aMC))):=by
 refine (Any.strings_Trim_laid Tryz.lays160 (by kernel_rfl) s ⟨#[48,49,50,51,52,53,54,55,56,57]⟩ w (by omega) (by decide) (ascii_of_all (by decide))).mono ?_
 rintro e w' ⟨rfl,hb⟩
 exact⟨rfl,hb⟩
theorem aAG:∀ a b c:Fin 10,(match Lib.atoiAll [UInt8.ofNat (48+a.1),UInt8.ofNat (48+b.1),UInt8.ofNat (48+c.1)] with | .ok v=>decide (v=P.stat [UInt8.ofNat (48+a.1),UInt8.ofNat (48+b.1),UInt8.ofNat (48+c.1)]) | _=>false)=true:=by decide +kernel
theorem aJK {c:UInt8} (h:P.dig c=true):∃ a:Fin 10,c=UInt8.ofNat (48+a.1):=by
 unfold P.dig at h
 rw[Bool.and_eq_true,decide_eq_true_eq,decide_eq_true_eq]at h
 refine⟨⟨c.toNat - 48,by omega⟩,?_⟩
 apply UInt8.toNat_inj.1
 rw[UInt8.toNat_ofNat']
 have:=c.toNat_lt
 show c.toNat=(48+(c.toNat - 48)) % 256
 omega
theorem aB6 {l:List UInt8} (h:P.lG l=true):Lib.atoiAll l=.ok (P.stat l):=by
 unfold P.lG at h
 rw[Bool.and_eq_true,decide_eq_true_eq,List.all_eq_true]at h
 match l,h with
 | [x,y,z],⟨_,h⟩ =>
  obtain⟨a,rfl⟩:=aJK (h x (by simp))
  obtain⟨b,rfl⟩:=aJK (h y (by simp))
  obtain⟨c,rfl⟩:=aJK (h z (by simp))
  have:=aAG a b c
  split at this
  ·rename_i v hv
   rw[hv,of_decide_eq_true this]
  ·cases this
end Go.Proofs.YthjeglnkgdpijaaGreatDoor
namespace Go.Proofs.YthjeglnkgdpijaaGreatDoor
namespace C
open T (Bs)
def hex (c:UInt8):Int:=if 48≤c.toNat∧c.toNat≤57 then (c.toNat:Int) - 48 else if 65≤c.toNat∧c.toNat≤70 then (c.toNat:Int) - 55 else if 97≤c.toNat∧c.toNat≤102 then (c.toNat:Int) - 87 else -1
def isHex (c:UInt8):Bool:=decide (0≤hex c)
def val (l:Bs):Int:=l.foldl (fun a c=>a * 16+hex c) 0
def semi (c:UInt8):Bool:=c==59
def numOf (l:Bs):Bs:=P.upto semi l
def extOf (l:Bs):Bs:=(P.from_ semi l).drop 1
def sizeOf (l:Bs):Int:=if numOf l=[]∨8 < (numOf l).length∨(numOf l).all isHex=false∨F.text (B (extOf l))=false then -1 else val (numOf l)
def lf (c:UInt8):Bool:=c==10
def zC (l:Bs):Nat:=(P.upto lf l).length
def yQ (l:Bs):Prop:=200≤zC l∨zC l=0∨l.getD (zC l - 1) 0≠13∨sizeOf (l.take (zC l - 1)) < 0
instance (l:Bs):Decidable (yQ l):=inferInstanceAs (Decidable (_∨_))
def aP9 (l:Bs):Int:=if zC l < l.length then (if yQ l then 70 else 0) else if 200≤l.length then 70 else 0
def qB (l:Bs):Nat:=if zC l < l.length∧¬ yQ l then zC l+1 else 0
def lineS (l:Bs):Nat:=if zC l < l.length∧¬ yQ l then (sizeOf (l.take (zC l - 1))).toNat else 0
structure CD where
 d:Bs
 f:List FD
 n:Nat
 e:Int
def CD.bad (e:Int):CD:=⟨[],[],0,e⟩
def tailE (l:Bs):Int:=if P.aE1.isPrefixOf l then 0 else if P.hE l 0≠0∨P.hN l 0=0 then P.hE l 0 else (P.parse [] (l.take (P.hN l 0 - 2).toNat)).2
def aFH (l:Bs):Nat:=if P.aE1.isPrefixOf l then 2 else if P.hE l 0≠0∨P.hN l 0=0 then 0 else if (P.parse [] (l.take (P.hN l 0 - 2).toNat)).2≠0 then 0 else (P.hN l 0).toNat
def aFI (l:Bs):List FD:=if P.aE1.isPrefixOf l then [] else if P.hE l 0≠0∨P.hN l 0=0 then [] else (P.parse [] (l.take (P.hN l 0 - 2).toNat)).1
def dec (data:Bs) (at_:Nat) (l:Bs):CD :=
 if aP9 l≠0∨qB l=0 then .bad (aP9 l)
 else if lineS l=0 then
  (if tailE (l.drop (qB l))≠0∨aFH (l.drop (qB l))=0 then .bad (tailE (l.drop (qB l))) else ⟨data,aFI (l.drop (qB l)),at_+qB l+aFH (l.drop (qB l)),0⟩)
 else if 65536 < data.length+lineS l then .bad 71
 else if _h:(l.drop (qB l)).length < lineS l+2 then .bad 0
 else if P.aE1.isPrefixOf (l.drop (qB l+lineS l))=false then .bad 70
 else dec (data++(l.drop (qB l)).take (lineS l)) (at_+qB l+lineS l+2) (l.drop (qB l+lineS l+2))
termination_by l.length
decreasing_by
 rw[List.length_drop]at _h ⊢
 omega
def decode (b:Bs):CD:=dec [] 0 b
end C
open Go.RowKit
namespace C
theorem val_snoc (l:List UInt8) (c:UInt8):val (l++[c])=val l * 16+hex c:=by
 unfold val
 rw[List.foldl_append]
 rfl
def lw (c:UInt8):Int:=bits .or .u8 c.toNat 32
def kindOf (c:UInt8):Bool :=
 if 48≤c.toNat∧c.toNat≤57 then decide (hex c=(c.toNat:Int) - 48) else
 if 97≤lw c∧lw c≤102 then decide (hex c=lw c - 87)&&c != 95 else
 decide (hex c=-1)&&decide (0≤lw c)&&decide (lw c < 256)&&(c != 95||decide (lw c=127))
theorem aLV:∀ n:Fin 256,kindOf (UInt8.ofNat n.1)=true:=by decide +kernel
theorem kind (c:UInt8):(48≤c.toNat∧c.toNat≤57∧hex c=(c.toNat:Int) - 48)∨(¬ (48≤c.toNat∧c.toNat≤57)∧c.toNat≠95∧97≤lw c∧lw c≤102∧hex c=lw c - 87)∨(¬ (48≤c.toNat∧c.toNat≤57)∧hex c=-1∧0≤lw c∧lw c < 256∧(lw c < 97∨103≤lw c)∧(c.toNat=95→lw c=127)):=by
 have h:=aLV ⟨c.toNat,c.toNat_lt⟩
 simp only[UInt8.ofNat_toNat]at h
 unfold kindOf at h
 split at h
 ·rename_i h1
  exact .inl ⟨h1.1,h1.2,of_decide_eq_true h⟩
 ·rename_i h1
  split at h
  ·rename_i h2
   rw[Bool.and_eq_true,decide_eq_true_eq]at h
   refine .inr (.inl ⟨h1,fun h3=>?_,h2.1,h2.2,h.1⟩)
   have h4:c=95:=UInt8.toNat_inj.1 h3
   rw[h4]at h
   exact absurd h.2 (by decide)
  ·rename_i h2
   simp only[Bool.and_eq_true,decide_eq_true_eq,Bool.or_eq_true]at h
   refine .inr (.inr ⟨h1,h.1.1.1,h.1.1.2,h.1.2,by omega,fun h3=>?_⟩)
   have h4:c=95:=UInt8.toNat_inj.1 h3
   rcases h.2 with h5 | h5
   ·rw[h4]at h5
    exact absurd h5 (by decide)
   ·exact h5
end C
def aMY (A:Option Addr) (c k:Nat):Option Addr:=if c=k then A else A.map fun x=>x.add k
theorem Rd.fromA {w:World} {A:Option Addr} {n c k:Nat} {l:List UInt8} (h:Rd w A n 1 (aB l)) (hnc:n≤c) (hk:k≤n):Rd w (aMY A c k) (n - k) 1 (aB (l.drop k)):=by
 have hl:=dQ h
 by_cases hkn:k=n
 ·exact⟨by simp [aB,hl],fun h0=>by omega⟩
 ·obtain⟨b,o,rfl,_,_⟩:=h.2 (by omega)
  have e:aMY (some ⟨b,o,none⟩) c k=some ⟨b,o+k,none⟩:=by
   unfold aMY
   rw[if_neg (by omega)]
   show some ((⟨b,o,none⟩:Addr).add k)=_
   unfold Addr.add
   split<;>simp_all
  rw[e]
  exact h.from_ hk
theorem qZ {A:Option Addr} {c:Nat}:aMY A c c=A:=if_pos rfl
theorem aDT {b o c k:Nat} (h:k≠c):aMY (some ⟨b,o,none⟩) c k=some ⟨b,o+k,none⟩:=by
 unfold aMY
 rw[if_neg (by omega)]
 show some ((⟨b,o,none⟩:Addr).add k)=_
 unfold Addr.add
 split<;>simp_all
def dig (v i:Nat):UInt8:=UInt8.ofNat (v / 2 ^ (8 * i) % 256)
def beN (v:Nat):Nat→List UInt8
 | 0=>[]
 | k+1=>dig v k::beN v k
theorem aS (v:Nat):∀ k,(beN v k).length=k
 | 0=>rfl
 | k+1=>by rw[beN,List.length_cons,aS v k]
theorem aOY (v i:Nat):((dig v i).toNat:Int)=(v:Int) / 2 ^ (8 * i) % 256:=by
 have h:(dig v i).toNat=v / 2 ^ (8 * i) % 256:=by
  unfold dig
  rw[UInt8.toNat_ofNat']
  exact Nat.mod_mod _ _
 rw[h,Int.natCast_emod,Int.natCast_ediv,Int.natCast_pow]
 rfl
theorem App.next {w w1 w2:World} {A A1 A2:Option Addr} {c c1 c2:Nat} (h1:App w w1 A c A1 c1) (h2:App w1 w2 A1 c1 A2 c2):App w w2 A c A2 c2:=by
 refine⟨h1.grown.andThen h2.grown fun j hj=>?_,?_⟩
 ·rcases h1.moved with ⟨rfl,rfl⟩ | ⟨g,rfl,hg⟩
  ·exact .inr hj
  ·unfold ownB at hj
   split at hj
   ·cases hj
   ·simp at hj
    exact .inl (by omega)
 ·rcases h2.moved with ⟨rfl,rfl⟩ | ⟨g,rfl,hg⟩
  ·exact h1.moved
  ·exact .inr ⟨g,rfl,bD h1.grown.size hg⟩
theorem App.pre {w w1 w2:World} {A A2:Option Addr} {c c2:Nat} (h1:Below w.heap.size w w1) (h2:App w1 w2 A c A2 c2):App w w2 A c A2 c2 :=
 ⟨aDG h1 h2.grown,h2.moved.imp id fun⟨g,h,hg⟩=>⟨g,h,bD h1.size hg⟩⟩
theorem App.start (w:World) (A:Option Addr) (c:Nat):App w w A c A c:=⟨World.grownBy.refl _ _,.inl ⟨rfl,rfl⟩⟩
theorem aAZ (base:Nat) (A:Option Addr) (c v k:Nat) (bs:List UInt8) (w:World) (hn:bs.length≤1099511627776) (hk:k≤8) (hv:v < 9223372036854775808) (hr:bQ w base A bs.length c bs) (hb:base≤w.heap.size) :
  Calls Tryz.prog 120 #[.slice A bs.length c,.int .i64 v,.int .i64 k] w (fun e w'=>∃ A' c',e=.returned (.slice A' (bs.length+k) c')∧bQ w' base A' (bs.length+k) c' (bs++beN v k)∧App w w' A c A' c'):=by
 have HR:=aH hr
 obtain⟨n,hnn⟩:∃ n,n=bs.length:=⟨_,rfl⟩
 rw[← hnn]at HR hn ⊢
 clear hr
 go_enter Tryz.func120,Tryz.ntmps120
 go_wp2
 go_loopw [0,7] (fun o i wr=>∃ (j:Nat) (A2:Option Addr) (c2:Nat) (xs:List UInt8),j≤k∧i=.int .i64 ((j:Int) - 1)∧o=.slice A2 (n+k - j) c2∧bQ wr base A2 (n+k - j) c2 xs∧xs++beN v j=bs++beN v k∧App w wr A c A2 c2) (fun _ i _=>(intOf i+1).toNat)
 case atStart=>exact⟨k,A,c,bs,zA _,by go_num,by rw[Nat.add_sub_cancel],by rw[Nat.add_sub_cancel];exact HR.out,rfl,App.start _ _ _⟩
 case round =>
  obtain⟨j,A2,c2,xs,hj,rfl,rfl,hrow,hxs,happ⟩:=hrel
  have HROW:=aH hrow
  have HAPP:=aH happ
  have HXS:=aH hxs
  have hz:=happ.grown.size
  clear hrow happ hxs HR
  rcases Nat.eq_zero_or_pos j with h0 | h0
  ·subst h0
   go_wp2
   go_ret
   refine⟨A2,c2,by rw[Nat.sub_zero];rfl,?_,HAPP.out⟩
   have h1:=HROW.out
   have h2:=HXS.out
   rw[beN,List.append_nil]at h2
   rw[Nat.sub_zero,h2]at h1
   exact h1
  ·have hmb:n+k - j≤1099511627784:=by omega
   obtain⟨i,rfl⟩:∃ i,j=i+1:=⟨j - 1,by omega⟩
   have e1:((i+1:Nat):Int) - 1=(i:Int):=by omega
   rw[e1]
   obtain⟨m,hm⟩:∃ m,m=n+k - (i+1):=⟨_,rfl⟩
   rw[← hm]at HROW hmb ⊢
   have hi0:(0:Int)≤(i:Int):=by omega
   have hnew:=fun u:World=>newB u (dig v i)
   rw[aOY]at hnew
   have HNEW:=aH hnew
   clear hnew
   have HML:Hid (n+k - i=m+1):=aH (by omega)
   clear hm
   go_wp2_with (at_builtin;refine appC _ rfl (.tmp 14) (.tmp 21) rfl base A2 m c2 xs rfl (HROW.out.alloc _) _ 1 1 [dig v i] rfl (HNEW.out _) (by omega) (by rw[bJ];omega) ?_;intro A3 c3 w3 hr3 ha3;have HR3:=aH hr3;have HA3:=aH (App.next HAPP.out (App.pre ((zB _ _).alloc (zA _) _) ha3));clear hr3 ha3)
   go_roundw
   case rel =>
    refine⟨i,A3,c3,xs++[dig v i],by omega,by go_num,?_,?_,?_,HA3.out⟩
    ·rw[HML.out]
    ·rw[HML.out];exact HR3.out
    ·have:=HXS.out
     rw[beN]at this
     rw[List.append_assoc]
     exact this
   case measure=>simp [intOf]
def aPO (v:Nat):Nat:=if v % 2=1 then v / 2 ^^^ 3988292384 else v / 2
def aB4 (v:Nat):Nat→Nat
 | 0=>v
 | k+1=>aPO (aB4 v k)
def aDP (v:Nat) (c:UInt8):Nat:=aB4 (v ^^^ c.toNat) 8
def aKH (bs:List UInt8):Nat:=bs.foldl aDP 4294967295
def iL (bs:List UInt8):Nat:=aKH bs ^^^ 4294967295
theorem vP {a b:Nat} (ha:a < 4294967296) (hb:b < 4294967296):a ^^^ b < 4294967296:=Nat.xor_lt_two_pow (n:=32) ha hb
theorem aO8 {v:Nat} (h:v < 4294967296):aPO v < 4294967296:=by
 unfold aPO
 split
 ·exact vP (by omega) (by decide)
 ·omega
theorem qW {v:Nat} (h:v < 4294967296):∀ k,aB4 v k < 4294967296
 | 0=>h
 | k+1=>aO8 (qW h k)
theorem aML {v:Nat} (h:v < 4294967296) (c:UInt8):aDP v c < 4294967296:=qW (vP h (by have:=c.toNat_lt;omega)) 8
theorem aEV:∀ (bs:List UInt8) (v:Nat),v < 4294967296→bs.foldl aDP v < 4294967296
 | [],_,h=>h
 | c::bs,_,h=>aEV bs _ (aML h c)
theorem aHU (bs:List UInt8):aKH bs < 4294967296:=aEV bs _ (by decide)
theorem yA (bs:List UInt8):iL bs < 4294967296:=vP (aHU bs) (by decide)
theorem aHT (bs:List UInt8) (i:Nat) (h:i < bs.length):aKH (bs.take (i+1))=aDP (aKH (bs.take i)) bs[i]:=by
 unfold aKH
 rw[List.take_add_one,List.getElem?_eq_getElem h,List.foldl_append]
 rfl
theorem aN1 (q:Nat) (h:q < 4294967296):bits .xor .u32 ((q:Int) / 2) (bits .and .u32 3988292384 (-bits .and .u32 (q:Int) 1 % 4294967296))=((aPO q:Nat):Int):=by
 have hand:=u32_and_nat q 1 h (by decide)
 rw[Nat.and_one_is_mod,show ((1:Nat):Int)=1 from rfl]at hand
 have hd:(q:Int) / 2=((q / 2:Nat):Int):=by omega
 rw[hand,hd]
 unfold aPO
 rcases (by omega:q % 2=1∨q % 2=0) with h2 | h2
 ·rw[h2,if_pos rfl]
  have h3:=u32_and_nat 3988292384 4294967295 (by decide) (by decide)
  have h4:(3988292384 &&& 4294967295:Nat)=3988292384:=by decide
  rw[h4]at h3
  have h5:(-((1:Nat):Int)) % 4294967296=((4294967295:Nat):Int):=by decide
  rw[h5,show (3988292384:Int)=((3988292384:Nat):Int) from rfl,h3]
  exact u32_xor_nat _ _ (by omega) (by decide)
 ·rw[h2,if_neg (by decide)]
  have h3:=u32_and_nat 3988292384 0 (by decide) (by decide)
  rw[Nat.and_zero]at h3
  have h5:(-((0:Nat):Int)) % 4294967296=((0:Nat):Int):=by decide
  rw[h5,show (3988292384:Int)=((3988292384:Nat):Int) from rfl,h3]
  have:=u32_xor_nat (q / 2) 0 (by omega) (by decide)
  rw[Nat.xor_zero]at this
  exact this
theorem sum_any (A:Option Addr) (c:Nat) (bs:List UInt8) (w:World) (hn:bs.length≤1099511627776) (hx:Rd w A bs.length 1 (aB bs)) :
  Calls Tryz.prog 121 #[.slice A bs.length c] w (fun e w'=>e=.returned (.int .i64 (iL bs))∧Below w.heap.size w w'):=by
 have HX:=aH hx
 clear hx
 obtain⟨n,hnn⟩:∃ n,n=bs.length:=⟨_,rfl⟩
 rw[← hnn]at HX hn ⊢
 have HN:=aH hnn
 clear hnn
 go_enter Tryz.func121,Tryz.ntmps121
 go_wp2
 go_loopw [3,8] (fun x i wr=>∃ k:Nat,k≤n∧i=.int .i64 k∧x=.int .u32 (aKH (bs.take k))∧w=wr) (fun _ i _=>n - (intOf i).toNat)
 case atStart=>exact⟨0,zF _,rfl,rfl,rfl⟩
 case round =>
  obtain⟨k,hk,rfl,rfl,rfl⟩:=hrel
  have hvl:=aHU (bs.take k)
  by_cases hlt:k < n
  ·have hkb:k < bs.length:=by have:=HN.out;omega
   obtain⟨b,o,hA,hblt,hcs⟩:=HX.out.2 (by omega)
   have hce:=hcs k (.int .u8 (bs[k]'hkb).toNat) (by simp [aB,hkb])
   have HNX:=aH (aHT bs k hkb)
   have hy:=(bs[k]'hkb).toNat_lt
   generalize (bs[k]'hkb)=y at *
   generalize aKH (bs.take k)=x at *
   subst hA
   have hxor:=u32_xor_nat x y.toNat hvl (by omega)
   have hxl:=vP (b:=y.toNat) hvl (by omega)
   clear hcs HX
   obtain⟨z,hz⟩:∃ z,z=x ^^^ y.toNat:=⟨_,rfl⟩
   rw[← hz]at hxor hxl
   have HNX':Hid (aKH (bs.take (k+1))=aB4 z 8):=by
    have h:=HNX.out
    unfold aDP at h
    rw[← hz]at h
    exact aH h
   clear hz HNX
   go_wp2_with fail
   go_loopw [3,16] (fun x i wi=>∃ j:Nat,j≤8∧i=.int .i64 j∧x=.int .u32 (aB4 z j)∧w=wi) (fun _ i _=>8 - (intOf i).toNat)
   case atStart=>exact⟨0,zF _,rfl,rfl,rfl⟩
   case round =>
    obtain⟨j,hj,rfl,rfl,rfl⟩:=hrel
    have hql:=qW hxl j
    have HS:Hid (aB4 z (j+1)=aPO (aB4 z j)):=aH rfl
    by_cases hj8:j < 8
    ·generalize aB4 z j=q at *
     have HST:=aH (aN1 q hql)
     go_wp2_with fail
     refine⟨⟨j+1,by omega,by go_num,?_,trivial⟩,by simp [intOf];omega⟩
     rw[HST.out,← HS.out]
    ·obtain rfl:j=8:=by omega
     rw[← HNX'.out]
     clear HS
     go_wp2_with fail
     exact⟨⟨k+1,by omega,by go_num,rfl,trivial⟩,by simp [intOf];omega⟩
  ·obtain rfl:k=n:=by omega
   have hst:bs.take k=bs:=List.take_of_length_le (by have:=HN.out;omega)
   rw[hst]
   rw[hst]at hvl
   have HU:Hid (iL bs=aKH bs ^^^ 4294967295):=aH rfl
   clear hst
   generalize aKH bs=x at *
   have hxor:=u32_xor_nat 4294967295 x (by decide) hvl
   rw[Nat.xor_comm,← HU.out]at hxor
   have hmx:bits .xor .u32 IntKind.u32.max (x:Int)=((iL bs:Nat):Int):=hxor
   have hwr:wrap64 ((iL bs:Nat):Int)=((iL bs:Nat):Int):=by
    have:=yA bs
    unfold wrap64
    omega
   have HR:Hid (wrap64 (bits .xor .u32 IntKind.u32.max (x:Int))=((iL bs:Nat):Int)):=by
    rw[hmx];exact aH hwr
   clear hxor hmx hwr
   go_wp2
   go_ret
   refine⟨?_,zB _ _⟩
   show Ending.returned (.int .i64 (wrap64 (bits .xor .u32 IntKind.u32.max (x:Int))))=_
   rw[HR.out]
def rV (t:Nat) (data:List UInt8):List UInt8:=UInt8.ofNat t::(beN data.length 4++data)
theorem qL (t:Nat) (data:List UInt8):(rV t data).length=5+data.length:=by
 unfold rV
 rw[List.length_cons,bC,aS]
 omega
def lL (v:Int):Bool:=decide (0≤v∧v≤253402300799)
theorem wX (v:Int) (w:World):Calls Tryz.prog 157 #[.int .i64 v] w (pR w (lL v)):=by
 by_cases h0:0≤v
 ·by_cases h1:v≤253402300799
  ·rw[show lL v=true from decide_eq_true ⟨h0,h1⟩]
   go_enter Tryz.func157,Tryz.ntmps157
   go_wp2
   go_ret
   exact⟨rfl,zB _ _⟩
  ·rw[show lL v=false from decide_eq_false fun h=>h1 h.2]
   go_enter Tryz.func157,Tryz.ntmps157
   go_wp2
   go_ret
   exact⟨rfl,zB _ _⟩
 ·rw[show lL v=false from decide_eq_false fun h=>h0 h.1]
  go_enter Tryz.func157,Tryz.ntmps157
  go_wp2
  go_ret
  exact⟨rfl,zB _ _⟩
theorem aNF (k v:ByteArray) (w:World) (hk:k.size≤1073741824) (hv:v.size≤1073741824):Calls Tryz.prog 33 #[.string k,.string v] w (aDU w (k++⟨#[10]⟩++v)):=by
 go_enter Tryz.func33,Tryz.ntmps33
 go_wp2
 go_ret
 exact⟨rfl,zB _ _⟩
section
variable {w:World} {b:Nat} {x0 x1 x2 x3 x4 x5 x6 x7 x8:Value} {t:TypeId}
theorem Blk.cells9 (h:Blk w b #[x0,x1,x2,x3,x4,x5,x6,x7,x8] t):w.cell? ⟨b,0,none⟩=some x0∧w.cell? ⟨b,1,none⟩=some x1∧w.cell? ⟨b,2,none⟩=some x2∧w.cell? ⟨b,3,none⟩=some x3∧w.cell? ⟨b,4,none⟩=some x4∧w.cell? ⟨b,5,none⟩=some x5∧w.cell? ⟨b,6,none⟩=some x6∧w.cell? ⟨b,7,none⟩=some x7∧w.cell? ⟨b,8,none⟩=some x8 :=
 ⟨h.cell 0 rfl,h.cell 1 rfl,h.cell 2 rfl,h.cell 3 rfl,h.cell 4 rfl,h.cell 5 rfl,h.cell 6 rfl,h.cell 7 rfl,h.cell 8 rfl⟩
end
def okE (k v:ByteArray) (nb:Nat) (asked got:Int):Bool:=decide (k.size≠0∧k.size≤4096∧v.size≤4096∧nb≤65536∧lL asked=true∧lL got=true)
theorem zH {k:ByteArray} (h:k.size=0):k=⟨#[]⟩:=by
 obtain⟨d⟩:=k
 have:d=#[]:=Array.eq_empty_of_size_eq_zero h
 rw[this]
theorem aH1 (k v:ByteArray) (s:Int) (r:ByteArray) (m:Int) (A:Option Addr) (nf cf:Nat) (X:Option Addr) (nb cb:Nat) (asked got:Int) (w:World):Calls Tryz.prog 119 #[.agg #[.string k,.string v,.int .i64 s,.string r,.int .i64 m,.slice A nf cf,.slice X nb cb,.int .i64 asked,.int .i64 got]] w (pR w (okE k v nb asked got)):=by
 have HK:=aH (Blk.new w #[.string k,.string v,.int .i64 s,.string r,.int .i64 m,.slice A nf cf,.slice X nb cb,.int .i64 asked,.int .i64 got] 41)
 have HB:=aH ((zB w.heap.size w).alloc (zA _) (.cells #[.string k,.string v,.int .i64 s,.string r,.int .i64 m,.slice A nf cf,.slice X nb cb,.int .i64 asked,.int .i64 got] 41))
 have HT1:=aH (fun u=>wX asked u)
 have HT2:=aH (fun u=>wX got u)
 obtain⟨ok,hok⟩:∃ ok,ok=okE k v nb asked got:=⟨_,rfl⟩
 rw[← hok]
 unfold okE at hok
 by_cases h0:k.size=0
 ·obtain rfl:ok=false:=hok.trans (decide_eq_false fun h=>h.1 h0)
  obtain rfl:=zH h0
  clear hok HT1 HT2
  go_enter Tryz.func119,Tryz.ntmps119
  obtain⟨x0,x1,x2,x3,x4,x5,x6,x7,x8⟩:=HK.out.cells9
  go_wp2
  go_ret
  exact⟨rfl,HB.out⟩
 have h01:¬ k.toList=[]:=fun h=>h0 (by have:k=⟨#[]⟩:=toList_inj.1 (h.trans (by simp));rw[this];rfl)
 have h02:k.toList.isEmpty=false:=by cases h:k.toList<;>simp_all
 by_cases h1:(k.size:Int)≤4096
 rotate_left
 ·obtain rfl:ok=false:=hok.trans (decide_eq_false fun h=>by omega)
  clear hok HT1 HT2 h0
  go_enter Tryz.func119,Tryz.ntmps119
  obtain⟨x0,x1,x2,x3,x4,x5,x6,x7,x8⟩:=HK.out.cells9
  go_wp2
  go_ret
  exact⟨rfl,HB.out⟩
 by_cases h2:(v.size:Int)≤4096
 rotate_left
 ·obtain rfl:ok=false:=hok.trans (decide_eq_false fun h=>by omega)
  clear hok HT1 HT2 h0
  go_enter Tryz.func119,Tryz.ntmps119
  obtain⟨x0,x1,x2,x3,x4,x5,x6,x7,x8⟩:=HK.out.cells9
  go_wp2
  go_ret
  exact⟨rfl,HB.out⟩
 by_cases h3:(nb:Int)≤65536
 rotate_left
 ·obtain rfl:ok=false:=hok.trans (decide_eq_false fun h=>by omega)
  clear hok HT1 HT2 h0
  go_enter Tryz.func119,Tryz.ntmps119
  obtain⟨x0,x1,x2,x3,x4,x5,x6,x7,x8⟩:=HK.out.cells9
  go_wp2
  go_ret
  exact⟨rfl,HB.out⟩
 have hok2:ok=(lL asked&&lL got):=by
  rw[hok]
  have h1':k.size≤4096:=by omega
  have h2':v.size≤4096:=by omega
  have h3':nb≤65536:=by omega
  cases lL asked<;>cases lL got<;>simp [h0,h1',h2',h3']
 clear hok
 have HOK:=aH hok2
 clear hok2 h0
 generalize lL asked=ta at *
 generalize lL got=tg at *
 go_enter Tryz.func119,Tryz.ntmps119
 obtain⟨x0,x1,x2,x3,x4,x5,x6,x7,x8⟩:=HK.out.cells9
 go_wp2_with fail
 clear x0 x1 x2 x3 x4 x5 x6 x7 x8
 refine (HT1.out _).mono ?_
 rintro e w1 ⟨rfl,hb1⟩
 have HB1:=aH (aA HB.out.size HB.out hb1)
 have HK1:=aH (HK.out.below hb1)
 clear hb1 HB HK HT1
 obtain⟨x0,x1,x2,x3,x4,x5,x6,x7,x8⟩:=HK1.out.cells9
 cases ta with
 | false =>
  obtain rfl:ok=false:=HOK.out
  go_wp2
  go_ret
  exact⟨rfl,HB1.out⟩
 | true =>
  obtain rfl:ok=tg:=by rw[HOK.out];rfl
  go_wp2_with fail
  clear x0 x1 x2 x3 x4 x5 x6 x7 x8
  refine (HT2.out _).mono ?_
  rintro e w2 ⟨rfl,hb2⟩
  have HB2:=aH (aA HB1.out.size HB1.out hb2)
  clear hb2
  go_wp2
  go_ret
  exact⟨rfl,HB2.out⟩
end Go.Proofs.YthjeglnkgdpijaaGreatDoor
