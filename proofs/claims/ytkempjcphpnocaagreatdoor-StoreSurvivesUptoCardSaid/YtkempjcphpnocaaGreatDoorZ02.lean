/- strconv.Atoi from whatever text, with its two error variables out of the row's list; strings.Trim at the ten digits. Conditions: a text of at most 2^31 bytes; the two variables hold errors. strconv.ParseUint at base 16 and 32 bits, a text of at most eight bytes: the number, or an error. The walks of bytes.IndexByte, bytes.HasSuffix and bytes.Cut at a semicolon; of chunk.size. The walk of the decoder's readSize. The walk of the decoder's readData. How a message's body ends, as plain functions on its fields. No program here. The walks of frame.length, frame.rule, frame.OfRequest, and of the document's number, rule and OfRequest. Conditions: fields of bulk at most 2^30. The walks of Reply, of the words of a status, of SameBytes and SameResponse. Conditions: the number is of 64 bits; for Itoa the library's table of powers of ten is as its text lays it. The walks of Reply. Conditions: the number is of 64 bits; for Itoa the library's table of powers of ten is as its text lays it. The walks of SameResponse, CopyResponse, SameRequest, CopyRequest, and of the law's alive. Conditions: lists of at most 2^40 elements; the library's table of powers of ten is as its text lays it. -/
import Derived.Test.YtkempjcphpnocaaGreatDoorZ03
import Derived.Stop.LaidErr
import Derived.LaidLaws
import Derived.Lib.AtoiAllMem
import Derived.Lib.ItoaLen
import Derived.Deep.DeepCutAuto
import Derived.Deep.RegionHeld3
namespace Go.Proofs.YtkempjcphpnocaaGreatDoor
open Go.RowKit
def ErrOk (w:World):Prop:=(∃ t p,w.cell? ⟨5,0,none⟩=some (.iface t p))∧∃ t p,w.cell? ⟨6,0,none⟩=some (.iface t p)
theorem ErrOk.below {w w':World} (h:ErrOk w) (hb:Below w.heap.size w w'):ErrOk w':=by
 obtain⟨⟨t,p,h1⟩,t2,p2,h2⟩:=h
 exact⟨⟨t,p,(hb.cell (p:=⟨5,0,none⟩) (cell_lt h1)).trans h1⟩,t2,p2,(hb.cell (p:=⟨6,0,none⟩) (cell_lt h2)).trans h2⟩
theorem star_es: "*"++ "errors.errorString"= "*errors.errorString":=by decide
theorem row_es (u:TypeId) (h:Tryz.prog.typeName? 3 u=some "*errors.errorString"):u=276 :=
 typeName_ptr_named (nm:= "errors.errorString") (by rw[star_es];kernel_rfl) (by kernel_rfl) (by decide) u (by rw[star_es];exact h)
theorem gS:Tryz.prog.globalNamed "strconv.ErrSyntax"=some 5:=by kernel_rfl
theorem gST:(Tryz.prog.globals[5]?).map (·.type)=some 196:=by kernel_rfl
theorem gR:Tryz.prog.globalNamed "strconv.ErrRange"=some 6:=by kernel_rfl
theorem gRT:(Tryz.prog.globals[6]?).map (·.type)=some 196:=by kernel_rfl
theorem cells_es:Tryz.prog.cellsOf 278=1:=by kernel_rfl
theorem cells_st:Tryz.prog.cellsOf 9=1:=by kernel_rfl
theorem err_of {W:World} {laid:List (String × DataW Unit)} (h:laidMetH Tryz.prog laid W)
  (hm1:laid.filter (fun x=>x.1== "strconv.ErrSyntax")=[("strconv.ErrSyntax",Rows.laid_strconv_ErrSyntax)]) (hm2:laid.filter (fun x=>x.1== "strconv.ErrRange")=[("strconv.ErrRange",Rows.laid_strconv_ErrRange)]):ErrOk W:=by
 have h1:=h.filter (fun x=>x.1== "strconv.ErrSyntax")
 have h2:=h.filter (fun x=>x.1== "strconv.ErrRange")
 rw[hm1]at h1
 rw[hm2]at h2
 obtain⟨a0,s0,hv0,_⟩:=laid_sentinel (r:=[]) h1 gS gST Tryz.underlying196 row_es Tryz.underlying276 Tryz.underlying278 rfl rfl Tryz.underlying9 cells_es cells_st
 obtain⟨a1,s1,hv1,_⟩:=laid_sentinel (r:=[]) h2 gR gRT Tryz.underlying196 row_es Tryz.underlying276 Tryz.underlying278 rfl rfl Tryz.underlying9 cells_es cells_st
 exact⟨⟨_,_,by have h0:=World.var?_cell gS hv0 0;simpa using h0⟩,_,_,by have h0:=World.var?_cell gR hv1 0;simpa using h0⟩
def RetA (w:World) (l:List UInt8) (e:Ending) (w':World):Prop :=
 ∃ v b,e=.returned (.tuple #[.int .i64 v,b])∧((b=.nilIface∧Lib.atoiAll l=.ok v)∨((∃ t p,b=.iface t (.pointer p))∧∀ u,Lib.atoiAll l≠.ok u))∧Below w.heap.size w w'
theorem atoi_any (s:ByteArray) (w:World) (hs:s.size≤2147483648) (h:ErrOk w):Calls Tryz.prog 139 #[.string s] w (RetA w (L s)):=by
 obtain⟨⟨t1,p1,h1⟩,t2,p2,h2⟩:=h
 cases ha:Lib.atoiAll s.data.toList
 case ok v =>
  refine (Tryz.strconv_Atoi_ok s (by omega) v ha w).mono ?_
  rintro e w' ⟨rfl,hw⟩
  refine⟨v,_,rfl,.inl ⟨rfl,ha⟩,?_⟩
  rcases hw with rfl | ⟨t,rfl⟩
  ·exact Below.refl _ _
  ·exact Lib.bytesWorld_below _ _ _
 case range =>
  refine (Tryz.strconv_Atoi_range s (by omega) ha _ w h2 (.inr ⟨_,_,rfl⟩)).mono ?_
  rintro e w' ⟨N,rfl,_,_,hb⟩
  exact⟨_,_,rfl,.inr ⟨⟨_,_,rfl⟩,fun u hu=>by rw[show L s=s.data.toList from rfl,ha]at hu;cases hu⟩,hb⟩
 ·refine (Any.strconv_Atoi_syntax Tryz.laysC172 s (by omega) ha _ w h1 (.inr ⟨_,_,rfl⟩)).mono ?_
  rintro e w' ⟨N,rfl,_,_,hb⟩
  exact⟨_,_,rfl,.inr ⟨⟨_,_,rfl⟩,fun u hu=>by rw[show L s=s.data.toList from rfl,ha]at hu;cases hu⟩,hb⟩
def digs:List UInt8:=[48,49,50,51,52,53,54,55,56,57]
theorem dig_digs (c:UInt8):P.dig c=digs.contains c:=by
 have:∀ n:Fin 256,P.dig (UInt8.ofNat n.1)=digs.contains (UInt8.ofNat n.1):=by decide +kernel
 have h:=this ⟨c.toNat,c.toNat_lt⟩
 simpa using h
theorem drop_nil {p:UInt8→Bool}:∀ {l:List UInt8},l.dropWhile p=[]↔∀ x∈l,p x=true
 | []=>by simp
 | x::l=>by
  cases hx:p x
  ·simp [hx]
  ·simp [hx,drop_nil (l:=l)]
theorem trim_digs (l:List UInt8):Lib.trimS l digs=[]↔l.all P.dig=true:=by
 have e:P.dig=fun c=>digs.contains c:=funext dig_digs
 unfold Lib.trimS Lib.trimLeftS Lib.trimRightS
 rw[← e,List.all_eq_true]
 constructor
 ·intro h
  rw[drop_nil]at h
  have h2:l.reverse.dropWhile P.dig=[]:=by
   cases h3:l.reverse.dropWhile P.dig with
   | nil=>rfl
   | cons x r =>
    have h4:=List.head_dropWhile_not P.dig (l:=l.reverse) (by rw[h3];simp)
    simp only[h3,List.head_cons]at h4
    have h5:=h x (by rw[h3];simp)
    rw[h4]at h5
    cases h5
  rw[drop_nil]at h2
  exact fun x hx=>h2 x (by simpa using hx)
 ·intro h
  have h2:l.reverse.dropWhile P.dig=[]:=by
   rw[drop_nil]
   exact fun x hx=>h x (by simpa using hx)
  rw[h2]
  rfl
theorem digTrim (s:ByteArray) (w:World) (hs:s.size≤1099511627776):Calls Tryz.prog 54 #[.string s,.string ⟨#[48,49,50,51,52,53,54,55,56,57]⟩] w (RetS w (B (Lib.trimS (L s) digs))):=by
 refine (Any.strings_Trim_laid Tryz.lays160 (by kernel_rfl) s ⟨#[48,49,50,51,52,53,54,55,56,57]⟩ w (by omega) (by decide) (ascii_of_all (by decide))).mono ?_
 rintro e w' ⟨rfl,hb⟩
 exact⟨rfl,hb⟩
theorem three_digits:∀ a b c:Fin 10,(match Lib.atoiAll [UInt8.ofNat (48+a.1),UInt8.ofNat (48+b.1),UInt8.ofNat (48+c.1)] with | .ok v=>decide (v=P.stat [UInt8.ofNat (48+a.1),UInt8.ofNat (48+b.1),UInt8.ofNat (48+c.1)]) | _=>false)=true:=by decide +kernel
theorem dig_of {c:UInt8} (h:P.dig c=true):∃ a:Fin 10,c=UInt8.ofNat (48+a.1):=by
 unfold P.dig at h
 rw[Bool.and_eq_true,decide_eq_true_eq,decide_eq_true_eq]at h
 refine⟨⟨c.toNat - 48,by omega⟩,?_⟩
 apply UInt8.toNat_inj.1
 rw[UInt8.toNat_ofNat']
 have:=c.toNat_lt
 show c.toNat=(48+(c.toNat - 48)) % 256
 omega
theorem atoi_code {l:List UInt8} (h:P.code3 l=true):Lib.atoiAll l=.ok (P.stat l):=by
 unfold P.code3 at h
 rw[Bool.and_eq_true,decide_eq_true_eq,List.all_eq_true]at h
 match l,h with
 | [x,y,z],⟨_,h⟩ =>
  obtain⟨a,rfl⟩:=dig_of (h x (by simp))
  obtain⟨b,rfl⟩:=dig_of (h y (by simp))
  obtain⟨c,rfl⟩:=dig_of (h z (by simp))
  have:=three_digits a b c
  split at this
  ·rename_i v hv
   rw[hv,of_decide_eq_true this]
  ·cases this
end Go.Proofs.YtkempjcphpnocaaGreatDoor
namespace Go.Proofs.YtkempjcphpnocaaGreatDoor
open Go.RowKit
namespace C
theorem val_snoc (l:List UInt8) (c:UInt8):val (l++[c])=val l * 16+hex c:=by
 unfold val
 rw[List.foldl_append]
 rfl
def lw (c:UInt8):Int:=bits .or .u8 c.toNat 32
def kindOf (c:UInt8):Bool :=
 if 48≤c.toNat∧c.toNat≤57 then decide (hex c=(c.toNat:Int) - 48) else
 if 97≤lw c∧lw c≤102 then decide (hex c=lw c - 87)&&c != 95 else
 decide (hex c=-1)&&decide (0≤lw c)&&decide (lw c < 256)&&(c != 95||decide (lw c=127))
theorem kind_all:∀ n:Fin 256,kindOf (UInt8.ofNat n.1)=true:=by decide +kernel
theorem kind (c:UInt8):(48≤c.toNat∧c.toNat≤57∧hex c=(c.toNat:Int) - 48)∨(¬ (48≤c.toNat∧c.toNat≤57)∧c.toNat≠95∧97≤lw c∧lw c≤102∧hex c=lw c - 87)∨(¬ (48≤c.toNat∧c.toNat≤57)∧hex c=-1∧0≤lw c∧lw c < 256∧(lw c < 97∨103≤lw c)∧(c.toNat=95→lw c=127)):=by
 have h:=kind_all ⟨c.toNat,c.toNat_lt⟩
 simp only[UInt8.ofNat_toNat]at h
 unfold kindOf at h
 split at h
 ·rename_i h1
  exact .inl ⟨h1.1,h1.2,of_decide_eq_true h⟩
 ·rename_i h1
  split at h
  ·rename_i h2
   rw[Bool.and_eq_true,decide_eq_true_eq]at h
   refine .inr (.inl ⟨h1,fun h3=>?_,h2.1,h2.2,h.1⟩)
   have h4:c=95:=UInt8.toNat_inj.1 h3
   rw[h4]at h
   exact absurd h.2 (by decide)
  ·rename_i h2
   simp only[Bool.and_eq_true,decide_eq_true_eq,Bool.or_eq_true]at h
   refine .inr (.inr ⟨h1,h.1.1.1,h.1.1.2,h.1.2,by omega,fun h3=>?_⟩)
   have h4:c=95:=UInt8.toNat_inj.1 h3
   rcases h.2 with h5 | h5
   ·rw[h4]at h5
    exact absurd h5 (by decide)
   ·exact h5
end C
end Go.Proofs.YtkempjcphpnocaaGreatDoor
namespace Go.Proofs.YtkempjcphpnocaaGreatDoor
open Go.RowKit
def addA (A:Option Addr) (c k:Nat):Option Addr:=if c=k then A else A.map fun x=>x.add k
theorem Rd.fromA {w:World} {A:Option Addr} {n c k:Nat} {l:List UInt8} (h:Rd w A n 1 (bcells l)) (hnc:n≤c) (hk:k≤n):Rd w (addA A c k) (n - k) 1 (bcells (l.drop k)):=by
 have hl:=rd_len h
 by_cases hkn:k=n
 ·exact⟨by simp [bcells,hl],fun h0=>by omega⟩
 ·obtain⟨b,o,rfl,_,_⟩:=h.2 (by omega)
  have e:addA (some ⟨b,o,none⟩) c k=some ⟨b,o+k,none⟩:=by
   unfold addA
   rw[if_neg (by omega)]
   show some ((⟨b,o,none⟩:Addr).add k)=_
   unfold Addr.add
   split<;>simp_all
  rw[e]
  exact h.from_ hk
end Go.Proofs.YtkempjcphpnocaaGreatDoor
namespace Go.Proofs.YtkempjcphpnocaaGreatDoor
open Go.RowKit
theorem addA_end {A:Option Addr} {c:Nat}:addA A c c=A:=if_pos rfl
theorem addA_in {b o c k:Nat} (h:k≠c):addA (some ⟨b,o,none⟩) c k=some ⟨b,o+k,none⟩:=by
 unfold addA
 rw[if_neg (by omega)]
 show some ((⟨b,o,none⟩:Addr).add k)=_
 unfold Addr.add
 split<;>simp_all
end Go.Proofs.YtkempjcphpnocaaGreatDoor
namespace Go.Proofs.YtkempjcphpnocaaGreatDoor
namespace F
def teN:ByteArray:=⟨#[84,114,97,110,115,102,101,114,45,69,110,99,111,100,105,110,103]⟩
def clN:ByteArray:=⟨#[67,111,110,116,101,110,116,45,76,101,110,103,116,104]⟩
def chW:ByteArray:=⟨#[99,104,117,110,107,101,100]⟩
def num (s:ByteArray):Int:=if s.size≤18 then (match Lib.decNat (L s) with | some v=>(v:Int) | none=>-1) else -1
theorem dig_val (c:UInt8):P.dig c=true↔∃ d,Lib.digitVal c=some d:=by
 unfold P.dig Lib.digitVal
 rw[Bool.and_eq_true,decide_eq_true_eq,decide_eq_true_eq]
 constructor
 ·intro h;exact⟨_,if_pos h⟩
 ·rintro⟨d,h⟩
  split at h
  ·rename_i h1;exact h1
  ·cases h
def els (vs:List ByteArray):List ByteArray:=vs.flatMap list
def lensB (l:List ByteArray):Bool:=l.any fun y=>decide (num y < 0∨num y≠num (l.headD ⟨#[]⟩))
def lens (l:List ByteArray):Int × Int:=if l=[]∨lensB l=true then (0,60) else if 65536 < num (l.headD ⟨#[]⟩) then (0,71) else (num (l.headD ⟨#[]⟩),0)
def Seen (D:List ByteArray) (z:Int):Prop:=(D=[]∧z=-1)∨(D≠[]∧0≤z∧∀ x∈D,num x=z)
theorem Seen.head {D r:List ByteArray} {z:Int} (h:Seen D z) (h0:0≤z):num ((D++r).headD ⟨#[]⟩)=z:=by
 rcases h with ⟨rfl,h⟩ | ⟨h1,_,h2⟩
 ·omega
 ·cases D with
  | nil=>exact absurd rfl h1
  | cons x t=>exact h2 x (by simp)
theorem Seen.next {D:List ByteArray} {x:ByteArray} {z:Int} (hs:Seen D z) (h:0≤num x) (he:0≤z→z=num x):Seen (D++[x]) (num x):=by
 refine .inr ⟨by simp,h,fun y hy=>?_⟩
 rcases List.mem_append.1 hy with hy | hy
 ·rcases hs with ⟨rfl,_⟩ | ⟨_,h0,h2⟩
  ·cases hy
  ·rw[h2 y hy,he h0]
 ·simp only[List.mem_cons,List.mem_nil_iff,or_false]at hy
  rw[hy]
theorem Seen.le {D:List ByteArray} {z:Int} (h:Seen D z):-1≤z:=by
 rcases h with ⟨_,h⟩ | ⟨_,h,_⟩<;>omega
structure FR where
 k:Int
 n:Int
 e:Int
def frame (m:Int) (fs:List FD) (other:Int):FR :=
 if values fs teN≠[]∧values fs clN≠[] then ⟨0,0,61⟩
 else if values fs teN≠[] then (if m=0∨tokens fs teN≠[chW] then ⟨0,0,62⟩ else ⟨2,0,0⟩)
 else if values fs clN=[] then ⟨other,0,0⟩
 else if (lens (els (values fs clN))).2≠0 then ⟨0,0,(lens (els (values fs clN))).2⟩
 else ⟨1,(lens (els (values fs clN))).1,0⟩
end F
end Go.Proofs.YtkempjcphpnocaaGreatDoor
namespace Go.Proofs.YtkempjcphpnocaaGreatDoor
open Go.RowKit
set_option maxHeartbeats 400000 in
theorem sameBytes_any (A B:Option Addr) (n m c d:Nat) (xs ys:List UInt8) (w:World) (hn:n≤1099511627776) (hm:m≤1099511627776) (hx:Rd w A n 1 (bcells xs)) (hy:Rd w B m 1 (bcells ys)) (hxl:xs.length=n) (hyl:ys.length=m) :
  Calls Tryz.prog 52 #[.slice A n c,.slice B m d] w (RetB w (decide (xs=ys))):=by
 have HX:=Lib.hid hxl
 have HY:=Lib.hid hyl
 clear hxl hyl
 by_cases hnm:n=m
 ·subst hnm
  go_enter Tryz.func52,Tryz.ntmps52
  go_wp2
  go_loopw [5] (fun i wr=>∃ k:Nat,k≤n∧i=.int .i64 k∧xs.take k=ys.take k∧∃ q,wr=w.drewN q) (fun i _=>n - (intOf i).toNat)
  case atStart=>exact⟨0,Nat.zero_le _,rfl,rfl,0,rfl⟩
  case round =>
   obtain⟨k,hk,rfl,he,q,rfl⟩:=hrel
   have HE:=Lib.hid he;clear he
   by_cases hlt:k < n
   ·obtain⟨b1,o1,rfl,hl1,c1⟩:=hx.byte hlt HX.out
    obtain⟨b2,o2,rfl,hl2,d1⟩:=hy.byte hlt HY.out
    have hsnoc:∀ h:xs[k]'(by have:=HX.out;omega)=ys[k]'(by have:=HY.out;omega),xs.take (k+1)=ys.take (k+1):=fun h=>take_eq_snoc _ _ HE.out h
    have hne:∀ h:¬ xs[k]'(by have:=HX.out;omega)=ys[k]'(by have:=HY.out;omega),¬ xs=ys:=fun h e=>h (by subst e;rfl)
    obtain⟨x,hx1⟩:∃ x,x=xs[k]'(by have:=HX.out;omega):=⟨_,rfl⟩
    obtain⟨y,hy1⟩:∃ y,y=ys[k]'(by have:=HY.out;omega):=⟨_,rfl⟩
    rw[← hx1]at c1 hsnoc hne
    rw[← hy1]at d1 hsnoc hne
    have HS:=Lib.hid hsnoc
    have HN:=Lib.hid hne
    clear hx1 hy1 hsnoc hne
    by_cases hd:x=y
    ·have hb:((x.toNat:Int) != (y.toNat:Int))=false:=by rw[hd];simp
     have hyes:=HS.out hd
     have HYS:=Lib.hid hyes
     clear hyes hd
     go_wp2
     go_region
     go_wp2
     go_roundw
     case rel=>exact⟨k+1,by omega,by go_num,HYS.out,_,rfl⟩
     case measure=>simp [intOf];omega
    ·have hb:((x.toNat:Int) != (y.toNat:Int))=true:=by
      rw[bne_iff_ne];intro e;exact hd (UInt8.toNat_inj.1 (by omega))
     have hno:=decide_eq_false (HN.out hd)
     have HNO:=Lib.hid hno
     clear hno hd
     go_wp2
     go_region
     go_wp2
     go_ret
     exact⟨ret_bool HNO.out.symm,below_drewN (Below.refl _ _) _⟩
   ·have hfin:xs=ys:=by
     have:=HE.out
     have h1:=HX.out
     have h2:=HY.out
     rw[List.take_of_length_le (by omega),List.take_of_length_le (by omega)]at this
     exact this
    have HF:=Lib.hid hfin
    clear hfin
    go_wp2
    go_ret
    exact⟨ret_bool (by rw[decide_eq_true HF.out]),below_drewN (Below.refl _ _) _⟩
 ·have h1:((n:Int)==(m:Int))=false:=by simp;omega
  have h2:((n:Int) != (m:Int))=true:=by simp;omega
  go_enter Tryz.func52,Tryz.ntmps52
  go_wp2
  go_ret
  exact⟨ret_bool (by have:=HX.out;have:=HY.out;symm;apply decide_eq_false;rintro rfl;omega),Below.refl _ _⟩
def words:List (Int × ByteArray):=[(400,⟨#[66,97,100,32,82,101,113,117,101,115,116]⟩),(403,⟨#[70,111,114,98,105,100,100,101,110]⟩),(404,⟨#[78,111,116,32,70,111,117,110,100]⟩),(413,⟨#[67,111,110,116,101,110,116,32,84,111,111,32,76,97,114,103,101]⟩),(431,⟨#[82,101,113,117,101,115,116,32,72,101,97,100,101,114,32,70,105,101,108,100,115,32,84,111,111,32,76,97,114,103,101]⟩),(501,⟨#[78,111,116,32,73,109,112,108,101,109,101,110,116,101,100]⟩),(502,⟨#[66,97,100,32,71,97,116,101,119,97,121]⟩),(504,⟨#[71,97,116,101,119,97,121,32,84,105,109,101,111,117,116]⟩),(505,⟨#[72,84,84,80,32,86,101,114,115,105,111,110,32,78,111,116,32,83,117,112,112,111,114,116,101,100]⟩)]
def wordOf (s:Int):List (Int × ByteArray)→ByteArray
 | []=>⟨#[69,114,114,111,114]⟩
 | x::l=>if x.1=s then x.2 else wordOf s l
def word (s:Int):ByteArray:=wordOf s words
end Go.Proofs.YtkempjcphpnocaaGreatDoor
namespace Go.Proofs.YtkempjcphpnocaaGreatDoor
open Go.RowKit
def plainF:FD:=(⟨#[67,111,110,116,101,110,116,45,84,121,112,101]⟩,⟨#[116,101,120,116,47,112,108,97,105,110]⟩)
def at_ (w:World) (p:Addr):Value:=(w.cell? p).getD undef
theorem at_of {w:World} {p:Addr} {v:Value} (h:w.cell? p=some v):w.cell? p=some (at_ w p):=by
 unfold at_;rw[h];rfl
theorem newFree {w w1:World} {cs:Array Value} {t:TypeId} (hb:Below (w.alloc (.cells cs t)).heap.size (w.alloc (.cells cs t)) w1) (i:Nat):w1.frozen? ⟨w.heap.size,i,none⟩=false:=by
 rw[hb.frozen (p:=⟨w.heap.size,i,none⟩) (by simp)]
 unfold World.frozen?;rw[heap_alloc_new];simp
def Four (w:World) (b:Nat):Prop:=(w.cell? ⟨b,0,none⟩=some (at_ w ⟨b,0,none⟩)∧w.frozen? ⟨b,0,none⟩=false)∧(w.cell? ⟨b,1,none⟩=some (at_ w ⟨b,1,none⟩)∧w.frozen? ⟨b,1,none⟩=false)∧(w.cell? ⟨b,2,none⟩=some (at_ w ⟨b,2,none⟩)∧w.frozen? ⟨b,2,none⟩=false)∧(w.cell? ⟨b,3,none⟩=some (at_ w ⟨b,3,none⟩)∧w.frozen? ⟨b,3,none⟩=false)
def Four4 (w:World) (b:Nat) (x0 x1 x2 x3:Value):Prop:=w.cell? ⟨b,0,none⟩=some x0∧w.cell? ⟨b,1,none⟩=some x1∧w.cell? ⟨b,2,none⟩=some x2∧w.cell? ⟨b,3,none⟩=some x3
theorem Four.below {w w1:World} {b:Nat} (h:Four w b) (hb:Below w.heap.size w w1):Four w1 b:=by
 obtain⟨⟨a0,f0⟩,⟨a1,f1⟩,⟨a2,f2⟩,⟨a3,f3⟩⟩:=h
 have lt:=World.block_lt_of_cell? w _ a0
 exact⟨⟨at_of ((hb.cell (p:=⟨b,0,none⟩) lt).trans a0),(hb.frozen (p:=⟨b,0,none⟩) lt).trans f0⟩,⟨at_of ((hb.cell (p:=⟨b,1,none⟩) lt).trans a1),(hb.frozen (p:=⟨b,1,none⟩) lt).trans f1⟩,⟨at_of ((hb.cell (p:=⟨b,2,none⟩) lt).trans a2),(hb.frozen (p:=⟨b,2,none⟩) lt).trans f2⟩,⟨at_of ((hb.cell (p:=⟨b,3,none⟩) lt).trans a3),(hb.frozen (p:=⟨b,3,none⟩) lt).trans f3⟩⟩
theorem Four4.below {w w1:World} {b:Nat} {x0 x1 x2 x3:Value} (h:Four4 w b x0 x1 x2 x3) (hb:Below w.heap.size w w1):Four4 w1 b x0 x1 x2 x3:=by
 obtain⟨a0,a1,a2,a3⟩:=h
 have lt:=World.block_lt_of_cell? w _ a0
 exact⟨(hb.cell (p:=⟨b,0,none⟩) lt).trans a0,(hb.cell (p:=⟨b,1,none⟩) lt).trans a1,(hb.cell (p:=⟨b,2,none⟩) lt).trans a2,(hb.cell (p:=⟨b,3,none⟩) lt).trans a3⟩
theorem Four4.four {w:World} {b:Nat} {x0 x1 x2 x3:Value} (h:Four4 w b x0 x1 x2 x3) (h0:∀ i,w.frozen? ⟨b,i,none⟩=false):Four w b :=
 ⟨⟨at_of h.1,h0 0⟩,⟨at_of h.2.1,h0 1⟩,⟨at_of h.2.2.1,h0 2⟩,⟨at_of h.2.2.2,h0 3⟩⟩
theorem newFour {w:World} (x0 x1 x2 x3:Value) (t:TypeId):Four4 (w.alloc (.cells #[x0,x1,x2,x3] t)) w.heap.size x0 x1 x2 x3:=by
 refine⟨?_,?_,?_,?_⟩<;>simp
theorem newFour_free {w:World} (cs:Array Value) (t:TypeId) (i:Nat):(w.alloc (.cells cs t)).frozen? ⟨w.heap.size,i,none⟩=false:=by
 unfold World.frozen?;rw[heap_alloc_new];simp
def HeldR (w:World) (b b4:Nat) (x0 x1 x2 x3:Value) (A:Option Addr) (w':World):Prop :=
 Four4 w' b4 x0 x1 x2 x3∧Four w' b∧(TabOk w'∧Rd w' A 1 2 (fcells [plainF])∧Below w.heap.size w w')
theorem HeldR.below {w:World} {b b4:Nat} {x0 x1 x2 x3:Value} {A:Option Addr} {u v:World} (h:HeldR w b b4 x0 x1 x2 x3 A u) (hb:Below u.heap.size u v):HeldR w b b4 x0 x1 x2 x3 A v :=
 ⟨Four4.below h.1 hb,Four.below h.2.1 hb,h.2.2.1.below hb,h.2.2.2.1.below hb,below_then h.2.2.2.2.size h.2.2.2.2 hb⟩
theorem HeldR.drew {w:World} {b b4:Nat} {x0 x1 x2 x3:Value} {A:Option Addr} {u:World} (h:HeldR w b b4 x0 x1 x2 x3 A u):HeldR w b b4 x0 x1 x2 x3 A u.drew:=h.below (Below.refl _ _).drew
theorem Four.set4 {u:World} {b:Nat} (h:Four u b) (x0 x1 x2 x3:Value):Four4 ((((u.setCell ⟨b,0,none⟩ x0).setCell ⟨b,1,none⟩ x1).setCell ⟨b,2,none⟩ x2).setCell ⟨b,3,none⟩ x3) b x0 x1 x2 x3:=by
 obtain⟨⟨a0,f0⟩,⟨a1,f1⟩,⟨a2,f2⟩,⟨a3,f3⟩⟩:=h
 have o:∀ (w:World) (i j:Nat) (v:Value),i≠j→(w.setCell ⟨b,i,none⟩ v).cell? ⟨b,j,none⟩=w.cell? ⟨b,j,none⟩:=fun w i j v h=>World.cell?_setCell_other _ _ _ _ (fun e=>h (by injection e))
 refine⟨?_,?_,?_,?_⟩
 ·rw[o _ _ _ _ (by decide),o _ _ _ _ (by decide),o _ _ _ _ (by decide)]
  exact World.cell?_setCell_same _ _ _ a0
 ·rw[o _ _ _ _ (by decide),o _ _ _ _ (by decide)]
  exact World.cell?_setCell_same _ _ _ (u:=at_ u ⟨b,1,none⟩) (by rw[o _ _ _ _ (by decide)];exact a1)
 ·rw[o _ _ _ _ (by decide)]
  exact World.cell?_setCell_same _ _ _ (u:=at_ u ⟨b,2,none⟩) (by rw[o _ _ _ _ (by decide),o _ _ _ _ (by decide)];exact a2)
 ·exact World.cell?_setCell_same _ _ _ (u:=at_ u ⟨b,3,none⟩) (by rw[o _ _ _ _ (by decide),o _ _ _ _ (by decide),o _ _ _ _ (by decide)];exact a3)
theorem Four.set4_four {u:World} {b:Nat} (h:Four u b) (x0 x1 x2 x3:Value):Four ((((u.setCell ⟨b,0,none⟩ x0).setCell ⟨b,1,none⟩ x1).setCell ⟨b,2,none⟩ x2).setCell ⟨b,3,none⟩ x3) b:=by
 obtain⟨h0,h1,h2,h3⟩:=h.set4 x0 x1 x2 x3
 obtain⟨⟨a0,f0⟩,⟨a1,f1⟩,⟨a2,f2⟩,⟨a3,f3⟩⟩:=h
 refine⟨⟨at_of h0,?_⟩,⟨at_of h1,?_⟩,⟨at_of h2,?_⟩,⟨at_of h3,?_⟩⟩<;>simp [*]
theorem Four4.far {u:World} {b b':Nat} {y0 y1 y2 y3:Value} (h:Four4 u b' y0 y1 y2 y3) (hne:b'≠b) (i:Nat) (x:Value):Four4 (u.setCell ⟨b,i,none⟩ x) b' y0 y1 y2 y3:=by
 obtain⟨a0,a1,a2,a3⟩:=h
 refine⟨?_,?_,?_,?_⟩<;>rw[World.cell?_setCell_far _ _ _ _ (fun e=>hne e.symm)]<;>assumption
theorem Rd.far {u:World} {B:Option Addr} {n size:Nat} {xs:List Value} (h:Rd u B n size xs) (b:Nat) (hne:0 < n→∀ p,B=some p→p.block≠b) (i:Nat) (x:Value):Rd (u.setCell ⟨b,i,none⟩ x) B n size xs :=
 ⟨h.1,fun hn=>by
  obtain⟨c,o,rfl,hlt,hc⟩:=h.2 hn
  refine⟨c,o,rfl,by simpa using hlt,fun j v hv=>?_⟩
  rw[World.cell?_setCell_far _ _ _ _ (fun e=>hne hn _ rfl e.symm)]
  exact hc j v hv⟩
theorem Rd.set4 {u:World} {B:Option Addr} {n size:Nat} {xs:List Value} (h:Rd u B n size xs) (b:Nat) (hne:0 < n→∀ p,B=some p→p.block≠b) (x0 x1 x2 x3:Value):Rd ((((u.setCell ⟨b,0,none⟩ x0).setCell ⟨b,1,none⟩ x1).setCell ⟨b,2,none⟩ x2).setCell ⟨b,3,none⟩ x3) B n size xs :=
 (((h.far b hne _ _).far b hne _ _).far b hne _ _).far b hne _ _
theorem Four.lt {u:World} {b:Nat} (h:Four u b):b < u.heap.size:=World.block_lt_of_cell? u _ h.1.1
theorem HeldR.set4 {w:World} {b b4:Nat} {x0 x1 x2 x3:Value} {A:Option Addr} {u:World} (h:HeldR w b b4 x0 x1 x2 x3 A u) (hb:w.heap.size≤b) (hne:b4≠b) (hA:∀ p,A=some p→p.block≠b) (ht:TabOk w) (y0 y1 y2 y3:Value) :
  HeldR w b b4 x0 x1 x2 x3 A ((((u.setCell ⟨b,0,none⟩ y0).setCell ⟨b,1,none⟩ y1).setCell ⟨b,2,none⟩ y2).setCell ⟨b,3,none⟩ y3):=by
 have hB:Below w.heap.size w ((((u.setCell ⟨b,0,none⟩ y0).setCell ⟨b,1,none⟩ y1).setCell ⟨b,2,none⟩ y2).setCell ⟨b,3,none⟩ y3) :=
  (((h.2.2.2.2.setCell (p:=⟨b,0,none⟩) hb _).setCell (p:=⟨b,1,none⟩) hb _).setCell (p:=⟨b,2,none⟩) hb _).setCell (p:=⟨b,3,none⟩) hb _
 have h4:Four4 u b4 x0 x1 x2 x3:=h.1
 exact⟨(((h4.far hne _ _).far hne _ _).far hne _ _).far hne _ _,h.2.1.set4_four _ _ _ _,ht.below hB,h.2.2.2.1.set4 b (fun _=>hA) _ _ _ _,hB⟩
end Go.Proofs.YtkempjcphpnocaaGreatDoor
namespace Go.Proofs.YtkempjcphpnocaaGreatDoor
open Go.RowKit
set_option maxHeartbeats 400000 in
theorem sameResponse_any (s1 m1 s2 m2:Int) (r1 r2:ByteArray) (A B:Option Addr) (n m c d:Nat) (xs ys:List FD) (w:World) (hn:n≤1099511627776) (hm:m≤1099511627776) (hx:Rd w A n 2 (fcells xs)) (hy:Rd w B m 2 (fcells ys)) (hxl:xs.length=n) (hyl:ys.length=m) :
  Calls Tryz.prog 51 #[.agg #[.int .i64 s1,.string r1,.int .i64 m1,.slice A n c],.agg #[.int .i64 s2,.string r2,.int .i64 m2,.slice B m d]] w (RetB w (decide (s1=s2)&&decide (r1=r2)&&decide (m1=m2)&&decide (xs=ys))):=by
 have HS:=Lib.hid (fun w' (hb:Below w.heap.size w w')=>sameFields_any A B n m c d xs ys w' hn hm (hx.below hb) (hy.below hb) hxl hyl)
 obtain⟨b4,hb4⟩:∃ b4,b4=decide (xs=ys):=⟨_,rfl⟩
 rw[← hb4]at HS ⊢
 clear hx hy hxl hyl hb4 hn hm
 rcases tf (decide (s1=s2)) with h1 | h1
 ·have e1:(s1==s2)=true:=by rw[of_decide_eq_true h1];simp
  rw[h1]
  clear h1
  rcases tf (decide (r1=r2)) with h2 | h2
  ·have e2:(r1.toList==r2.toList)=true:=by rw[beq_bytes,h2]
   rw[h2]
   clear h2
   rcases tf (decide (m1=m2)) with h3 | h3
   ·have e3:(m1==m2)=true:=by rw[of_decide_eq_true h3];simp
    rw[h3]
    clear h3
    go_enter Tryz.func51,Tryz.ntmps51
    go_wp2_with fail
    refine (HS.out _ (((Below.refl _ _).alloc (Nat.le_refl _) _).alloc (by rw[World.size_alloc];omega) _)).mono ?_
    rintro e w1 ⟨rfl,hb1⟩
    go_wp2
    go_ret
    exact⟨ret_bool (by simp),below_then (by simp;omega) (((Below.refl _ _).alloc (Nat.le_refl _) _).alloc (by rw[World.size_alloc];omega) _) hb1⟩
   ·have e3:(m1==m2)=false:=by simpa using of_decide_eq_false h3
    rw[h3]
    clear h3
    go_enter Tryz.func51,Tryz.ntmps51
    go_wp2
    go_ret
    exact⟨ret_bool (by simp),(((Below.refl _ _).alloc (Nat.le_refl _) _).alloc (by rw[World.size_alloc];omega) _)⟩
  ·have e2:(r1.toList==r2.toList)=false:=by rw[beq_bytes,h2]
   rw[h2]
   clear h2
   go_enter Tryz.func51,Tryz.ntmps51
   go_wp2
   go_ret
   exact⟨ret_bool (by simp),(((Below.refl _ _).alloc (Nat.le_refl _) _).alloc (by rw[World.size_alloc];omega) _)⟩
 ·have e1:(s1==s2)=false:=by simpa using of_decide_eq_false h1
  rw[h1]
  clear h1
  go_enter Tryz.func51,Tryz.ntmps51
  go_wp2
  go_ret
  exact⟨ret_bool (by simp),(((Below.refl _ _).alloc (Nat.le_refl _) _).alloc (by rw[World.size_alloc];omega) _)⟩
end Go.Proofs.YtkempjcphpnocaaGreatDoor
