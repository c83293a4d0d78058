/- What Get and Via compute; bounds by the bulk of the fields. What is stripped is stripped again as it is; a Via that was put is got. What is sent to an origin: its fields, and that they are clean. What head.PrintRequest, PrintResponse and fields.Print compute. What Bytes answers, in plain Lean. What head.Request and fields.Parse compute, as plain functions on lists of bytes. The walks of Reply, of the words of a status, of SameBytes and SameResponse. The walks of Reply. The walks of SameResponse, CopyResponse, SameRequest, CopyRequest, and of the law's alive. Conditions: as each theorem states them. -/
import Derived.Lib.ItoaLen
import Derived.Test.YthjeglnkgdpijaaGreatDoorZ21
set_option maxHeartbeats 400000
namespace Go.Proofs.YthjeglnkgdpijaaGreatDoor
open Go
namespace F
def sep:List UInt8:=[44,32]
def glue (vs:List ByteArray):List UInt8:=Lib.join (vs.map L) sep
def joined (fs:List FD) (name:ByteArray):ByteArray:=B (glue (values fs name))
def has (fs:List FD) (name:ByteArray):Bool:=!(values fs name).isEmpty
def via3:ByteArray:=⟨#[86,105,97]⟩
def viaOf (fs:List FD) (minor:Int) (name:ByteArray):ByteArray :=
 (if has fs via3 then joined fs via3++⟨#[44,32]⟩ else joined fs via3)++⟨#[49,46]⟩++B (Lib.itoa minor)++⟨#[32]⟩++name
end F
namespace F
def aQE:ByteArray:=⟨#[72,111,115,116]⟩
def aJG:ByteArray:=⟨#[69,120,112,101,99,116]⟩
def aQK:ByteArray:=⟨#[67,111,110,116,101,110,116,45,76,101,110,103,116,104]⟩
def three:List ByteArray:=[aQE,aJG,aQK]
def four:List ByteArray:=[⟨#[104,111,115,116]⟩,⟨#[101,120,112,101,99,116]⟩,⟨#[99,111,110,116,101,110,116,45,108,101,110,103,116,104]⟩,⟨#[118,105,97]⟩]
def hostOf (host:ByteArray) (port:Int):ByteArray:=if port=80 then host else host++(⟨#[58]⟩++B (Lib.itoa port))
def sent (fs:List FD) (m:Int) (via host:ByteArray) (port:Int):List FD :=
 put ((aQE,hostOf host port)::without (strip fs) three) via3 (viaOf fs m via)
def ten:List ByteArray:=[⟨#[67,111,110,110,101,99,116,105,111,110]⟩,⟨#[75,101,101,112,45,65,108,105,118,101]⟩,⟨#[80,114,111,120,121,45,67,111,110,110,101,99,116,105,111,110]⟩,⟨#[80,114,111,120,121,45,65,117,116,104,111,114,105,122,97,116,105,111,110]⟩,⟨#[84,69]⟩,⟨#[84,114,97,105,108,101,114]⟩,⟨#[84,114,97,110,115,102,101,114,45,69,110,99,111,100,105,110,103]⟩,⟨#[85,112,103,114,97,100,101]⟩,aQK,aJG]
end F
namespace F
def good (v:ByteArray):Bool:=(L v).all T.fQ&&decide (T.trim (L v)=L v)
def okF (f:FD):Bool:=T.token (L f.1)&&good f.2
def line (f:FD):List UInt8:=L f.1++[58,32]++L f.2++[13,10]
def lines (fs:List FD):List UInt8:=fs.flatMap line
def visB (c:UInt8):Bool:=decide (33≤c.toNat)&&decide (c.toNat≤126)
def visible (s:ByteArray):Bool:=(L s).all visB&&!(L s).isEmpty
def text (s:ByteArray):Bool:=(L s).all T.fQ
def dD (fs:List FD):Int:=if fs.all okF then (if 100 < fs.length then 42 else 0) else 40
def sH (fs:List FD):List UInt8:=if dD fs=0 then lines fs else []
def dK (l:List UInt8) (fs:List FD):Int:=if dD fs=0 then (if 8192 < l.length+(lines fs).length+4 then 51 else 0) else dD fs
def iC (l:List UInt8) (fs:List FD):List UInt8:=if dK l fs=0 then l++[13,10]++lines fs++[13,10] else []
def aZ (s:Int) (r:ByteArray) (n:Int):List UInt8:=[72,84,84,80,47,49,46]++Lib.itoa n++[32]++Lib.itoa s++[32]++L r
def fK (s:Int) (r:ByteArray) (n:Int) (fs:List FD):Int:=if n < 0∨1 < n∨text r=false then 50 else if s < 100∨599 < s then 53 else dK (aZ s r n) fs
def dS (s:Int) (r:ByteArray) (n:Int) (fs:List FD):List UInt8:=if fK s r n fs=0 then iC (aZ s r n) fs else []
theorem aF7 (fs:List FD) (k:Nat) (h:k < fs.length):lines (fs.take (k+1))=lines (fs.take k)++line fs[k]:=by
 unfold lines
 rw[bI h,List.flatMap_append]
 simp
theorem yP (f:FD):(line f).length=f.1.size+f.2.size+4:=by
 unfold line
 simp only[bC,List.length_cons,List.length_nil,aQ]
 omega
theorem tJ:∀ fs:List FD,(lines fs).length≤4 * bulk fs
 | []=>zA _
 | f::l=>by
  have:=tJ l
  have h:=yP f
  unfold lines at this ⊢
  rw[List.flatMap_cons,bC,h]
  simp only[bulk]
  omega
theorem aF6 (fs:List FD) (k:Nat):(lines (fs.take k)).length≤(lines fs).length:=by
 conv=>rhs;rw[← List.take_append_drop k fs]
 unfold lines
 rw[List.flatMap_append,bC]
 omega
theorem zT (p:FD→Bool) (fs:List FD) (k:Nat) (h:k < fs.length):(fs.take (k+1)).all p=((fs.take k).all p&&p fs[k]):=by
 rw[bI h,List.all_append]
 simp
theorem pO (p:FD→Bool) (fs:List FD) (k:Nat) (h:k < fs.length) (hp:p fs[k]=false):fs.all p=false:=by
 rw[List.all_eq_false]
 exact⟨_,List.getElem_mem h,by simp [hp]⟩
theorem wM {fs:List FD} (h:fs.all okF=false):dD fs=40:=by unfold dD;simp [h]
theorem sG {fs:List FD} (h:fs.all okF=true) (h2:100 < fs.length):dD fs=42:=by unfold dD;simp [h,h2]
theorem aA0 {fs:List FD} (h:fs.all okF=true) (h2:¬ 100 < fs.length):dD fs=0:=by unfold dD;simp [h,h2]
theorem aA2 {fs:List FD} (h:dD fs=0):sH fs=lines fs:=if_pos h
theorem nP {fs:List FD} (h:dD fs≠0):sH fs=[]:=if_neg h
theorem aA1 (fs:List FD):dD fs=0∨dD fs=40∨dD fs=42:=by
 unfold dD
 split<;>(try split)<;>simp
theorem aFD (l:List UInt8) (fs:List FD):(iC l fs).length≤8192:=by
 unfold iC
 split
 ·rename_i h
  unfold dK at h
  split at h
  ·split at h
   ·cases h
   ·simp only[bC,List.length_cons,List.length_nil];omega
  ·rename_i h2
   exact absurd h h2
 ·simp
end F
end Go.Proofs.YthjeglnkgdpijaaGreatDoor
namespace Go.Proofs.YthjeglnkgdpijaaGreatDoor
namespace F
def connN:ByteArray:=⟨#[67,111,110,110,101,99,116,105,111,110]⟩
def two:List ByteArray:=[connN,⟨#[84,114,97,110,115,102,101,114,45,69,110,99,111,100,105,110,103]⟩]
end F
theorem aAV (s:Int) (r:ByteArray) (m:Int) (fs:List FD):(F.dS s r m fs).length≤8192:=by
 unfold F.dS
 split
 ·exact F.aFD _ _
 ·simp
theorem aDX (l:List UInt8):(B l).size=l.length:=by
 show l.toArray.size=l.length
 simp
namespace P
open T (Bs)
def aE1:Bs:=[13,10]
def qC:Bs:=[13,10,13,10]
def eol (c:UInt8):Bool:=c==13||c==10
def upto (p:UInt8→Bool) (l:Bs):Bs:=l.takeWhile fun c=>!p c
def from_ (p:UInt8→Bool) (l:Bs):Bs:=l.dropWhile fun c=>!p c
theorem rF (p:UInt8→Bool) (l:Bs):upto p l++from_ p l=l:=List.takeWhile_append_dropWhile
theorem iP (p:UInt8→Bool) (l:Bs):(upto p l).length+(from_ p l).length=l.length:=by
 have:=congrArg List.length (rF p l)
 rwa [bC]at this
def nameOf (l:Bs):Bs:=upto (·==58) l
def valOf (l:Bs):Bs:=T.trim ((from_ (·==58) l).drop 1)
def aEG (l:Bs):Int:=if l.head?=some 32∨l.head?=some 9 then 41 else if from_ (·==58) l=[]∨T.token (nameOf l)=false∨F.good (B (valOf l))=false then 40 else 0
def uX (l:Bs):FD:=(B (nameOf l),B (valOf l))
theorem aA6 (l:Bs):(uX l).1.size+(uX l).2.size≤l.length:=by
 have h1:=iP (·==58) l
 have h2:=T.xU ((from_ (·==58) l).drop 1)
 unfold uX
 rw[aDX,aDX]
 unfold nameOf valOf
 rw[List.length_drop]at h2
 omega
def parse (out:List FD) (l:Bs):List FD × Int :=
 if l=[] then (out,0) else
 match _h:from_ eol l with
 | 13::10::r=>if aEG (upto eol l)≠0 then ([],aEG (upto eol l)) else if out.length=100 then ([],42) else parse (out++[uX (upto eol l)]) r
 | _=>([],40)
termination_by l.length
decreasing_by
 have h1:=iP eol l
 rw[_h]at h1
 simp only[List.length_cons]at h1
 omega
theorem aNU {p:UInt8→Bool} {l:Bs} {k:Nat} (hk:k≤l.length) (hall:∀ j (h:j < l.length),j < k→p l[j]=false) (hstop:∀ h:k < l.length,p l[k]=true):upto p l=l.take k∧from_ p l=l.drop k:=by
 induction l generalizing k with
 | nil=>simp [upto,from_]
 | cons x l ih =>
  cases k with
  | zero =>
   have hx:p x=true:=hstop (by simp)
   simp [upto,from_,hx]
  | succ k =>
   have hx:p x=false:=hall 0 (by simp) (by omega)
   have:=ih (k:=k) (by simpa using hk) (fun j h hj=>by have:=hall (j+1) (by simpa using h) (by omega);simpa using this) (fun h=>by have:=hstop (by simpa using h);simpa using this)
   unfold upto from_ at this ⊢
   simp [hx,this.1,this.2]
theorem aL2 {p:UInt8→Bool} {l:Bs}:from_ p l=[]↔∀ x∈l,p x=false:=by
 unfold from_
 induction l with
 | nil=>simp
 | cons x l ih =>
  cases hx:p x
  ·simp [hx,ih]
  ·simp [hx]
theorem parse_nil (out:List FD):parse out []=(out,0):=by
 rw[parse.eq_def,if_pos rfl]
theorem sS {l:Bs} (out:List FD) (h0:l≠[]) (h:∀ r,from_ eol l≠13::10::r):parse out l=([],40):=by
 rw[parse.eq_def,if_neg h0]
 split
 ·rename_i r hr
  exact absurd hr (h r)
 ·rfl
theorem nU {l r:Bs} (out:List FD) (h0:l≠[]) (h:from_ eol l=13::10::r):parse out l=if aEG (upto eol l)≠0 then ([],aEG (upto eol l)) else if out.length=100 then ([],42) else parse (out++[uX (upto eol l)]) r:=by
 rw[parse.eq_def,if_neg h0]
 split
 ·rename_i r' hr
  rw[h]at hr
  injection hr with _ hr
  injection hr with _ hr
  subst hr
  rfl
 ·rename_i hr
  exact absurd h (hr r)
theorem aC2 (l:Bs):l=[]∨(l≠[]∧∀ r,from_ eol l≠13::10::r)∨(l≠[]∧∃ r,from_ eol l=13::10::r):=by
 by_cases h0:l=[]
 ·exact .inl h0
 ·by_cases h:∃ r,from_ eol l=13::10::r
  ·exact .inr (.inr ⟨h0,h⟩)
  ·exact .inr (.inl ⟨h0,fun r hr=>h ⟨r,hr⟩⟩)
theorem kY:∀ (k:Nat) (out:List FD) (l:Bs),l.length≤k→out.length≤100→F.bulk (parse out l).1≤F.bulk out+l.length∧(parse out l).1.length≤100∧((parse out l).2≠0→(parse out l).1=[])
 | k,out,l,hk,ho=>by
  rcases aC2 l with h | ⟨h0,h⟩ | ⟨h0,r,h⟩
  ·subst h
   rw[parse_nil]
   exact⟨Nat.le_add_right _ _,ho,fun h=>absurd rfl h⟩
  ·rw[sS out h0 h]
   exact⟨zF _,zF _,fun _=>rfl⟩
  ·rw[nU out h0 h]
   have hl:=iP eol l
   rw[h]at hl
   simp only[List.length_cons]at hl
   split
   ·exact⟨zF _,zF _,fun _=>rfl⟩
   ·split
    ·exact⟨zF _,zF _,fun _=>rfl⟩
    ·rename_i h100
     cases k with
     | zero=>omega
     | succ k =>
      obtain⟨g1,g2,g3⟩:=kY k (out++[uX (upto eol l)]) r (by omega) (by rw[bC];simp only[List.length_cons,List.length_nil];omega)
      refine⟨?_,g2,g3⟩
      rw[F.uN]at g1
      simp only[F.bulk]at g1
      have:=aA6 (upto eol l)
      omega
def skip:Bs→Nat
 | 13::10::r=>skip r+2
 | _=>0
def hIdx (b:Bs) (s:Nat):Int:=Lib.index (b.drop s) qC
def hE (b:Bs) (s:Nat):Int:=if hIdx b s < 0 then (if b.length < 8192 then 0 else 51) else if 8192 < s+hIdx b s+4 then 51 else 0
def hN (b:Bs) (s:Nat):Int:=if hIdx b s < 0∨8192 < s+hIdx b s+4 then 0 else s+hIdx b s+4
def fZ (b:Bs) (s:Nat):Bs:=(b.drop s).take (hIdx b s+2).toNat
def oC (b:Bs) (s:Nat):Bs:=(fZ b s).take (Lib.index (fZ b s) aE1).toNat
def jI (b:Bs) (s:Nat):Bs:=(fZ b s).drop ((Lib.index (fZ b s) aE1).toNat+2)
def dig (c:UInt8):Bool:=decide (48≤c.toNat)&&decide (c.toNat≤57)
def aBM:Bs:=[72,84,84,80,47,49,46,48]
def aBL:Bs:=[72,84,84,80,47,49,46,49]
def dO (l:Bs):Bool:=decide (l.length=8)&&decide (l.take 5=[72,84,84,80,47])&&dig (l.getD 5 0)&&decide (l.getD 6 0=46)&&dig (l.getD 7 0)
def rE (l:Bs):Int:=if dO l=false then 50 else if l=aBM∨l=aBL then 0 else 52
def aCF (l:Bs):Int:=if l=aBL then 1 else 0
structure RQ where
 m:ByteArray
 t:ByteArray
 v:Int
 fs:List FD
 n:Int
 e:Int
def RQ.bad (e:Int):RQ:=⟨⟨#[]⟩,⟨#[]⟩,0,[],0,e⟩
def sp (c:UInt8):Bool:=c==32
def methodOf (l:Bs):Bs:=upto sp l
def behind (l:Bs):Bs:=(from_ sp l).drop 1
def aI2 (fs:List FD):Int:=(F.values fs ⟨#[72,111,115,116]⟩).length
def reqOf (line block:Bs) (n:Int):RQ :=
 if T.token (methodOf line)=false∨F.visible (B (methodOf (behind line)))=false then .bad 50
 else if rE (behind (behind line))≠0 then .bad (rE (behind (behind line)))
 else if (parse [] block).2≠0 then .bad (parse [] block).2
 else if aI2 (parse [] block).1 > 1∨aI2 (parse [] block).1 < aCF (behind (behind line)) then .bad 40
 else ⟨B (methodOf line),B (methodOf (behind line)),aCF (behind (behind line)),(parse [] block).1,n,0⟩
def request (b:Bs):RQ:=if hE b (skip b)≠0∨hN b (skip b)=0 then .bad (hE b (skip b)) else reqOf (oC b (skip b)) (jI b (skip b)) (hN b (skip b))
end P
open Go.RowKit
theorem yE (A B:Option Addr) (n m c d:Nat) (xs ys:List UInt8) (w:World) (hn:n≤1099511627776) (hm:m≤1099511627776) (hx:Rd w A n 1 (aB xs)) (hy:Rd w B m 1 (aB ys)) (hxl:xs.length=n) (hyl:ys.length=m) :
  Calls Tryz.prog 42 #[.slice A n c,.slice B m d] w (pR w (decide (xs=ys))):=by
 have HX:=aH hxl
 have HY:=aH hyl
 clear hxl hyl
 by_cases hnm:n=m
 ·subst hnm
  go_enter Tryz.func42,Tryz.ntmps42
  go_wp2
  go_loopw [5] (fun i wr=>∃ k:Nat,k≤n∧i=.int .i64 k∧xs.take k=ys.take k∧∃ q,wr=w.drewN q) (fun i _=>n - (intOf i).toNat)
  case atStart=>exact⟨0,zF _,rfl,rfl,0,rfl⟩
  case round =>
   obtain⟨k,hk,rfl,he,q,rfl⟩:=hrel
   have HE:=aH he;clear he
   by_cases hlt:k < n
   ·obtain⟨b1,o1,rfl,hl1,c1⟩:=hx.byte hlt HX.out
    obtain⟨b2,o2,rfl,hl2,d1⟩:=hy.byte hlt HY.out
    have hsnoc:∀ h:xs[k]'(by have:=HX.out;omega)=ys[k]'(by have:=HY.out;omega),xs.take (k+1)=ys.take (k+1):=fun h=>oV _ _ HE.out h
    have hne:∀ h:¬ xs[k]'(by have:=HX.out;omega)=ys[k]'(by have:=HY.out;omega),¬ xs=ys:=fun h e=>h (by subst e;rfl)
    obtain⟨x,hx1⟩:∃ x,x=xs[k]'(by have:=HX.out;omega):=⟨_,rfl⟩
    obtain⟨y,hy1⟩:∃ y,y=ys[k]'(by have:=HY.out;omega):=⟨_,rfl⟩
    rw[← hx1]at c1 hsnoc hne
    rw[← hy1]at d1 hsnoc hne
    have HS:=aH hsnoc
    have HN:=aH hne
    clear hx1 hy1 hsnoc hne
    by_cases hd:x=y
    ·have hb:((x.toNat:Int) != (y.toNat:Int))=false:=by rw[hd];simp
     have hyes:=HS.out hd
     have HYS:=aH hyes
     clear hyes hd
     go_wp2
     go_region
     go_wp2
     go_roundw
     case rel=>exact⟨k+1,by omega,by go_num,HYS.out,_,rfl⟩
     case measure=>simp [intOf];omega
    ·have hb:((x.toNat:Int) != (y.toNat:Int))=true:=by
      rw[bne_iff_ne];intro e;exact hd (UInt8.toNat_inj.1 (by omega))
     have hno:=decide_eq_false (HN.out hd)
     have HNO:=aH hno
     clear hno hd
     go_wp2
     go_region
     go_wp2
     go_ret
     exact⟨aP HNO.out.symm,below_drewN (zB _ _) _⟩
   ·have hfin:xs=ys:=by
     have:=HE.out
     have h1:=HX.out
     have h2:=HY.out
     rw[List.take_of_length_le (by omega),List.take_of_length_le (by omega)]at this
     exact this
    have HF:=aH hfin
    clear hfin
    go_wp2
    go_ret
    exact⟨aP (by rw[decide_eq_true HF.out]),below_drewN (zB _ _) _⟩
 ·have h1:((n:Int)==(m:Int))=false:=by simp;omega
  have h2:((n:Int) != (m:Int))=true:=by simp;omega
  go_enter Tryz.func42,Tryz.ntmps42
  go_wp2
  go_ret
  exact⟨aP (by have:=HX.out;have:=HY.out;symm;apply decide_eq_false;rintro rfl;omega),zB _ _⟩
def words:List (Int × ByteArray):=[(400,⟨#[66,97,100,32,82,101,113,117,101,115,116]⟩),(403,⟨#[70,111,114,98,105,100,100,101,110]⟩),(404,⟨#[78,111,116,32,70,111,117,110,100]⟩),(413,⟨#[67,111,110,116,101,110,116,32,84,111,111,32,76,97,114,103,101]⟩),(431,⟨#[82,101,113,117,101,115,116,32,72,101,97,100,101,114,32,70,105,101,108,100,115,32,84,111,111,32,76,97,114,103,101]⟩),(501,⟨#[78,111,116,32,73,109,112,108,101,109,101,110,116,101,100]⟩),(502,⟨#[66,97,100,32,71,97,116,101,119,97,121]⟩),(504,⟨#[71,97,116,101,119,97,121,32,84,105,109,101,111,117,116]⟩),(505,⟨#[72,84,84,80,32,86,101,114,115,105,111,110,32,78,111,116,32,83,117,112,112,111,114,116,101,100]⟩)]
def aM6 (s:Int):List (Int × ByteArray)→ByteArray
 | []=>⟨#[69,114,114,111,114]⟩
 | x::l=>if x.1=s then x.2 else aM6 s l
def word (s:Int):ByteArray:=aM6 s words
def aP3:FD:=(⟨#[67,111,110,116,101,110,116,45,84,121,112,101]⟩,⟨#[116,101,120,116,47,112,108,97,105,110]⟩)
def said (s:Int):ByteArray:=B (Lib.itoa s)++⟨#[32]⟩++word s++⟨#[10]⟩
def at_ (w:World) (p:Addr):Value:=(w.cell? p).getD undef
theorem iH {w:World} {p:Addr} {v:Value} (h:w.cell? p=some v):w.cell? p=some (at_ w p):=by
 unfold at_;rw[h];rfl
theorem aON {w w1:World} {cs:Array Value} {t:TypeId} (hb:Below (w.alloc (.cells cs t)).heap.size (w.alloc (.cells cs t)) w1) (i:Nat):w1.frozen? ⟨w.heap.size,i,none⟩=false:=by
 rw[hb.frozen (p:=⟨w.heap.size,i,none⟩) (by simp)]
 unfold World.frozen?;rw[heap_alloc_new];simp
def Four (w:World) (b:Nat):Prop:=(w.cell? ⟨b,0,none⟩=some (at_ w ⟨b,0,none⟩)∧w.frozen? ⟨b,0,none⟩=false)∧(w.cell? ⟨b,1,none⟩=some (at_ w ⟨b,1,none⟩)∧w.frozen? ⟨b,1,none⟩=false)∧(w.cell? ⟨b,2,none⟩=some (at_ w ⟨b,2,none⟩)∧w.frozen? ⟨b,2,none⟩=false)∧(w.cell? ⟨b,3,none⟩=some (at_ w ⟨b,3,none⟩)∧w.frozen? ⟨b,3,none⟩=false)
def nH (w:World) (b:Nat) (x0 x1 x2 x3:Value):Prop:=w.cell? ⟨b,0,none⟩=some x0∧w.cell? ⟨b,1,none⟩=some x1∧w.cell? ⟨b,2,none⟩=some x2∧w.cell? ⟨b,3,none⟩=some x3
theorem Four.below {w w1:World} {b:Nat} (h:Four w b) (hb:Below w.heap.size w w1):Four w1 b:=by
 obtain⟨⟨a0,f0⟩,⟨a1,f1⟩,⟨a2,f2⟩,⟨a3,f3⟩⟩:=h
 have lt:=World.block_lt_of_cell? w _ a0
 exact⟨⟨iH ((hb.cell (p:=⟨b,0,none⟩) lt).trans a0),(hb.frozen (p:=⟨b,0,none⟩) lt).trans f0⟩,⟨iH ((hb.cell (p:=⟨b,1,none⟩) lt).trans a1),(hb.frozen (p:=⟨b,1,none⟩) lt).trans f1⟩,⟨iH ((hb.cell (p:=⟨b,2,none⟩) lt).trans a2),(hb.frozen (p:=⟨b,2,none⟩) lt).trans f2⟩,⟨iH ((hb.cell (p:=⟨b,3,none⟩) lt).trans a3),(hb.frozen (p:=⟨b,3,none⟩) lt).trans f3⟩⟩
theorem nH.below {w w1:World} {b:Nat} {x0 x1 x2 x3:Value} (h:nH w b x0 x1 x2 x3) (hb:Below w.heap.size w w1):nH w1 b x0 x1 x2 x3:=by
 obtain⟨a0,a1,a2,a3⟩:=h
 have lt:=World.block_lt_of_cell? w _ a0
 exact⟨(hb.cell (p:=⟨b,0,none⟩) lt).trans a0,(hb.cell (p:=⟨b,1,none⟩) lt).trans a1,(hb.cell (p:=⟨b,2,none⟩) lt).trans a2,(hb.cell (p:=⟨b,3,none⟩) lt).trans a3⟩
theorem nH.four {w:World} {b:Nat} {x0 x1 x2 x3:Value} (h:nH w b x0 x1 x2 x3) (h0:∀ i,w.frozen? ⟨b,i,none⟩=false):Four w b :=
 ⟨⟨iH h.1,h0 0⟩,⟨iH h.2.1,h0 1⟩,⟨iH h.2.2.1,h0 2⟩,⟨iH h.2.2.2,h0 3⟩⟩
theorem aIG {w:World} (x0 x1 x2 x3:Value) (t:TypeId):nH (w.alloc (.cells #[x0,x1,x2,x3] t)) w.heap.size x0 x1 x2 x3:=by
 refine⟨?_,?_,?_,?_⟩<;>simp
theorem aBA {w:World} (cs:Array Value) (t:TypeId) (i:Nat):(w.alloc (.cells cs t)).frozen? ⟨w.heap.size,i,none⟩=false:=by
 unfold World.frozen?;rw[heap_alloc_new];simp
def zX (w:World) (b b4:Nat) (x0 x1 x2 x3:Value) (A:Option Addr) (w':World):Prop :=
 nH w' b4 x0 x1 x2 x3∧Four w' b∧(iJ w'∧Rd w' A 1 2 (aI [aP3])∧Below w.heap.size w w')
theorem zX.below {w:World} {b b4:Nat} {x0 x1 x2 x3:Value} {A:Option Addr} {u v:World} (h:zX w b b4 x0 x1 x2 x3 A u) (hb:Below u.heap.size u v):zX w b b4 x0 x1 x2 x3 A v :=
 ⟨nH.below h.1 hb,Four.below h.2.1 hb,h.2.2.1.below hb,h.2.2.2.1.below hb,aA h.2.2.2.2.size h.2.2.2.2 hb⟩
theorem zX.drew {w:World} {b b4:Nat} {x0 x1 x2 x3:Value} {A:Option Addr} {u:World} (h:zX w b b4 x0 x1 x2 x3 A u):zX w b b4 x0 x1 x2 x3 A u.drew:=h.below (zB _ _).drew
theorem Four.set4 {u:World} {b:Nat} (h:Four u b) (x0 x1 x2 x3:Value):nH ((((u.setCell ⟨b,0,none⟩ x0).setCell ⟨b,1,none⟩ x1).setCell ⟨b,2,none⟩ x2).setCell ⟨b,3,none⟩ x3) b x0 x1 x2 x3:=by
 obtain⟨⟨a0,f0⟩,⟨a1,f1⟩,⟨a2,f2⟩,⟨a3,f3⟩⟩:=h
 have o:∀ (w:World) (i j:Nat) (v:Value),i≠j→(w.setCell ⟨b,i,none⟩ v).cell? ⟨b,j,none⟩=w.cell? ⟨b,j,none⟩:=fun w i j v h=>World.cell?_setCell_other _ _ _ _ (fun e=>h (by injection e))
 refine⟨?_,?_,?_,?_⟩
 ·rw[o _ _ _ _ (by decide),o _ _ _ _ (by decide),o _ _ _ _ (by decide)]
  exact World.cell?_setCell_same _ _ _ a0
 ·rw[o _ _ _ _ (by decide),o _ _ _ _ (by decide)]
  exact World.cell?_setCell_same _ _ _ (u:=at_ u ⟨b,1,none⟩) (by rw[o _ _ _ _ (by decide)];exact a1)
 ·rw[o _ _ _ _ (by decide)]
  exact World.cell?_setCell_same _ _ _ (u:=at_ u ⟨b,2,none⟩) (by rw[o _ _ _ _ (by decide),o _ _ _ _ (by decide)];exact a2)
 ·exact World.cell?_setCell_same _ _ _ (u:=at_ u ⟨b,3,none⟩) (by rw[o _ _ _ _ (by decide),o _ _ _ _ (by decide),o _ _ _ _ (by decide)];exact a3)
theorem Four.set4_four {u:World} {b:Nat} (h:Four u b) (x0 x1 x2 x3:Value):Four ((((u.setCell ⟨b,0,none⟩ x0).setCell ⟨b,1,none⟩ x1).setCell ⟨b,2,none⟩ x2).setCell ⟨b,3,none⟩ x3) b:=by
 obtain⟨h0,h1,h2,h3⟩:=h.set4 x0 x1 x2 x3
 obtain⟨⟨a0,f0⟩,⟨a1,f1⟩,⟨a2,f2⟩,⟨a3,f3⟩⟩:=h
 refine⟨⟨iH h0,?_⟩,⟨iH h1,?_⟩,⟨iH h2,?_⟩,⟨iH h3,?_⟩⟩<;>simp [*]
theorem nH.far {u:World} {b b':Nat} {y0 y1 y2 y3:Value} (h:nH u b' y0 y1 y2 y3) (hne:b'≠b) (i:Nat) (x:Value):nH (u.setCell ⟨b,i,none⟩ x) b' y0 y1 y2 y3:=by
 obtain⟨a0,a1,a2,a3⟩:=h
 refine⟨?_,?_,?_,?_⟩<;>rw[World.cell?_setCell_far _ _ _ _ (fun e=>hne e.symm)]<;>assumption
theorem Rd.far {u:World} {B:Option Addr} {n size:Nat} {xs:List Value} (h:Rd u B n size xs) (b:Nat) (hne:0 < n→∀ p,B=some p→p.block≠b) (i:Nat) (x:Value):Rd (u.setCell ⟨b,i,none⟩ x) B n size xs :=
 ⟨h.1,fun hn=>by
  obtain⟨c,o,rfl,hlt,hc⟩:=h.2 hn
  refine⟨c,o,rfl,by simpa using hlt,fun j v hv=>?_⟩
  rw[World.cell?_setCell_far _ _ _ _ (fun e=>hne hn _ rfl e.symm)]
  exact hc j v hv⟩
theorem Rd.set4 {u:World} {B:Option Addr} {n size:Nat} {xs:List Value} (h:Rd u B n size xs) (b:Nat) (hne:0 < n→∀ p,B=some p→p.block≠b) (x0 x1 x2 x3:Value):Rd ((((u.setCell ⟨b,0,none⟩ x0).setCell ⟨b,1,none⟩ x1).setCell ⟨b,2,none⟩ x2).setCell ⟨b,3,none⟩ x3) B n size xs :=
 (((h.far b hne _ _).far b hne _ _).far b hne _ _).far b hne _ _
theorem Four.lt {u:World} {b:Nat} (h:Four u b):b < u.heap.size:=World.block_lt_of_cell? u _ h.1.1
theorem zX.set4 {w:World} {b b4:Nat} {x0 x1 x2 x3:Value} {A:Option Addr} {u:World} (h:zX w b b4 x0 x1 x2 x3 A u) (hb:w.heap.size≤b) (hne:b4≠b) (hA:∀ p,A=some p→p.block≠b) (ht:iJ w) (y0 y1 y2 y3:Value) :
  zX w b b4 x0 x1 x2 x3 A ((((u.setCell ⟨b,0,none⟩ y0).setCell ⟨b,1,none⟩ y1).setCell ⟨b,2,none⟩ y2).setCell ⟨b,3,none⟩ y3):=by
 have hB:Below w.heap.size w ((((u.setCell ⟨b,0,none⟩ y0).setCell ⟨b,1,none⟩ y1).setCell ⟨b,2,none⟩ y2).setCell ⟨b,3,none⟩ y3) :=
  (((h.2.2.2.2.setCell (p:=⟨b,0,none⟩) hb _).setCell (p:=⟨b,1,none⟩) hb _).setCell (p:=⟨b,2,none⟩) hb _).setCell (p:=⟨b,3,none⟩) hb _
 have h4:nH u b4 x0 x1 x2 x3:=h.1
 exact⟨(((h4.far hne _ _).far hne _ _).far hne _ _).far hne _ _,h.2.1.set4_four _ _ _ _,ht.below hB,h.2.2.2.1.set4 b (fun _=>hA) _ _ _ _,hB⟩
theorem pY (s1 m1 s2 m2:Int) (r1 r2:ByteArray) (A B:Option Addr) (n m c d:Nat) (xs ys:List FD) (w:World) (hn:n≤1099511627776) (hm:m≤1099511627776) (hx:Rd w A n 2 (aI xs)) (hy:Rd w B m 2 (aI ys)) (hxl:xs.length=n) (hyl:ys.length=m) :
  Calls Tryz.prog 41 #[.agg #[.int .i64 s1,.string r1,.int .i64 m1,.slice A n c],.agg #[.int .i64 s2,.string r2,.int .i64 m2,.slice B m d]] w (pR w (decide (s1=s2)&&decide (r1=r2)&&decide (m1=m2)&&decide (xs=ys))):=by
 have HS:=aH (fun w' (hb:Below w.heap.size w w')=>vC A B n m c d xs ys w' hn hm (hx.below hb) (hy.below hb) hxl hyl)
 obtain⟨b4,hb4⟩:∃ b4,b4=decide (xs=ys):=⟨_,rfl⟩
 rw[← hb4]at HS ⊢
 clear hx hy hxl hyl hb4 hn hm
 rcases tf (decide (s1=s2)) with h1 | h1
 ·have e1:(s1==s2)=true:=by rw[of_decide_eq_true h1];simp
  rw[h1]
  clear h1
  rcases tf (decide (r1=r2)) with h2 | h2
  ·have e2:(r1.toList==r2.toList)=true:=by rw[eF,h2]
   rw[h2]
   clear h2
   rcases tf (decide (m1=m2)) with h3 | h3
   ·have e3:(m1==m2)=true:=by rw[of_decide_eq_true h3];simp
    rw[h3]
    clear h3
    go_enter Tryz.func41,Tryz.ntmps41
    go_wp2_with fail
    refine (HS.out _ (((zB _ _).alloc (zA _) _).alloc (by rw[bJ];omega) _)).mono ?_
    rintro e w1 ⟨rfl,hb1⟩
    go_wp2
    go_ret
    exact⟨aP (by simp),aA (by simp;omega) (((zB _ _).alloc (zA _) _).alloc (by rw[bJ];omega) _) hb1⟩
   ·have e3:(m1==m2)=false:=by simpa using of_decide_eq_false h3
    rw[h3]
    clear h3
    go_enter Tryz.func41,Tryz.ntmps41
    go_wp2
    go_ret
    exact⟨aP (by simp),(((zB _ _).alloc (zA _) _).alloc (by rw[bJ];omega) _)⟩
  ·have e2:(r1.toList==r2.toList)=false:=by rw[eF,h2]
   rw[h2]
   clear h2
   go_enter Tryz.func41,Tryz.ntmps41
   go_wp2
   go_ret
   exact⟨aP (by simp),(((zB _ _).alloc (zA _) _).alloc (by rw[bJ];omega) _)⟩
 ·have e1:(s1==s2)=false:=by simpa using of_decide_eq_false h1
  rw[h1]
  clear h1
  go_enter Tryz.func41,Tryz.ntmps41
  go_wp2
  go_ret
  exact⟨aP (by simp),(((zB _ _).alloc (zA _) _).alloc (by rw[bJ];omega) _)⟩
end Go.Proofs.YthjeglnkgdpijaaGreatDoor
