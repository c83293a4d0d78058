/- What Get and Via compute; bounds by the bulk of the fields. No program here. What is stripped is stripped again as it is; a Via that was put is got. No program here. What is sent to an origin: its fields, and that they are clean. No program here. What head.PrintRequest, PrintResponse and fields.Print compute. No program here. What Bytes answers, in plain Lean. What head.Request and fields.Parse compute, as plain functions on lists of bytes. No program here. The walks of tok.tokenByte, Token, head.visible, fields.good and of their twins in the document. Condition: texts of at most 2^40 bytes. The walks of the document's Byte, Token, Text, Value and visible, and of fields.good. Condition: texts of at most 2^40 bytes. -/
import Derived.Lib.Join
import Derived.Lib.ItoaNum
import Derived.Lib.ItoaLen
import Derived.Lib.IndexMore
import Derived.Test.YthjeglnkgdpijaaGreatDoorZ28
set_option maxHeartbeats 1000000
namespace Go.Proofs.YthjeglnkgdpijaaGreatDoor
open Go
namespace F
def sep:List UInt8:=[44,32]
def glue (vs:List ByteArray):List UInt8:=Lib.join (vs.map L) sep
def joined (fs:List FD) (name:ByteArray):ByteArray:=B (glue (values fs name))
def has (fs:List FD) (name:ByteArray):Bool:=!(values fs name).isEmpty
def via3:ByteArray:=⟨#[86,105,97]⟩
def viaOf (fs:List FD) (minor:Int) (name:ByteArray):ByteArray :=
 (if has fs via3 then joined fs via3++⟨#[44,32]⟩ else joined fs via3)++⟨#[49,46]⟩++B (Lib.itoa minor)++⟨#[32]⟩++name
end F
namespace F
def hostN:ByteArray:=⟨#[72,111,115,116]⟩
def expectN:ByteArray:=⟨#[69,120,112,101,99,116]⟩
def clenN:ByteArray:=⟨#[67,111,110,116,101,110,116,45,76,101,110,103,116,104]⟩
def three:List ByteArray:=[hostN,expectN,clenN]
def four:List ByteArray:=[⟨#[104,111,115,116]⟩,⟨#[101,120,112,101,99,116]⟩,⟨#[99,111,110,116,101,110,116,45,108,101,110,103,116,104]⟩,⟨#[118,105,97]⟩]
def hostOf (host:ByteArray) (port:Int):ByteArray:=if port=80 then host else host++(⟨#[58]⟩++B (Lib.itoa port))
def sent (fs:List FD) (m:Int) (via host:ByteArray) (port:Int):List FD :=
 put ((hostN,hostOf host port)::without (strip fs) three) via3 (viaOf fs m via)
def ten:List ByteArray:=[⟨#[67,111,110,110,101,99,116,105,111,110]⟩,⟨#[75,101,101,112,45,65,108,105,118,101]⟩,⟨#[80,114,111,120,121,45,67,111,110,110,101,99,116,105,111,110]⟩,⟨#[80,114,111,120,121,45,65,117,116,104,111,114,105,122,97,116,105,111,110]⟩,⟨#[84,69]⟩,⟨#[84,114,97,105,108,101,114]⟩,⟨#[84,114,97,110,115,102,101,114,45,69,110,99,111,100,105,110,103]⟩,⟨#[85,112,103,114,97,100,101]⟩,clenN,expectN]
end F
namespace F
def good (v:ByteArray):Bool:=(L v).all T.textB&&decide (T.trim (L v)=L v)
def okF (f:FD):Bool:=T.token (L f.1)&&good f.2
def line (f:FD):List UInt8:=L f.1++[58,32]++L f.2++[13,10]
def lines (fs:List FD):List UInt8:=fs.flatMap line
def visB (c:UInt8):Bool:=decide (33≤c.toNat)&&decide (c.toNat≤126)
def visible (s:ByteArray):Bool:=(L s).all visB&&!(L s).isEmpty
def text (s:ByteArray):Bool:=(L s).all T.textB
def printE (fs:List FD):Int:=if fs.all okF then (if 100 < fs.length then 42 else 0) else 40
def printB (fs:List FD):List UInt8:=if printE fs=0 then lines fs else []
def wholeE (l:List UInt8) (fs:List FD):Int:=if printE fs=0 then (if 8192 < l.length+(lines fs).length+4 then 51 else 0) else printE fs
def wholeB (l:List UInt8) (fs:List FD):List UInt8:=if wholeE l fs=0 then l++[13,10]++lines fs++[13,10] else []
def respLine (s:Int) (r:ByteArray) (n:Int):List UInt8:=[72,84,84,80,47,49,46]++Lib.itoa n++[32]++Lib.itoa s++[32]++L r
def respE (s:Int) (r:ByteArray) (n:Int) (fs:List FD):Int:=if n < 0∨1 < n∨text r=false then 50 else if s < 100∨599 < s then 53 else wholeE (respLine s r n) fs
def respB (s:Int) (r:ByteArray) (n:Int) (fs:List FD):List UInt8:=if respE s r n fs=0 then wholeB (respLine s r n) fs else []
theorem lines_snoc (fs:List FD) (k:Nat) (h:k < fs.length):lines (fs.take (k+1))=lines (fs.take k)++line fs[k]:=by
 unfold lines
 rw[List.take_succ_eq_append_getElem h,List.flatMap_append]
 simp
theorem line_len (f:FD):(line f).length=f.1.size+f.2.size+4:=by
 unfold line
 simp only[List.length_append,List.length_cons,List.length_nil,L_size]
 omega
theorem lines_len:∀ fs:List FD,(lines fs).length≤4 * bulk fs
 | []=>Nat.le_refl _
 | f::l=>by
  have:=lines_len l
  have h:=line_len f
  unfold lines at this ⊢
  rw[List.flatMap_cons,List.length_append,h]
  simp only[bulk]
  omega
theorem lines_take (fs:List FD) (k:Nat):(lines (fs.take k)).length≤(lines fs).length:=by
 conv=>rhs;rw[← List.take_append_drop k fs]
 unfold lines
 rw[List.flatMap_append,List.length_append]
 omega
theorem all_take_succ (p:FD→Bool) (fs:List FD) (k:Nat) (h:k < fs.length):(fs.take (k+1)).all p=((fs.take k).all p&&p fs[k]):=by
 rw[List.take_succ_eq_append_getElem h,List.all_append]
 simp
theorem all_false_at (p:FD→Bool) (fs:List FD) (k:Nat) (h:k < fs.length) (hp:p fs[k]=false):fs.all p=false:=by
 rw[List.all_eq_false]
 exact⟨_,List.getElem_mem h,by simp [hp]⟩
theorem printE_bad {fs:List FD} (h:fs.all okF=false):printE fs=40:=by unfold printE;simp [h]
theorem printE_many {fs:List FD} (h:fs.all okF=true) (h2:100 < fs.length):printE fs=42:=by unfold printE;simp [h,h2]
theorem printE_ok {fs:List FD} (h:fs.all okF=true) (h2:¬ 100 < fs.length):printE fs=0:=by unfold printE;simp [h,h2]
theorem printB_ok {fs:List FD} (h:printE fs=0):printB fs=lines fs:=if_pos h
theorem printB_bad {fs:List FD} (h:printE fs≠0):printB fs=[]:=if_neg h
theorem printE_cases (fs:List FD):printE fs=0∨printE fs=40∨printE fs=42:=by
 unfold printE
 split<;>(try split)<;>simp
theorem wholeB_len (l:List UInt8) (fs:List FD):(wholeB l fs).length≤8192:=by
 unfold wholeB
 split
 ·rename_i h
  unfold wholeE at h
  split at h
  ·split at h
   ·cases h
   ·simp only[List.length_append,List.length_cons,List.length_nil];omega
  ·rename_i h2
   exact absurd h h2
 ·simp
end F
end Go.Proofs.YthjeglnkgdpijaaGreatDoor
namespace Go.Proofs.YthjeglnkgdpijaaGreatDoor
namespace F
def connN:ByteArray:=⟨#[67,111,110,110,101,99,116,105,111,110]⟩
def two:List ByteArray:=[connN,⟨#[84,114,97,110,115,102,101,114,45,69,110,99,111,100,105,110,103]⟩]
end F
theorem respB_len (s:Int) (r:ByteArray) (m:Int) (fs:List FD):(F.respB s r m fs).length≤8192:=by
 unfold F.respB
 split
 ·exact F.wholeB_len _ _
 ·simp
theorem B_size' (l:List UInt8):(B l).size=l.length:=by
 show l.toArray.size=l.length
 simp
namespace P
open T (Bs)
def crlf:Bs:=[13,10]
def crlf2:Bs:=[13,10,13,10]
def eol (c:UInt8):Bool:=c==13||c==10
def upto (p:UInt8→Bool) (l:Bs):Bs:=l.takeWhile fun c=>!p c
def from_ (p:UInt8→Bool) (l:Bs):Bs:=l.dropWhile fun c=>!p c
theorem upto_from (p:UInt8→Bool) (l:Bs):upto p l++from_ p l=l:=List.takeWhile_append_dropWhile
theorem upto_len (p:UInt8→Bool) (l:Bs):(upto p l).length+(from_ p l).length=l.length:=by
 have:=congrArg List.length (upto_from p l)
 rwa [List.length_append]at this
def nameOf (l:Bs):Bs:=upto (·==58) l
def valOf (l:Bs):Bs:=T.trim ((from_ (·==58) l).drop 1)
def oneE (l:Bs):Int:=if l.head?=some 32∨l.head?=some 9 then 41 else if from_ (·==58) l=[]∨T.token (nameOf l)=false∨F.good (B (valOf l))=false then 40 else 0
def oneF (l:Bs):FD:=(B (nameOf l),B (valOf l))
theorem one_small (l:Bs):(oneF l).1.size+(oneF l).2.size≤l.length:=by
 have h1:=upto_len (·==58) l
 have h2:=T.trim_len ((from_ (·==58) l).drop 1)
 unfold oneF
 rw[B_size',B_size']
 unfold nameOf valOf
 rw[List.length_drop]at h2
 omega
def parse (out:List FD) (l:Bs):List FD × Int :=
 if l=[] then (out,0) else
 match _h:from_ eol l with
 | 13::10::r=>if oneE (upto eol l)≠0 then ([],oneE (upto eol l)) else if out.length=100 then ([],42) else parse (out++[oneF (upto eol l)]) r
 | _=>([],40)
termination_by l.length
decreasing_by
 have h1:=upto_len eol l
 rw[_h]at h1
 simp only[List.length_cons]at h1
 omega
theorem upto_eq {p:UInt8→Bool} {l:Bs} {k:Nat} (hk:k≤l.length) (hall:∀ j (h:j < l.length),j < k→p l[j]=false) (hstop:∀ h:k < l.length,p l[k]=true):upto p l=l.take k∧from_ p l=l.drop k:=by
 induction l generalizing k with
 | nil=>simp [upto,from_]
 | cons x l ih =>
  cases k with
  | zero =>
   have hx:p x=true:=hstop (by simp)
   simp [upto,from_,hx]
  | succ k =>
   have hx:p x=false:=hall 0 (by simp) (by omega)
   have:=ih (k:=k) (by simpa using hk) (fun j h hj=>by have:=hall (j+1) (by simpa using h) (by omega);simpa using this) (fun h=>by have:=hstop (by simpa using h);simpa using this)
   unfold upto from_ at this ⊢
   simp [hx,this.1,this.2]
theorem from_nil {p:UInt8→Bool} {l:Bs}:from_ p l=[]↔∀ x∈l,p x=false:=by
 unfold from_
 induction l with
 | nil=>simp
 | cons x l ih =>
  cases hx:p x
  ·simp [hx,ih]
  ·simp [hx]
theorem parse_nil (out:List FD):parse out []=(out,0):=by
 rw[parse.eq_def,if_pos rfl]
theorem parse_bad {l:Bs} (out:List FD) (h0:l≠[]) (h:∀ r,from_ eol l≠13::10::r):parse out l=([],40):=by
 rw[parse.eq_def,if_neg h0]
 split
 ·rename_i r hr
  exact absurd hr (h r)
 ·rfl
theorem parse_step {l r:Bs} (out:List FD) (h0:l≠[]) (h:from_ eol l=13::10::r):parse out l=if oneE (upto eol l)≠0 then ([],oneE (upto eol l)) else if out.length=100 then ([],42) else parse (out++[oneF (upto eol l)]) r:=by
 rw[parse.eq_def,if_neg h0]
 split
 ·rename_i r' hr
  rw[h]at hr
  injection hr with _ hr
  injection hr with _ hr
  subst hr
  rfl
 ·rename_i hr
  exact absurd h (hr r)
theorem parse_cases (l:Bs):l=[]∨(l≠[]∧∀ r,from_ eol l≠13::10::r)∨(l≠[]∧∃ r,from_ eol l=13::10::r):=by
 by_cases h0:l=[]
 ·exact .inl h0
 ·by_cases h:∃ r,from_ eol l=13::10::r
  ·exact .inr (.inr ⟨h0,h⟩)
  ·exact .inr (.inl ⟨h0,fun r hr=>h ⟨r,hr⟩⟩)
theorem parse_facts:∀ (k:Nat) (out:List FD) (l:Bs),l.length≤k→out.length≤100→F.bulk (parse out l).1≤F.bulk out+l.length∧(parse out l).1.length≤100∧((parse out l).2≠0→(parse out l).1=[])
 | k,out,l,hk,ho=>by
  rcases parse_cases l with h | ⟨h0,h⟩ | ⟨h0,r,h⟩
  ·subst h
   rw[parse_nil]
   exact⟨Nat.le_add_right _ _,ho,fun h=>absurd rfl h⟩
  ·rw[parse_bad out h0 h]
   exact⟨Nat.zero_le _,Nat.zero_le _,fun _=>rfl⟩
  ·rw[parse_step out h0 h]
   have hl:=upto_len eol l
   rw[h]at hl
   simp only[List.length_cons]at hl
   split
   ·exact⟨Nat.zero_le _,Nat.zero_le _,fun _=>rfl⟩
   ·split
    ·exact⟨Nat.zero_le _,Nat.zero_le _,fun _=>rfl⟩
    ·rename_i h100
     cases k with
     | zero=>omega
     | succ k =>
      obtain⟨g1,g2,g3⟩:=parse_facts k (out++[oneF (upto eol l)]) r (by omega) (by rw[List.length_append];simp only[List.length_cons,List.length_nil];omega)
      refine⟨?_,g2,g3⟩
      rw[F.bulk_append]at g1
      simp only[F.bulk]at g1
      have:=one_small (upto eol l)
      omega
def skip:Bs→Nat
 | 13::10::r=>skip r+2
 | _=>0
def hIdx (b:Bs) (s:Nat):Int:=Lib.index (b.drop s) crlf2
def hE (b:Bs) (s:Nat):Int:=if hIdx b s < 0 then (if b.length < 8192 then 0 else 51) else if 8192 < s+hIdx b s+4 then 51 else 0
def hN (b:Bs) (s:Nat):Int:=if hIdx b s < 0∨8192 < s+hIdx b s+4 then 0 else s+hIdx b s+4
def hText (b:Bs) (s:Nat):Bs:=(b.drop s).take (hIdx b s+2).toNat
def hLine (b:Bs) (s:Nat):Bs:=(hText b s).take (Lib.index (hText b s) crlf).toNat
def hBlock (b:Bs) (s:Nat):Bs:=(hText b s).drop ((Lib.index (hText b s) crlf).toNat+2)
def dig (c:UInt8):Bool:=decide (48≤c.toNat)&&decide (c.toNat≤57)
def http10:Bs:=[72,84,84,80,47,49,46,48]
def http11:Bs:=[72,84,84,80,47,49,46,49]
def verShape (l:Bs):Bool:=decide (l.length=8)&&decide (l.take 5=[72,84,84,80,47])&&dig (l.getD 5 0)&&decide (l.getD 6 0=46)&&dig (l.getD 7 0)
def verE (l:Bs):Int:=if verShape l=false then 50 else if l=http10∨l=http11 then 0 else 52
def verN (l:Bs):Int:=if l=http11 then 1 else 0
structure RQ where
 m:ByteArray
 t:ByteArray
 v:Int
 fs:List FD
 n:Int
 e:Int
def RQ.bad (e:Int):RQ:=⟨⟨#[]⟩,⟨#[]⟩,0,[],0,e⟩
def sp (c:UInt8):Bool:=c==32
def methodOf (l:Bs):Bs:=upto sp l
def behind (l:Bs):Bs:=(from_ sp l).drop 1
def hostsOf (fs:List FD):Int:=(F.values fs ⟨#[72,111,115,116]⟩).length
def reqOf (line block:Bs) (n:Int):RQ :=
 if T.token (methodOf line)=false∨F.visible (B (methodOf (behind line)))=false then .bad 50
 else if verE (behind (behind line))≠0 then .bad (verE (behind (behind line)))
 else if (parse [] block).2≠0 then .bad (parse [] block).2
 else if hostsOf (parse [] block).1 > 1∨hostsOf (parse [] block).1 < verN (behind (behind line)) then .bad 40
 else ⟨B (methodOf line),B (methodOf (behind line)),verN (behind (behind line)),(parse [] block).1,n,0⟩
def request (b:Bs):RQ:=if hE b (skip b)≠0∨hN b (skip b)=0 then .bad (hE b (skip b)) else reqOf (hLine b (skip b)) (hBlock b (skip b)) (hN b (skip b))
end P
open Go.RowKit
def RetP (w:World) (v:Value) (e:Ending) (w':World):Prop:=e=.returned v∧w=w'
theorem seven (n:Nat):n < 48∨(48≤n∧n≤57)∨(57 < n∧n < 65)∨(65≤n∧n≤90)∨(90 < n∧n < 97)∨(97≤n∧n≤122)∨122 < n:=by omega
theorem tokB_num {c:UInt8} (h:48≤c.toNat∧c.toNat≤57∨65≤c.toNat∧c.toNat≤90∨97≤c.toNat∧c.toNat≤122):T.tokB c=true:=by
 unfold T.tokB
 rcases h with h | h | h
 ·simp [h.1,h.2]
 ·simp [h.1,h.2]
 ·simp [h.1,h.2]
theorem tokB_other {c:UInt8} (h1:¬ (48≤c.toNat∧c.toNat≤57)) (h2:¬ (65≤c.toNat∧c.toNat≤90)) (h3:¬ (97≤c.toNat∧c.toNat≤122)):T.tokB c=T.others.contains c:=by
 unfold T.tokB
 have e1:(decide (48≤c.toNat)&&decide (c.toNat≤57))=false:=by simp;omega
 have e2:(decide (65≤c.toNat)&&decide (c.toNat≤90))=false:=by simp;omega
 have e3:(decide (97≤c.toNat)&&decide (c.toNat≤122))=false:=by simp;omega
 rw[e1,e2,e3]
 rfl
theorem indexByte_contains:∀ (l:List UInt8) (c:UInt8),(l.contains c=true∧0≤Lib.indexByte l c)∨(l.contains c=false∧Lib.indexByte l c < 0)
 | [],_=>.inr ⟨rfl,by simp [Lib.indexByte]⟩
 | b::l,c=>by
  have ih:=indexByte_contains l c
  by_cases h:b=c
  ·subst h
   left
   simp [Lib.indexByte]
  ·have h1:(b==c)=false:=by simpa using h
   have h2:(c==b)=false:=by simpa using Ne.symm h
   have hcc:(b::l).contains c=l.contains c:=by rw[List.contains_cons,h2,Bool.false_or]
   rw[hcc]
   unfold Lib.indexByte
   rw[h1]
   simp only[Bool.false_eq_true,if_false]
   rcases ih with ⟨i1,i2⟩ | ⟨i1,i2⟩
   ·left
    refine⟨i1,?_⟩
    split
    ·rename_i h3
     have:Lib.indexByte l c=-1:=by simpa using h3
     omega
    ·omega
   ·right
    refine⟨i1,?_⟩
    split
    ·omega
    ·rename_i h3
     have:¬ Lib.indexByte l c=-1:=by simpa using h3
     have lo:∀ (l:List UInt8),-1≤Lib.indexByte l c:=by
      intro l
      induction l with
      | nil=>simp [Lib.indexByte]
      | cons x l ih =>
       unfold Lib.indexByte
       split
       ·omega
       ·split
        ·omega
        ·omega
     have:=lo l
     omega
theorem u8_self (c:UInt8):((c.toNat:Int).toNat).toUInt8=c:=by simp
theorem index_any (c:UInt8) (w:World):Calls Tryz.prog 204 #[.string ⟨#[33,35,36,37,38,39,42,43,45,46,94,95,124,126,96]⟩,.int .u8 c.toNat] w (RetP w (.int .i64 (Lib.indexByte T.others c))):=by
 refine (Tryz.strings_IndexByte ⟨#[33,35,36,37,38,39,42,43,45,46,94,95,124,126,96]⟩ c.toNat w).mono ?_
 rintro e w' ⟨rfl,rfl⟩
 rw[u8_self]
 exact⟨rfl,rfl⟩
theorem tokenByte_any (c:UInt8) (w:World):Calls Tryz.prog 216 #[.int .u8 c.toNat] w (RetP w (.bool (T.tokB c))):=by
 have HI:=Lib.hid (index_any c)
 have hc:=indexByte_contains T.others c
 have hc2:c.toNat < 256:=c.toNat_lt
 rcases seven c.toNat with h | ⟨h,h'⟩ | ⟨h,h'⟩ | ⟨h,h'⟩ | ⟨h,h'⟩ | ⟨h,h'⟩ | h
 case inr.inl | inr.inr.inr.inl | inr.inr.inr.inr.inr.inl =>
  rw[tokB_num (by omega)]
  clear hc HI
  go_enter Tryz.func216,Tryz.ntmps216
  go_wp2
  go_ret
  exact⟨rfl,rfl⟩
 all_goals
  rw[tokB_other (by omega) (by omega) (by omega)]
  generalize Lib.indexByte T.others c=i at *
  rcases hc with ⟨e1,e2⟩ | ⟨e1,e2⟩
  all_goals
   rw[e1]
   clear e1
   go_enter Tryz.func216,Tryz.ntmps216
   go_wp2_with fail
   refine (HI.out _).mono ?_
   rintro e w' ⟨rfl,rfl⟩
   go_wp2
   go_ret
   exact⟨ret_bool (by first | (simp;done) | (simp;omega)),rfl⟩
theorem all_step (p:UInt8→Bool) (l:List UInt8) (k:Nat) (h:k < l.length) (ha:(l.take k).all p=true) (hp:p l[k]=true):(l.take (k+1)).all p=true:=by
 rw[List.take_succ_eq_append_getElem h,List.all_append,ha]
 simp [hp]
theorem all_no (p:UInt8→Bool) (l:List UInt8) (k:Nat) (h:k < l.length) (hp:p l[k]=false):l.all p=false:=by
 rw[List.all_eq_false]
 exact⟨l[k],List.getElem_mem h,by simp [hp]⟩
theorem token_no {l:List UInt8} (h:l.all T.tokB=false):T.token l=false:=by unfold T.token;rw[h];rfl
theorem token_yes {l:List UInt8} (h:l.all T.tokB=true):T.token l=decide (0 < l.length):=by
 unfold T.token;rw[h];cases l<;>simp
theorem token_any (s:ByteArray) (w:World) (hs:s.size≤1099511627776):Calls Tryz.prog 199 #[.string s] w (RetP w (.bool (T.token (L s)))):=by
 have HZ:Hid ((L s).length=s.size):=(L_size s).symm
 go_enter Tryz.func199,Tryz.ntmps199
 go_wp2
 go_loop [3,6] (fun _ i=>∃ k:Nat,k≤s.size∧i=.int .i64 k∧((L s).take k).all T.tokB=true) (fun _ i=>s.size - (intOf i).toNat)
 case atStart=>exact⟨0,Nat.zero_le _,rfl,by simp⟩
 case round =>
  obtain⟨k,hk,rfl,ha⟩:=hrel
  have HAll:=Lib.hid ha
  clear ha
  by_cases hlt:k < s.size
  ·have hL:k < (L s).length:=by rw[HZ.out];exact hlt
   have HB:=Lib.hid (tokenByte_any s[k])
   rcases tf (T.tokB ((L s)[k]'hL)) with h | h
   ·have HN:=Lib.hid (all_step T.tokB (L s) k hL HAll.out h)
    have hb:T.tokB s[k]=true:=h
    rw[hb]at HB
    clear h hb
    go_wp2_with fail
    refine (HB.out _).mono ?_
    rintro e w' ⟨rfl,rfl⟩
    go_wp2
    go_round
    case rel=>exact⟨k+1,by omega,by go_num,HN.out⟩
    case measure=>simp [intOf];omega
   ·have HN:=Lib.hid (token_no (all_no T.tokB (L s) k hL h))
    have hb:T.tokB s[k]=false:=h
    rw[hb]at HB
    clear h hb
    go_wp2_with fail
    refine (HB.out _).mono ?_
    rintro e w' ⟨rfl,rfl⟩
    go_wp2
    go_ret
    exact⟨ret_bool HN.out.symm,rfl⟩
  ·have hks:k=s.size:=by omega
   have ha:=HAll.out
   rw[List.take_of_length_le (by rw[HZ.out];omega)]at ha
   have hT:=token_yes ha
   rw[HZ.out]at hT
   have HT:=Lib.hid hT
   clear ha hT hks
   go_wp2
   go_ret
   exact⟨ret_bool (by rw[HT.out]),rfl⟩
theorem textB_of (c:UInt8):(T.textB c=true∧((c.toNat:Int)==9)=true∧c.toNat < 32)∨(T.textB c=false∧((c.toNat:Int)==9)=false∧c.toNat < 32) ∨
  (T.textB c=true∧((c.toNat:Int)==9)=false∧32≤c.toNat∧((c.toNat:Int)==127)=false)∨(T.textB c=false∧((c.toNat:Int)==9)=false∧32≤c.toNat∧((c.toNat:Int)==127)=true):=by
 unfold T.textB
 by_cases h1:c.toNat=9
 ·left;simp [h1]
 ·by_cases h2:32≤c.toNat
  ·by_cases h3:c.toNat=127
   ·right;right;right
    simp [h3]
   ·right;right;left
    refine⟨by simp [h2,h3],?_,h2,?_⟩
    ·simp;omega
    ·simp;omega
  ·right;left
   refine⟨by simp [h1];omega,?_,by omega⟩
   simp;omega
theorem good_no {s:ByteArray} (h:(L s).all T.textB=false):F.good s=false:=by unfold F.good;rw[h];rfl
theorem good_yes {s:ByteArray} (h:(L s).all T.textB=true):F.good s=((B (T.trim (L s))).toList==s.toList):=by
 unfold F.good
 rw[h,Bool.true_and,beq_bytes]
 by_cases e:T.trim (L s)=L s
 ·rw[decide_eq_true e,decide_eq_true (by rw[e];exact B_L s)]
 ·rw[decide_eq_false e,decide_eq_false (fun h'=>e (by have:=congrArg L h';exact this))]
theorem good_any (s:ByteArray) (w:World) (hs:s.size≤1099511627776):Calls Tryz.prog 200 #[.string s] w (RetB w (F.good s)):=by
 have HZ:Hid ((L s).length=s.size):=(L_size s).symm
 have HTR:=Lib.hid (trim_any s w hs)
 go_enter Tryz.func200,Tryz.ntmps200
 go_wp2
 go_loop [3,4,7] (fun _ _ i=>∃ k:Nat,k≤s.size∧i=.int .i64 k∧((L s).take k).all T.textB=true) (fun _ _ i=>s.size - (intOf i).toNat)
 case atStart=>exact⟨0,Nat.zero_le _,rfl,by simp⟩
 case round =>
  obtain⟨k,hk,rfl,ha⟩:=hrel
  have HAll:=Lib.hid ha
  clear ha
  by_cases hlt:k < s.size
  ·have hL:k < (L s).length:=by rw[HZ.out];exact hlt
   have hcell:s[k]=(L s)[k]'hL:=L_at s k hlt
   have hv:=textB_of ((L s)[k]'hL)
   rw[← hcell]at hv
   rcases hv with ⟨h,g1,g2⟩ | ⟨h,g1,g2⟩ | ⟨h,g1,g2,g3⟩ | ⟨h,g1,g2,g3⟩
   ·have g5:((s[k].toNat:Int) != 9)=false:=by rw[bne,g1];rfl
    have g6:decide ((s[k].toNat:Int) < 32)=true:=by first | (rw[decide_eq_true_eq];omega) | (rw[decide_eq_false_iff_not];omega)
    have HN:=Lib.hid (all_step T.textB (L s) k hL HAll.out h)
    clear h hcell
    go_wp2
    go_round
    case rel=>exact⟨k+1,by omega,by go_num,HN.out⟩
    case measure=>simp [intOf];omega
   ·have g5:((s[k].toNat:Int) != 9)=true:=by rw[bne,g1];rfl
    have g6:decide ((s[k].toNat:Int) < 32)=true:=by first | (rw[decide_eq_true_eq];omega) | (rw[decide_eq_false_iff_not];omega)
    have n1:¬ (s[k].toNat:Int)=9:=by simpa using g1
    have n2:(s[k].toNat:Int) < 32:=by omega
    have HN:=Lib.hid (good_no (all_no T.textB (L s) k hL h))
    clear h hcell
    go_wp2
    go_ret
    exact⟨ret_bool HN.out.symm,Below.refl _ _⟩
   ·have g5:((s[k].toNat:Int) != 9)=true:=by rw[bne,g1];rfl
    have g6:decide ((s[k].toNat:Int) < 32)=false:=by first | (rw[decide_eq_true_eq];omega) | (rw[decide_eq_false_iff_not];omega)
    have n1:¬ (s[k].toNat:Int)=9:=by simpa using g1
    have n2:¬ (s[k].toNat:Int) < 32:=by omega
    have n3:¬ (s[k].toNat:Int)=127:=by simpa using g3
    have n5:(((s[k].toNat:Int) != 9)&&(decide ((s[k].toNat:Int) < 32)||((s[k].toNat:Int)==127)))=false:=by rw[g5,g6,g3];rfl
    have n6:¬ (((s[k].toNat:Int) != 9)=true∧((s[k].toNat:Int) < 32∨((s[k].toNat:Int)==127)=true)):=by rw[g3];rintro⟨_,h | h⟩<;>first | exact n2 h | cases h
    have HN:=Lib.hid (all_step T.textB (L s) k hL HAll.out h)
    clear h hcell
    go_wp2
    go_round
    case rel=>exact⟨k+1,by omega,by go_num,HN.out⟩
    case measure=>simp [intOf];omega
   ·have g5:((s[k].toNat:Int) != 9)=true:=by rw[bne,g1];rfl
    have g6:decide ((s[k].toNat:Int) < 32)=false:=by first | (rw[decide_eq_true_eq];omega) | (rw[decide_eq_false_iff_not];omega)
    have n1:¬ (s[k].toNat:Int)=9:=by simpa using g1
    have n2:¬ (s[k].toNat:Int) < 32:=by omega
    have n3:(s[k].toNat:Int)=127:=by simpa using g3
    have n5:(((s[k].toNat:Int) != 9)&&(decide ((s[k].toNat:Int) < 32)||((s[k].toNat:Int)==127)))=true:=by rw[g5,g6,g3];rfl
    have n6:((s[k].toNat:Int) != 9)=true∧((s[k].toNat:Int) < 32∨((s[k].toNat:Int)==127)=true):=⟨g5,.inr g3⟩
    have HN:=Lib.hid (good_no (all_no T.textB (L s) k hL h))
    clear h hcell
    go_wp2
    ·go_ret
     exact⟨ret_bool HN.out.symm,Below.refl _ _⟩
    ·exfalso
     have hh:((s[k].toNat:Int) != 9)=false∨(32:Int)≤(s[k].toNat:Int)∧((s[k].toNat:Int)==127)=false:=by assumption
     rcases hh with h | ⟨_,h⟩
     ·rw[g5]at h;cases h
     ·rw[g3]at h;cases h
  ·have hks:k=s.size:=by omega
   have ha:=HAll.out
   rw[List.take_of_length_le (by rw[HZ.out];omega)]at ha
   have HT:=Lib.hid (good_yes ha)
   clear ha hks
   go_wp2_with fail
   refine HTR.out.mono ?_
   rintro e w1 ⟨rfl,hb1⟩
   go_wp2
   go_ret
   exact⟨ret_bool HT.out.symm,hb1⟩
end Go.Proofs.YthjeglnkgdpijaaGreatDoor
