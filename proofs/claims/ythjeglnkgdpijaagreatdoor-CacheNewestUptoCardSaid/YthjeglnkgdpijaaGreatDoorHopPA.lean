/- The walk of hop.Bytes. Conditions: a list of bulk at most 2^20, texts and bodies of at most 2^20 bytes, numbers of 64 bits, the library's table of powers of ten. The walks of the document's Put and Bytes. Conditions: a list of bulk at most 2^20, texts and bodies of at most 2^20 bytes, numbers of 64 bits. The walk of the law HopBytes. Conditions: a list of bulk at most 2^20, texts and bodies of at most 2^20 bytes, numbers of 64 bits, the library's table of powers of ten. A head that is written is read as it was, whatever stands behind it, and not ahead of its last byte. No program here. What is read back of the bytes of a response and of a request, whatever stands behind them. No program here. -/
import Derived.Deep.DeepCutAuto
import Derived.Test.YthjeglnkgdpijaaGreatDoorZ11
namespace Go.Proofs.YthjeglnkgdpijaaGreatDoor
open Go.RowKit
theorem Row.apart {u:World} {base:Nat} {e t:TypeId} {size:Nat} {A:Option Addr} {n c b:Nat} {xs:List Value} {cs:Array Value} (h:Row u base e size A n c xs) (hb:Blk u b cs t) (hne:t≠e):∀ k,ownB A c=some k→k≠b:=by
 rintro k hk rfl
 have hb':u.heap[k]?=some (.cells cs t (0,0)):=hb
 unfold ownB at hk
 split at hk
 ·cases hk
 ·rename_i hc
  rcases h with ⟨_,h2⟩ | ⟨_,h2,_⟩
  ·rcases h2 with ⟨hv,_⟩ | ⟨g,cap,cur,hv,hg,hh,r⟩
   ·injection hv with _ _ h3
    exact hc h3
   ·injection hv with hA
    subst hA
    simp at hk
    subst hk
    rw[hb']at hh
    injection hh with hh
    injection hh with _ h2
    exact hne h2
  ·exact hc h2
def BytesS (w:World) (b:Nat) (X X1:Array Value) (A1:Option Addr) (fs:List FD) (g:Nat) (body:List UInt8) (u:World):Prop :=
 Blk u w.heap.size X 38∧Blk u b X1 38∧Rd u A1 fs.length 2 (fcells fs)∧Rd u (some ⟨g,0,none⟩) (body.length+marks.length) 1 (bcells (body++marks))∧Below w.heap.size w u
theorem BytesS.below {w u v:World} {b g:Nat} {X X1:Array Value} {A1:Option Addr} {fs:List FD} {body:List UInt8} (h:BytesS w b X X1 A1 fs g body u) (hb:Below u.heap.size u v):BytesS w b X X1 A1 fs g body v :=
 ⟨h.1.below hb,h.2.1.below hb,h.2.2.1.below hb,h.2.2.2.1.below hb,below_then h.2.2.2.2.size h.2.2.2.2 hb⟩
end Go.Proofs.YthjeglnkgdpijaaGreatDoor
namespace Go.Proofs.YthjeglnkgdpijaaGreatDoor
namespace P
open T (Bs)
theorem tokB_not {c:UInt8} (h:T.tokB c=true):c≠13∧c≠10∧c≠32∧c≠58∧c≠9 :=
 ⟨fun e=>by subst e;exact absurd h (by decide),fun e=>by subst e;exact absurd h (by decide),fun e=>by subst e;exact absurd h (by decide),fun e=>by subst e;exact absurd h (by decide),fun e=>by subst e;exact absurd h (by decide)⟩
theorem textB_not {c:UInt8} (h:T.textB c=true):c≠13∧c≠10 :=
 ⟨fun e=>by subst e;exact absurd h (by decide),fun e=>by subst e;exact absurd h (by decide)⟩
theorem eol_no {c:UInt8} (h1:c≠13) (h2:c≠10):eol c=false:=by
 unfold eol
 rw[Bool.or_eq_false_iff,beq_eq_false_iff_ne,beq_eq_false_iff_ne]
 exact⟨h1,h2⟩
theorem mem_tok {l:Bs} (h:T.token l=true) {x:UInt8} (hx:x∈l):T.tokB x=true:=by
 unfold T.token at h
 rw[Bool.and_eq_true,List.all_eq_true]at h
 exact h.1 x hx
theorem tok_ne {l:Bs} (h:T.token l=true):l≠[]:=by
 rintro rfl
 exact absurd h (by decide)
def bare (f:FD):Bs:=L f.1++58::32::L f.2
theorem line_bare (f:FD):F.line f=bare f++[13,10]:=by
 unfold F.line bare
 simp
theorem bare_ok {f:FD} (h:F.okF f=true):(∀ y∈bare f,eol y=false)∧oneE (bare f)=0∧oneF (bare f)=f∧∃ x t,bare f=x::t∧x≠13:=by
 unfold F.okF at h
 rw[Bool.and_eq_true]at h
 obtain⟨h1,h2⟩:=h
 have h3:=h2
 unfold F.good at h3
 rw[Bool.and_eq_true,List.all_eq_true,decide_eq_true_eq]at h3
 obtain⟨h3,h4⟩:=h3
 have hs:=upto_app (·==58) (L f.1) 58 (32::L f.2) (fun y hy=>by
  have:=(tokB_not (mem_tok h1 hy)).2.2.2.1
  simpa using this) (by decide)
 have hn:nameOf (bare f)=L f.1:=hs.1
 have hfr:from_ (·==58) (bare f)=58::32::L f.2:=hs.2
 have hv:valOf (bare f)=L f.2:=by
  unfold valOf
  rw[hfr]
  show T.trim (32::L f.2)=_
  have:T.trim (32::L f.2)=T.trim (L f.2):=by
   unfold T.trim
   rw[List.dropWhile_cons,if_pos (by decide)]
  rw[this,h4]
 obtain⟨x,t,hxt⟩:∃ x t,L f.1=x::t:=by
  cases h5:L f.1 with
  | nil=>exact absurd h5 (tok_ne h1)
  | cons x t=>exact⟨x,t,rfl⟩
 have hx:=tokB_not (mem_tok h1 (show x∈L f.1 by rw[hxt];simp))
 have hcons:bare f=x::(t++58::32::L f.2):=by
  unfold bare
  rw[hxt];rfl
 refine⟨?_,?_,?_,x,_,hcons,hx.1⟩
 ·intro y hy
  unfold bare at hy
  rw[List.mem_append,List.mem_cons,List.mem_cons]at hy
  rcases hy with hy | rfl | rfl | hy
  ·have:=tokB_not (mem_tok h1 hy)
   exact eol_no this.1 this.2.1
  ·decide
  ·decide
  ·have:=textB_not (h3 y hy)
   exact eol_no this.1 this.2
 ·unfold oneE
  rw[if_neg,if_neg]
  ·rw[hfr,hn,hv,B_L,h1,h2]
   rintro (h | h | h)<;>cases h
  ·rw[hcons]
   simp only[List.head?_cons,Option.some.injEq]
   rintro (h | h)
   ·exact hx.2.2.1 h
   ·exact hx.2.2.2.2 h
 ·unfold oneF
  rw[hn,hv,B_L,B_L]
theorem lines_cons (f:FD) (fs:List FD):F.lines (f::fs)=bare f++13::10::F.lines fs:=by
 unfold F.lines
 rw[List.flatMap_cons,line_bare]
 simp
theorem parse_lines:∀ (fs out:List FD),fs.all F.okF=true→out.length+fs.length≤100→parse out (F.lines fs)=(out++fs,0)
 | [],out,_,_=>by
  rw[show F.lines []=[] from rfl,parse_nil,List.append_nil]
 | f::fs,out,h,hl=>by
  rw[List.all_cons,Bool.and_eq_true]at h
  obtain⟨g1,g2,g3,x,t,hxt,_⟩:=bare_ok h.1
  have hs:=upto_app eol (bare f) 13 (10::F.lines fs) g1 (by decide)
  rw[lines_cons,parse_step out (by rw[hxt];simp) hs.2,hs.1,g2,g3,if_neg (fun h=>h rfl)]
  simp only[List.length_cons]at hl
  rw[if_neg (by omega),parse_lines fs (out++[f]) h.2 (by rw[List.length_append];simp only[List.length_cons,List.length_nil];omega)]
  simp
theorem index_cons_no {x:UInt8} {l:Bs} {sub:Bs} {i:Nat} (h:sub.isPrefixOf (x::l)=false) (hi:Lib.index l sub=(i:Int)):Lib.index (x::l) sub=((i+1:Nat):Int):=by
 unfold Lib.index
 rw[h,hi]
 have:((i:Int)==-1)=false:=by rw[beq_eq_false_iff_ne];omega
 simp [this]
theorem index_cons_yes {x:UInt8} {l:Bs} {sub:Bs} (h:sub.isPrefixOf (x::l)=true):Lib.index (x::l) sub=0:=by
 unfold Lib.index
 rw[if_pos h]
theorem pre_no {x:UInt8} {l t:Bs} (h:x≠13):(13::t:Bs).isPrefixOf (x::l)=false:=by
 rw[List.isPrefixOf_cons_cons,Bool.and_eq_false_iff]
 exact .inl (by rw[beq_eq_false_iff_ne];exact fun e=>h e.symm)
theorem index_past_u {t:Bs}:∀ (u r:Bs) (i:Nat),(∀ y∈u,eol y=false)→Lib.index r (13::t)=(i:Int)→Lib.index (u++r) (13::t)=((u.length+i:Nat):Int)
 | [],r,i,_,hi=>by simpa using hi
 | y::u,r,i,hu,hi=>by
  have hy:y≠13:=((eol_iff' y).1 (hu y (by simp))).1
  have:=index_past_u u r i (fun z hz=>hu z (by simp [hz])) hi
  rw[List.cons_append,index_cons_no (pre_no hy) this]
  simp only[List.length_cons]
  congr 1
  omega
where
 eol_iff' (x:UInt8):eol x=false↔x≠13∧x≠10:=by
  unfold eol
  rw[Bool.or_eq_false_iff,beq_eq_false_iff_ne,beq_eq_false_iff_ne]
theorem index_crlf (r:Bs):Lib.index (13::10::r) crlf=0:=index_cons_yes (by simp [crlf])
theorem index_crlf2 (r:Bs):Lib.index (13::10::13::10::r) crlf2=0:=index_cons_yes (by simp [crlf2])
theorem index_two {x:UInt8} {l:Bs} {i:Nat} (hx:x≠13) (hi:Lib.index (x::l) crlf2=(i:Int)):Lib.index (13::10::x::l) crlf2=((i+2:Nat):Int):=by
 have h1:Lib.index (10::x::l) crlf2=((i+1:Nat):Int):=index_cons_no (pre_no (by decide)) hi
 refine index_cons_no ?_ h1
 unfold crlf2
 rw[List.isPrefixOf_cons_cons,List.isPrefixOf_cons_cons,pre_no hx]
 rfl
theorem index_head:∀ (fs:List FD) (u rest:Bs),fs.all F.okF=true→(∀ y∈u,eol y=false)→Lib.index (u++13::10::(F.lines fs++13::10::rest)) crlf2=((u.length+(F.lines fs).length:Nat):Int)
 | [],u,rest,_,hu=>index_past_u u _ 0 hu (index_crlf2 rest)
 | f::fs,u,rest,h,hu=>by
  rw[List.all_cons,Bool.and_eq_true]at h
  obtain⟨g1,_,_,x,t,hxt,hx⟩:=bare_ok h.1
  have ih:=index_head fs (bare f) rest h.2 g1
  have e:F.lines (f::fs)++13::10::rest=bare f++13::10::(F.lines fs++13::10::rest):=by
   rw[lines_cons];simp
  rw[e]
  have hl:(F.lines (f::fs)).length=(bare f).length+2+(F.lines fs).length:=by
   rw[lines_cons]
   simp only[List.length_append,List.length_cons]
   omega
  rw[hl]
  refine index_past_u u _ _ hu ?_
  rw[hxt,List.cons_append]at ih ⊢
  refine (index_two hx ih).trans ?_
  congr 1
  omega
def headOf (u:Bs) (fs:List FD):Bs:=u++[13,10]++F.lines fs++[13,10]
theorem headOf_app (u:Bs) (fs:List FD) (rest:Bs):headOf u fs++rest=u++13::10::(F.lines fs++13::10::rest):=by
 unfold headOf
 simp
theorem headOf_len (u:Bs) (fs:List FD):(headOf u fs).length=u.length+(F.lines fs).length+4:=by
 unfold headOf
 simp only[List.length_append,List.length_cons,List.length_nil]
 omega
theorem head_facts (u:Bs) (fs:List FD) (rest:Bs) (h:fs.all F.okF=true) (hu:∀ y∈u,eol y=false) (hl:u.length+(F.lines fs).length+4≤8192) :
  hIdx (headOf u fs++rest) 0=((u.length+(F.lines fs).length:Nat):Int)∧hE (headOf u fs++rest) 0=0∧hN (headOf u fs++rest) 0=((headOf u fs).length:Int)∧hLine (headOf u fs++rest) 0=u∧hBlock (headOf u fs++rest) 0=F.lines fs:=by
 have h0:hIdx (headOf u fs++rest) 0=((u.length+(F.lines fs).length:Nat):Int):=by
  unfold hIdx
  rw[List.drop_zero,headOf_app]
  exact index_head fs u rest h hu
 have ht:hText (headOf u fs++rest) 0=u++13::10::F.lines fs:=by
  unfold hText
  rw[h0,List.drop_zero,headOf_app]
  have e:u++13::10::(F.lines fs++13::10::rest)=(u++13::10::F.lines fs)++(13::10::rest):=by simp
  rw[e]
  refine List.take_left' ?_
  simp only[List.length_append,List.length_cons]
  omega
 have hx:Lib.index (u++13::10::F.lines fs) crlf=((u.length:Nat):Int):=by
  have:=index_past_u (t:=[10]) u (13::10::F.lines fs) 0 hu (index_crlf _)
  rw[Nat.add_zero]at this
  exact this
 refine⟨h0,?_,?_,?_,?_⟩
 ·unfold hE
  rw[h0,if_neg (by omega),if_neg (by omega)]
 ·unfold hN
  rw[h0,if_neg (by omega),headOf_len]
  omega
 ·unfold hLine
  rw[ht,hx,Int.toNat_natCast,List.take_left' rfl]
 ·unfold hBlock
  rw[ht,hx,Int.toNat_natCast]
  have e:u++13::10::F.lines fs=(u++[13,10])++F.lines fs:=by simp
  rw[e]
  exact List.drop_left' (by simp)
theorem head_short (u:Bs) (fs:List FD) (h:fs.all F.okF=true) (hu:∀ y∈u,eol y=false) (hl:u.length+(F.lines fs).length+4≤8192) :
  hIdx ((headOf u fs).take ((headOf u fs).length - 1)) 0 < 0:=by
 have h0:=(head_facts u fs [] h hu hl).1
 rw[List.append_nil]at h0
 have hlen:=headOf_len u fs
 rcases idx_cases ((headOf u fs).take ((headOf u fs).length - 1)) 0 with h1 | ⟨i,h1,h2⟩
 ·exact h1
 ·rw[List.length_take]at h2
  have:=(idx_front (b:=(headOf u fs).take ((headOf u fs).length - 1)) (b':=headOf u fs) (m:=(headOf u fs).length - 1) (by rw[List.take_take,Nat.min_self]) h1 (by omega) (by omega)).1
  omega
theorem whole_ok {l:Bs} {fs:List FD} (h:F.wholeE l fs=0):fs.all F.okF=true∧fs.length≤100∧l.length+(F.lines fs).length+4≤8192∧F.wholeB l fs=headOf l fs:=by
 refine⟨?_,?_,?_,if_pos h⟩
 all_goals
  unfold F.wholeE at h
  split at h
  ·rename_i h1
   unfold F.printE at h1
   split at h1
   ·rename_i h2
    split at h1
    ·cases h1
    ·split at h
     ·cases h
     ·first | exact h2 | omega
   ·cases h1
  ·rename_i h1
   exact absurd h h1
theorem itoa01 {n:Int} (h0:0≤n) (h1:n≤1):(n=0∧Lib.itoa n=[48])∨(n=1∧Lib.itoa n=[49]):=by
 rcases (by omega:n=0∨n=1) with rfl | rfl
 ·exact .inl ⟨rfl,by unfold Lib.itoa;rw[if_neg (by decide),show (0:Int).toNat=0 from rfl,Lib.decDigits];rfl⟩
 ·exact .inr ⟨rfl,by rw[itoa_show 1 (by decide)];decide⟩
theorem status_digits:∀ k:Fin 500,code3 (low (k.1+100)).reverse=true∧stat (low (k.1+100)).reverse=((k.1+100:Nat):Int):=by decide +kernel
theorem status_itoa {s:Int} (h0:100≤s) (h1:s≤599):code3 (Lib.itoa s)=true∧stat (Lib.itoa s)=s:=by
 have h:=status_digits ⟨(s - 100).toNat,by omega⟩
 have e:(s - 100).toNat+100=s.natAbs:=by omega
 simp only[e]at h
 rw[itoa_show s (by omega),if_neg (by omega),List.append_nil]
 exact⟨h.1,h.2.trans (by omega)⟩
theorem dig_not {c:UInt8} (h:dig c=true):c≠13∧c≠10∧c≠32 :=
 ⟨fun e=>by subst e;exact absurd h (by decide),fun e=>by subst e;exact absurd h (by decide),fun e=>by subst e;exact absurd h (by decide)⟩
theorem response_round {s:Int} {r:ByteArray} {v:Int} {fs:List FD} (h:F.respE s r v fs=0) (rest:Bs) :
  response (F.respB s r v fs++rest)=⟨s,r,v,fs,((F.respB s r v fs).length:Int),0⟩∧(F.respB s r v fs).length≤8192∧0 < (F.respB s r v fs).length∧response ((F.respB s r v fs).take ((F.respB s r v fs).length - 1))=.bad 0:=by
 have hB0:F.respB s r v fs=F.wholeB (F.respLine s r v) fs:=if_pos h
 rw[hB0]
 unfold F.respE at h
 split at h
 case isTrue=>cases h
 case isFalse hok =>
  split at h
  case isTrue=>cases h
  case isFalse hst =>
   obtain⟨h1,h2,h3,h4⟩:=whole_ok h
   rw[h4]
   have htx:F.text r=true:=by
    cases ht:F.text r with
    | true=>rfl
    | false=>exact absurd (.inr (.inr ht)) hok
   have k3:0≤v:=by
    rcases (by omega:v < 0∨0≤v) with h | h
    ·exact absurd (.inl h) hok
    ·exact h
   have k4:v≤1:=by
    rcases (by omega:1 < v∨v≤1) with h | h
    ·exact absurd (.inr (.inl h)) hok
    ·exact h
   obtain⟨c1,c2⟩:=status_itoa (s:=s) (by omega) (by omega)
   obtain⟨d,hd,hdv⟩:∃ d:UInt8,Lib.itoa v=[d]∧((v=0∧d=48)∨(v=1∧d=49)):=by
    rcases itoa01 k3 k4 with ⟨e1,e2⟩ | ⟨e1,e2⟩
    ·exact⟨48,e2,.inl ⟨e1,rfl⟩⟩
    ·exact⟨49,e2,.inr ⟨e1,rfl⟩⟩
   have hline:F.respLine s r v=[72,84,84,80,47,49,46,d]++32::(Lib.itoa s++32::L r):=by
    unfold F.respLine
    rw[hd]
    simp
   generalize Lib.itoa s=cd at *
   have hcd:∀ y∈cd,dig y=true:=by
    have:=c1
    unfold code3 at this
    rw[Bool.and_eq_true,List.all_eq_true]at this
    exact this.2
   have htr:∀ y∈L r,T.textB y=true:=by
    have:=htx
    unfold F.text at this
    rwa [List.all_eq_true]at this
   have hpr:∀ y∈([72,84,84,80,47,49,46,d]:Bs),eol y=false∧sp y=false:=by
    rcases hdv with ⟨_,rfl⟩ | ⟨_,rfl⟩
    ·decide
    ·decide
   have hu:∀ y∈F.respLine s r v,eol y=false:=by
    rw[hline]
    intro y hy
    have hy2:y∈([72,84,84,80,47,49,46,d]:Bs)∨y=32∨y∈cd∨y=32∨y∈L r:=by
     rcases List.mem_append.1 hy with h | h
     ·exact .inl h
     ·rcases List.mem_cons.1 h with h | h
      ·exact .inr (.inl h)
      ·rcases List.mem_append.1 h with h | h
       ·exact .inr (.inr (.inl h))
       ·rcases List.mem_cons.1 h with h | h
        ·exact .inr (.inr (.inr (.inl h)))
        ·exact .inr (.inr (.inr (.inr h)))
    rcases hy2 with hy | rfl | hy | rfl | hy
    ·exact (hpr y hy).1
    ·decide
    ·have:=dig_not (hcd y hy)
     exact eol_no this.1 this.2.1
    ·decide
    ·have:=textB_not (htr y hy)
     exact eol_no this.1 this.2
   have hf:=head_facts (F.respLine s r v) fs rest h1 hu h3
   have e1:=upto_app sp [72,84,84,80,47,49,46,d] 32 (cd++32::L r) (fun y hy=>(hpr y hy).2) (by decide)
   have e2:=upto_app sp cd 32 (L r) (fun y hy=>by
    have:=(dig_not (hcd y hy)).2.2
    unfold sp
    simpa using this) (by decide)
   have m1:methodOf (F.respLine s r v)=[72,84,84,80,47,49,46,d]:=by rw[hline];exact e1.1
   have m2:behind (F.respLine s r v)=cd++32::L r:=by
    rw[hline]
    unfold behind
    rw[e1.2]
    rfl
   have m3:methodOf (behind (F.respLine s r v))=cd:=by rw[m2];exact e2.1
   have m4:behind (behind (F.respLine s r v))=L r:=by
    rw[m2]
    unfold behind
    rw[e2.2]
    rfl
   have hve:verE [72,84,84,80,47,49,46,d]=0∧verN [72,84,84,80,47,49,46,d]=v:=by
    rcases hdv with ⟨rfl,rfl⟩ | ⟨rfl,rfl⟩
    ·exact⟨by decide,by decide⟩
    ·exact⟨by decide,by decide⟩
   have hp:=parse_lines fs [] h1 (by simpa using h2)
   rw[List.nil_append]at hp
   have hlen:=headOf_len (F.respLine s r v) fs
   refine⟨?_,by omega,by omega,?_⟩
   ·unfold response
    rw[hf.2.1,hf.2.2.1,hf.2.2.2.1,hf.2.2.2.2,if_neg (by omega)]
    unfold respOf
    rw[m1,m3,m4,B_L,c1,c2,htx,hve.1,hve.2,hp,if_neg (by simp),if_neg (by omega),if_neg (by decide),if_neg (fun h=>h rfl)]
   ·have hsh:=head_short (F.respLine s r v) fs h1 hu h3
    rw[response_no hsh,hE_no hsh,if_pos (by rw[List.length_take];omega)]
end P
end Go.Proofs.YthjeglnkgdpijaaGreatDoor
