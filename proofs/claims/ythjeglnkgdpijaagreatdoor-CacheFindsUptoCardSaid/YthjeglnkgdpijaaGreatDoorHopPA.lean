/- The walk of hop.Bytes. Conditions: a list of bulk at most 2^20, texts and bodies of at most 2^20 bytes, numbers of 64 bits, the library's table of powers of ten. The walks of the document's Put and Bytes. Conditions: a list of bulk at most 2^20, texts and bodies of at most 2^20 bytes, numbers of 64 bits. The walk of the law HopBytes. Conditions: a list of bulk at most 2^20, texts and bodies of at most 2^20 bytes, numbers of 64 bits, the library's table of powers of ten. A head that is written is read as it was, whatever stands behind it, and not ahead of its last byte. No program here. What is read back of the bytes of a response and of a request, whatever stands behind them. No program here. -/
import Derived.Test.YthjeglnkgdpijaaGreatDoorZ15
namespace Go.Proofs.YthjeglnkgdpijaaGreatDoor
open Go.RowKit
theorem Row.apart {u:World} {base:Nat} {e t:TypeId} {size:Nat} {A:Option Addr} {n c b:Nat} {xs:List Value} {cs:Array Value} (h:Row u base e size A n c xs) (hb:Blk u b cs t) (hne:t≠e):∀ k,ownB A c=some k→k≠b:=by
 rintro k hk rfl
 have hb':u.heap[k]?=some (.cells cs t (0,0)):=hb
 unfold ownB at hk
 split at hk
 ·cases hk
 ·rename_i hc
  rcases h with ⟨_,h2⟩ | ⟨_,h2,_⟩
  ·rcases h2 with ⟨hv,_⟩ | ⟨g,cap,cur,hv,hg,hh,r⟩
   ·injection hv with _ _ h3
    exact hc h3
   ·injection hv with hA
    subst hA
    simp at hk
    subst hk
    rw[hb']at hh
    injection hh with hh
    injection hh with _ h2
    exact hne h2
  ·exact hc h2
def aLG (w:World) (b:Nat) (X X1:Array Value) (A1:Option Addr) (fs:List FD) (g:Nat) (body:List UInt8) (u:World):Prop :=
 Blk u w.heap.size X 38∧Blk u b X1 38∧Rd u A1 fs.length 2 (aJ fs)∧Rd u (some ⟨g,0,none⟩) (body.length+marks.length) 1 (aB (body++marks))∧Below w.heap.size w u
theorem aLG.below {w u v:World} {b g:Nat} {X X1:Array Value} {A1:Option Addr} {fs:List FD} {body:List UInt8} (h:aLG w b X X1 A1 fs g body u) (hb:Below u.heap.size u v):aLG w b X X1 A1 fs g body v :=
 ⟨h.1.below hb,h.2.1.below hb,h.2.2.1.below hb,h.2.2.2.1.below hb,aA h.2.2.2.2.size h.2.2.2.2 hb⟩
end Go.Proofs.YthjeglnkgdpijaaGreatDoor
namespace Go.Proofs.YthjeglnkgdpijaaGreatDoor
namespace P
open T (Bs)
theorem yS {c:UInt8} (h:T.aCX c=true):c≠13∧c≠10∧c≠32∧c≠58∧c≠9 :=
 ⟨fun e=>by subst e;exact absurd h (by decide),fun e=>by subst e;exact absurd h (by decide),fun e=>by subst e;exact absurd h (by decide),fun e=>by subst e;exact absurd h (by decide),fun e=>by subst e;exact absurd h (by decide)⟩
theorem aAZ {c:UInt8} (h:T.gJ c=true):c≠13∧c≠10 :=
 ⟨fun e=>by subst e;exact absurd h (by decide),fun e=>by subst e;exact absurd h (by decide)⟩
theorem aFV {c:UInt8} (h1:c≠13) (h2:c≠10):eol c=false:=by
 unfold eol
 rw[Bool.or_eq_false_iff,beq_eq_false_iff_ne,beq_eq_false_iff_ne]
 exact⟨h1,h2⟩
theorem aDY {l:Bs} (h:T.token l=true) {x:UInt8} (hx:x∈l):T.aCX x=true:=by
 unfold T.token at h
 rw[Bool.and_eq_true,List.all_eq_true]at h
 exact h.1 x hx
theorem aQ6 {l:Bs} (h:T.token l=true):l≠[]:=by
 rintro rfl
 exact absurd h (by decide)
def bare (f:FD):Bs:=L f.1++58::32::L f.2
theorem aJP (f:FD):F.line f=bare f++[13,10]:=by
 unfold F.line bare
 simp
theorem aKW {f:FD} (h:F.okF f=true):(∀ y∈bare f,eol y=false)∧aFB (bare f)=0∧vW (bare f)=f∧∃ x t,bare f=x::t∧x≠13:=by
 unfold F.okF at h
 rw[Bool.and_eq_true]at h
 obtain⟨h1,h2⟩:=h
 have h3:=h2
 unfold F.good at h3
 rw[Bool.and_eq_true,List.all_eq_true,decide_eq_true_eq]at h3
 obtain⟨h3,h4⟩:=h3
 have hs:=mG (·==58) (L f.1) 58 (32::L f.2) (fun y hy=>by
  have:=(yS (aDY h1 hy)).2.2.2.1
  simpa using this) (by decide)
 have hn:nameOf (bare f)=L f.1:=hs.1
 have hfr:from_ (·==58) (bare f)=58::32::L f.2:=hs.2
 have hv:valOf (bare f)=L f.2:=by
  unfold valOf
  rw[hfr]
  show T.trim (32::L f.2)=_
  have:T.trim (32::L f.2)=T.trim (L f.2):=by
   unfold T.trim
   rw[List.dropWhile_cons,if_pos (by decide)]
  rw[this,h4]
 obtain⟨x,t,hxt⟩:∃ x t,L f.1=x::t:=by
  cases h5:L f.1 with
  | nil=>exact absurd h5 (aQ6 h1)
  | cons x t=>exact⟨x,t,rfl⟩
 have hx:=yS (aDY h1 (show x∈L f.1 by rw[hxt];simp))
 have hcons:bare f=x::(t++58::32::L f.2):=by
  unfold bare
  rw[hxt];rfl
 refine⟨?_,?_,?_,x,_,hcons,hx.1⟩
 ·intro y hy
  unfold bare at hy
  rw[List.mem_append,List.mem_cons,List.mem_cons]at hy
  rcases hy with hy | rfl | rfl | hy
  ·have:=yS (aDY h1 hy)
   exact aFV this.1 this.2.1
  ·decide
  ·decide
  ·have:=aAZ (h3 y hy)
   exact aFV this.1 this.2
 ·unfold aFB
  rw[if_neg,if_neg]
  ·rw[hfr,hn,hv,B_L,h1,h2]
   rintro (h | h | h)<;>cases h
  ·rw[hcons]
   simp only[List.head?_cons,Option.some.injEq]
   rintro (h | h)
   ·exact hx.2.2.1 h
   ·exact hx.2.2.2.2 h
 ·unfold vW
  rw[hn,hv,B_L,B_L]
theorem oP (f:FD) (fs:List FD):F.lines (f::fs)=bare f++13::10::F.lines fs:=by
 unfold F.lines
 rw[List.flatMap_cons,aJP]
 simp
theorem uB:∀ (fs out:List FD),fs.all F.okF=true→out.length+fs.length≤100→parse out (F.lines fs)=(out++fs,0)
 | [],out,_,_=>by
  rw[show F.lines []=[] from rfl,parse_nil,List.append_nil]
 | f::fs,out,h,hl=>by
  rw[List.all_cons,Bool.and_eq_true]at h
  obtain⟨g1,g2,g3,x,t,hxt,_⟩:=aKW h.1
  have hs:=mG eol (bare f) 13 (10::F.lines fs) g1 (by decide)
  rw[oP,oM out (by rw[hxt];simp) hs.2,hs.1,g2,g3,if_neg (fun h=>h rfl)]
  simp only[List.length_cons]at hl
  rw[if_neg (by omega),uB fs (out++[f]) h.2 (by rw[bC];simp only[List.length_cons,List.length_nil];omega)]
  simp
theorem jO {x:UInt8} {l:Bs} {sub:Bs} {i:Nat} (h:sub.isPrefixOf (x::l)=false) (hi:Lib.index l sub=(i:Int)):Lib.index (x::l) sub=((i+1:Nat):Int):=by
 unfold Lib.index
 rw[h,hi]
 have:((i:Int)==-1)=false:=by rw[beq_eq_false_iff_ne];omega
 simp [this]
theorem lJ {x:UInt8} {l:Bs} {sub:Bs} (h:sub.isPrefixOf (x::l)=true):Lib.index (x::l) sub=0:=by
 unfold Lib.index
 rw[if_pos h]
theorem aI4 {x:UInt8} {l t:Bs} (h:x≠13):(13::t:Bs).isPrefixOf (x::l)=false:=by
 rw[List.isPrefixOf_cons_cons,Bool.and_eq_false_iff]
 exact .inl (by rw[beq_eq_false_iff_ne];exact fun e=>h e.symm)
theorem iG {t:Bs}:∀ (u r:Bs) (i:Nat),(∀ y∈u,eol y=false)→Lib.index r (13::t)=(i:Int)→Lib.index (u++r) (13::t)=((u.length+i:Nat):Int)
 | [],r,i,_,hi=>by simpa using hi
 | y::u,r,i,hu,hi=>by
  have hy:y≠13:=((eol_iff' y).1 (hu y (by simp))).1
  have:=iG u r i (fun z hz=>hu z (by simp [hz])) hi
  rw[List.cons_append,jO (aI4 hy) this]
  simp only[List.length_cons]
  congr 1
  omega
where
 eol_iff' (x:UInt8):eol x=false↔x≠13∧x≠10:=by
  unfold eol
  rw[Bool.or_eq_false_iff,beq_eq_false_iff_ne,beq_eq_false_iff_ne]
theorem aHB (r:Bs):Lib.index (13::10::r) aFX=0:=lJ (by simp [aFX])
theorem aD5 (r:Bs):Lib.index (13::10::13::10::r) qZ=0:=lJ (by simp [qZ])
theorem aJU {x:UInt8} {l:Bs} {i:Nat} (hx:x≠13) (hi:Lib.index (x::l) qZ=(i:Int)):Lib.index (13::10::x::l) qZ=((i+2:Nat):Int):=by
 have h1:Lib.index (10::x::l) qZ=((i+1:Nat):Int):=jO (aI4 (by decide)) hi
 refine jO ?_ h1
 unfold qZ
 rw[List.isPrefixOf_cons_cons,List.isPrefixOf_cons_cons,aI4 hx]
 rfl
theorem xX:∀ (fs:List FD) (u rest:Bs),fs.all F.okF=true→(∀ y∈u,eol y=false)→Lib.index (u++13::10::(F.lines fs++13::10::rest)) qZ=((u.length+(F.lines fs).length:Nat):Int)
 | [],u,rest,_,hu=>iG u _ 0 hu (aD5 rest)
 | f::fs,u,rest,h,hu=>by
  rw[List.all_cons,Bool.and_eq_true]at h
  obtain⟨g1,_,_,x,t,hxt,hx⟩:=aKW h.1
  have ih:=xX fs (bare f) rest h.2 g1
  have e:F.lines (f::fs)++13::10::rest=bare f++13::10::(F.lines fs++13::10::rest):=by
   rw[oP];simp
  rw[e]
  have hl:(F.lines (f::fs)).length=(bare f).length+2+(F.lines fs).length:=by
   rw[oP]
   simp only[bC,List.length_cons]
   omega
  rw[hl]
  refine iG u _ _ hu ?_
  rw[hxt,List.cons_append]at ih ⊢
  refine (aJU hx ih).trans ?_
  congr 1
  omega
def dU (u:Bs) (fs:List FD):Bs:=u++[13,10]++F.lines fs++[13,10]
theorem yA (u:Bs) (fs:List FD) (rest:Bs):dU u fs++rest=u++13::10::(F.lines fs++13::10::rest):=by
 unfold dU
 simp
theorem oU (u:Bs) (fs:List FD):(dU u fs).length=u.length+(F.lines fs).length+4:=by
 unfold dU
 simp only[bC,List.length_cons,List.length_nil]
 omega
theorem xZ (u:Bs) (fs:List FD) (rest:Bs) (h:fs.all F.okF=true) (hu:∀ y∈u,eol y=false) (hl:u.length+(F.lines fs).length+4≤8192) :
  hIdx (dU u fs++rest) 0=((u.length+(F.lines fs).length:Nat):Int)∧hE (dU u fs++rest) 0=0∧hN (dU u fs++rest) 0=((dU u fs).length:Int)∧oV (dU u fs++rest) 0=u∧jT (dU u fs++rest) 0=F.lines fs:=by
 have h0:hIdx (dU u fs++rest) 0=((u.length+(F.lines fs).length:Nat):Int):=by
  unfold hIdx
  rw[List.drop_zero,yA]
  exact xX fs u rest h hu
 have ht:gX (dU u fs++rest) 0=u++13::10::F.lines fs:=by
  unfold gX
  rw[h0,List.drop_zero,yA]
  have e:u++13::10::(F.lines fs++13::10::rest)=(u++13::10::F.lines fs)++(13::10::rest):=by simp
  rw[e]
  refine List.take_left' ?_
  simp only[bC,List.length_cons]
  omega
 have hx:Lib.index (u++13::10::F.lines fs) aFX=((u.length:Nat):Int):=by
  have:=iG (t:=[10]) u (13::10::F.lines fs) 0 hu (aHB _)
  rw[Nat.add_zero]at this
  exact this
 refine⟨h0,?_,?_,?_,?_⟩
 ·unfold hE
  rw[h0,if_neg (by omega),if_neg (by omega)]
 ·unfold hN
  rw[h0,if_neg (by omega),oU]
  omega
 ·unfold oV
  rw[ht,hx,Int.toNat_natCast,List.take_left' rfl]
 ·unfold jT
  rw[ht,hx,Int.toNat_natCast]
  have e:u++13::10::F.lines fs=(u++[13,10])++F.lines fs:=by simp
  rw[e]
  exact List.drop_left' (by simp)
theorem aHJ (u:Bs) (fs:List FD) (h:fs.all F.okF=true) (hu:∀ y∈u,eol y=false) (hl:u.length+(F.lines fs).length+4≤8192) :
  hIdx ((dU u fs).take ((dU u fs).length - 1)) 0 < 0:=by
 have h0:=(xZ u fs [] h hu hl).1
 rw[List.append_nil]at h0
 have hlen:=oU u fs
 rcases aJX ((dU u fs).take ((dU u fs).length - 1)) 0 with h1 | ⟨i,h1,h2⟩
 ·exact h1
 ·rw[List.length_take]at h2
  have:=(aJW (b:=(dU u fs).take ((dU u fs).length - 1)) (b':=dU u fs) (m:=(dU u fs).length - 1) (by rw[List.take_take,Nat.min_self]) h1 (by omega) (by omega)).1
  omega
theorem whole_ok {l:Bs} {fs:List FD} (h:F.dP l fs=0):fs.all F.okF=true∧fs.length≤100∧l.length+(F.lines fs).length+4≤8192∧F.iR l fs=dU l fs:=by
 refine⟨?_,?_,?_,if_pos h⟩
 all_goals
  unfold F.dP at h
  split at h
  ·rename_i h1
   unfold F.dJ at h1
   split at h1
   ·rename_i h2
    split at h1
    ·cases h1
    ·split at h
     ·cases h
     ·first | exact h2 | omega
   ·cases h1
  ·rename_i h1
   exact absurd h h1
theorem aRN {n:Int} (h0:0≤n) (h1:n≤1):(n=0∧Lib.itoa n=[48])∨(n=1∧Lib.itoa n=[49]):=by
 rcases (by omega:n=0∨n=1) with rfl | rfl
 ·exact .inl ⟨rfl,by unfold Lib.itoa;rw[if_neg (by decide),show (0:Int).toNat=0 from rfl,Lib.decDigits];rfl⟩
 ·exact .inr ⟨rfl,by rw[aB3 1 (by decide)];decide⟩
theorem yU:∀ k:Fin 500,lY (low (k.1+100)).reverse=true∧stat (low (k.1+100)).reverse=((k.1+100:Nat):Int):=by decide +kernel
theorem aC9 {s:Int} (h0:100≤s) (h1:s≤599):lY (Lib.itoa s)=true∧stat (Lib.itoa s)=s:=by
 have h:=yU ⟨(s - 100).toNat,by omega⟩
 have e:(s - 100).toNat+100=s.natAbs:=by omega
 simp only[e]at h
 rw[aB3 s (by omega),if_neg (by omega),List.append_nil]
 exact⟨h.1,h.2.trans (by omega)⟩
theorem aKI {c:UInt8} (h:dig c=true):c≠13∧c≠10∧c≠32 :=
 ⟨fun e=>by subst e;exact absurd h (by decide),fun e=>by subst e;exact absurd h (by decide),fun e=>by subst e;exact absurd h (by decide)⟩
theorem iL {s:Int} {r:ByteArray} {v:Int} {fs:List FD} (h:F.gW s r v fs=0) (rest:Bs) :
  response (F.eQ s r v fs++rest)=⟨s,r,v,fs,((F.eQ s r v fs).length:Int),0⟩∧(F.eQ s r v fs).length≤8192∧0 < (F.eQ s r v fs).length∧response ((F.eQ s r v fs).take ((F.eQ s r v fs).length - 1))=.bad 0:=by
 have hB0:F.eQ s r v fs=F.iR (F.bG s r v) fs:=if_pos h
 rw[hB0]
 unfold F.gW at h
 split at h
 case isTrue=>cases h
 case isFalse hok =>
  split at h
  case isTrue=>cases h
  case isFalse hst =>
   obtain⟨h1,h2,h3,h4⟩:=whole_ok h
   rw[h4]
   have htx:F.text r=true:=by
    cases ht:F.text r with
    | true=>rfl
    | false=>exact absurd (.inr (.inr ht)) hok
   have k3:0≤v:=by
    rcases (by omega:v < 0∨0≤v) with h | h
    ·exact absurd (.inl h) hok
    ·exact h
   have k4:v≤1:=by
    rcases (by omega:1 < v∨v≤1) with h | h
    ·exact absurd (.inr (.inl h)) hok
    ·exact h
   obtain⟨c1,c2⟩:=aC9 (s:=s) (by omega) (by omega)
   obtain⟨d,hd,hdv⟩:∃ d:UInt8,Lib.itoa v=[d]∧((v=0∧d=48)∨(v=1∧d=49)):=by
    rcases aRN k3 k4 with ⟨e1,e2⟩ | ⟨e1,e2⟩
    ·exact⟨48,e2,.inl ⟨e1,rfl⟩⟩
    ·exact⟨49,e2,.inr ⟨e1,rfl⟩⟩
   have hline:F.bG s r v=[72,84,84,80,47,49,46,d]++32::(Lib.itoa s++32::L r):=by
    unfold F.bG
    rw[hd]
    simp
   generalize Lib.itoa s=cd at *
   have hcd:∀ y∈cd,dig y=true:=by
    have:=c1
    unfold lY at this
    rw[Bool.and_eq_true,List.all_eq_true]at this
    exact this.2
   have htr:∀ y∈L r,T.gJ y=true:=by
    have:=htx
    unfold F.text at this
    rwa [List.all_eq_true]at this
   have hpr:∀ y∈([72,84,84,80,47,49,46,d]:Bs),eol y=false∧sp y=false:=by
    rcases hdv with ⟨_,rfl⟩ | ⟨_,rfl⟩
    ·decide
    ·decide
   have hu:∀ y∈F.bG s r v,eol y=false:=by
    rw[hline]
    intro y hy
    have hy2:y∈([72,84,84,80,47,49,46,d]:Bs)∨y=32∨y∈cd∨y=32∨y∈L r:=by
     rcases List.mem_append.1 hy with h | h
     ·exact .inl h
     ·rcases List.mem_cons.1 h with h | h
      ·exact .inr (.inl h)
      ·rcases List.mem_append.1 h with h | h
       ·exact .inr (.inr (.inl h))
       ·rcases List.mem_cons.1 h with h | h
        ·exact .inr (.inr (.inr (.inl h)))
        ·exact .inr (.inr (.inr (.inr h)))
    rcases hy2 with hy | rfl | hy | rfl | hy
    ·exact (hpr y hy).1
    ·decide
    ·have:=aKI (hcd y hy)
     exact aFV this.1 this.2.1
    ·decide
    ·have:=aAZ (htr y hy)
     exact aFV this.1 this.2
   have hf:=xZ (F.bG s r v) fs rest h1 hu h3
   have e1:=mG sp [72,84,84,80,47,49,46,d] 32 (cd++32::L r) (fun y hy=>(hpr y hy).2) (by decide)
   have e2:=mG sp cd 32 (L r) (fun y hy=>by
    have:=(aKI (hcd y hy)).2.2
    unfold sp
    simpa using this) (by decide)
   have m1:methodOf (F.bG s r v)=[72,84,84,80,47,49,46,d]:=by rw[hline];exact e1.1
   have m2:behind (F.bG s r v)=cd++32::L r:=by
    rw[hline]
    unfold behind
    rw[e1.2]
    rfl
   have m3:methodOf (behind (F.bG s r v))=cd:=by rw[m2];exact e2.1
   have m4:behind (behind (F.bG s r v))=L r:=by
    rw[m2]
    unfold behind
    rw[e2.2]
    rfl
   have hve:sJ [72,84,84,80,47,49,46,d]=0∧aC0 [72,84,84,80,47,49,46,d]=v:=by
    rcases hdv with ⟨rfl,rfl⟩ | ⟨rfl,rfl⟩
    ·exact⟨by decide,by decide⟩
    ·exact⟨by decide,by decide⟩
   have hp:=uB fs [] h1 (by simpa using h2)
   rw[List.nil_append]at hp
   have hlen:=oU (F.bG s r v) fs
   refine⟨?_,by omega,by omega,?_⟩
   ·unfold response
    rw[hf.2.1,hf.2.2.1,hf.2.2.2.1,hf.2.2.2.2,if_neg (by omega)]
    unfold aE4
    rw[m1,m3,m4,B_L,c1,c2,htx,hve.1,hve.2,hp,if_neg (by simp),if_neg (by omega),if_neg (by decide),if_neg (fun h=>h rfl)]
   ·have hsh:=aHJ (F.bG s r v) fs h1 hu h3
    rw[aDJ hsh,hE_no hsh,if_pos (by rw[List.length_take];omega)]
end P
end Go.Proofs.YthjeglnkgdpijaaGreatDoor
