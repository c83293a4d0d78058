/- The walks of tok: Fold, and of the document's Lower. The walks of tok.Trim, split, List, and of the document's Trim, Pieces, List. The walks of tok.List, and of the document's Trim and List. -/
import Derived.Test.YthjeglnkgdpijaaGreatDoorLib
import Derived.Test.YthjeglnkgdpijaaGreatDoorShelf
import Derived.Shelf.Strings.SlTrimAscii
set_option maxHeartbeats 1000000
namespace Go.Proofs.YthjeglnkgdpijaaGreatDoor
open Go.RowKit
theorem aI9 (l:List UInt8) (k:Nat) (h:k < l.length) (m:List UInt8) (hm:m=(l.take k).map T.lower++l.drop k) :
  m.length=l.length∧(∀ h':k < m.length,m[k]=l[k])∧m.set k (T.lower l[k])=(l.take (k+1)).map T.lower++l.drop (k+1):=by
 subst hm
 have hk:((l.take k).map T.lower).length=k:=by simp;omega
 refine⟨by simp;omega,fun h'=>?_,?_⟩
 ·rw[List.getElem_append_right (by omega)]
  simp only[hk,Nat.sub_self,List.getElem_drop,Nat.add_zero]
 ·rw[List.set_append_right _ _ (by omega),hk,Nat.sub_self,List.drop_eq_getElem_cons h,List.set_cons_zero,bI h,List.map_append,List.append_assoc]
  rfl
theorem aAQ {w:World} {p:Addr} {v:Value} (h:w.cell? p=some v):w.setCell p v=w:=by
 obtain⟨b,o,sp⟩:=p
 unfold World.cell? at h
 cases hb:w.heap[b]? with
 | none=>simp [hb]at h
 | some ob =>
  cases ob<;>simp [hb]at h
  case cells c e f =>
   have hlt:b < w.heap.size:=(Array.getElem?_eq_some_iff.1 hb).1
   have hbb:w.heap[b]=.cells c e f:=(Array.getElem?_eq_some_iff.1 hb).2
   obtain⟨hsp,hc⟩:=h
   unfold World.setCell
   have:w.heap.modify b (fun | .cells c elem frozen=>.cells (if sp.isSome then c else c.setIfInBounds o v) elem frozen | o=>o)=w.heap:=by
    apply Array.ext
    ·simp
    ·intro i h1 h2
     simp only[Array.getElem_modify]
     split
     ·rename_i e
      subst e
      rw[hbb]
      subst hsp
      show Obj.cells (c.setIfInBounds o v) e f=Obj.cells c e f
      congr 1
      obtain⟨ho,hv⟩:=Array.getElem?_eq_some_iff.1 hc
      apply Array.ext
      ·simp
      ·intro j hj1 hj2
       rw[Array.getElem_setIfInBounds (by simpa using hj1)]
       split
       ·rename_i e;subst e;exact hv.symm
       ·rfl
     ·rfl
   exact congrArg (fun h=>({ w with heap:=h }:World)) this
theorem qP (s:ByteArray) (w:World) (hs:s.size≤1099511627776) :
  Calls Tryz.prog 80 #[.string s] w (aDU w (B (T.fold (L s)))):=by
 obtain⟨c,m,W,hcv,hc,hbuf,hbel⟩:=aO2 w s
 have hsz:(L s).length=s.size:=(aQ s).symm
 have HZ:=aH hsz
 clear hsz
 go_enter Tryz.func80,Tryz.ntmps80
 go_wp2
 go_loopw [4,5,10] (fun _ _ i wr=>∃ k:Nat,k≤s.size∧i=.int .i64 k∧uV wr w.heap.size (((L s).take k).map T.lower++(L s).drop k) m∧Below w.heap.size w wr) (fun _ _ i _=>s.size - (intOf i).toNat)
 case atStart=>exact⟨0,zF _,rfl,by simpa using hbuf,hbel⟩
 case round =>
  clear hbuf hbel hcv
  obtain⟨k,hk,rfl,hbuf,hbel⟩:=hrel
  by_cases hlt:k < s.size
  ·obtain⟨e1,e2,e3⟩:=aI9 (L s) k (by rw[HZ.out];exact hlt) _ rfl
   have hkl:k < (((L s).take k).map T.lower++(L s).drop k).length:=by rw[e1,HZ.out];exact hlt
   have hcell:=hbuf.cell hkl
   rw[e2]at hcell
   have hfree:=hbuf.free hkl
   obtain⟨x,hx⟩:∃ x,x=(L s)[k]'(by rw[HZ.out];exact hlt):=⟨_,rfl⟩
   rw[← hx]at hcell e3
   have hset:=hbuf.set hkl (T.lower x)
   rw[e3]at hset
   have E:=aH (And.intro e1 e2)
   clear e1 e2 e3 hkl hx E
   by_cases hup:65≤x.toNat∧x.toNat≤90
   ·obtain⟨u1,u2⟩:=hup
    have hl:=(T.aLN u1 u2).2
    have hset':uV (wr.setCell ⟨w.heap.size,k,none⟩ (.int .u8 ((x.toNat:Int)+97 - 65))) w.heap.size (((L s).take (k+1)).map T.lower++(L s).drop (k+1)) m:=by
     rw[hl]at hset
     rw[show (x.toNat:Int)+97 - 65=((x.toNat+32:Nat):Int) from by omega]
     exact hset
    clear hl hset
    go_wp2
    go_roundw
    case rel=>exact⟨k+1,by omega,by go_num,hset',hbel.setCell (p:=⟨w.heap.size,k,none⟩) (zA _) _⟩
    case measure=>simp [intOf];omega
   ·have hl:=T.aLO hup
    rw[hl]at hset
    have hsame:wr.setCell ⟨w.heap.size,k,none⟩ (.int .u8 x.toNat)=wr:=aAQ hcell
    rw[hsame]at hset
    clear hl hsame
    by_cases h1:65≤x.toNat
    ·have h2:¬ x.toNat≤90:=fun h=>hup ⟨h1,h⟩
     clear hup
     go_wp2
     go_roundw
     case rel=>exact⟨k+1,by omega,by go_num,hset,hbel⟩
     case measure=>simp [intOf];omega
    ·clear hup
     go_wp2
     go_roundw
     case rel=>exact⟨k+1,by omega,by go_num,hset,hbel⟩
     case measure=>simp [intOf];omega
  ·have hks:k=s.size:=by omega
   have hrd:=hbuf.rd
   rw[hks]at hrd
   have hz:=HZ.out
   rw[List.take_of_length_le (by omega),List.drop_of_length_le (by omega),List.append_nil,List.length_map,hz]at hrd
   have hcv:=oI hrd c
   clear hks hrd hz
   go_wp2
   go_ret
   exact⟨rfl,hbel⟩
theorem aLL {α β:Type} (f:α→β) (l:List α) (k:Nat) (h:k < l.length):(l.take (k+1)).map f=(l.take k).map f++[f l[k]]:=by
 rw[bI h,List.map_append];rfl
theorem aNE (f:FD) (name:ByteArray) (w:World) (h1:f.1.size≤1099511627776) (h2:name.size≤1099511627776) :
  Calls Tryz.prog 123 #[.agg #[.string f.1,.string f.2],.string name] w (pR w (F.is f name)):=by
 go_enter Tryz.func123,Tryz.ntmps123
 go_wp2_with fail
 refine (qP _ _ h1).mono ?_
 rintro e w1 ⟨rfl,hb1⟩
 go_wp2_with fail
 refine (qP _ _ h2).mono ?_
 rintro e w2 ⟨rfl,hb2⟩
 go_wp2
 go_ret
 refine⟨aP ?_,((zB _ _).alloc (zA _) _).trans ((hb1.mono (by simp)).trans (hb2.mono (by have:=hb1.size;simp at this;omega)))⟩
 show (ByteArray.toList _==ByteArray.toList _)=_
 rw[eF]
 unfold F.is
 by_cases h:T.fold (L f.1)=T.fold (L name)
 ·rw[h];simp
 ·rw[decide_eq_false h,decide_eq_false (fun h'=>h (B_inj h'))]
theorem aKT (l:List UInt8):Lib.trimS l [32,9]=T.trim l:=by
 unfold Lib.trimS Lib.trimLeftS Lib.trimRightS T.trim
 have:T.blank=fun c=>([32,9]:List UInt8).contains c:=funext T.aMN
 rw[T.aAD,T.pX,this]
theorem aN0 (s:ByteArray) (w:World) (hs:s.size≤1099511627776):Calls Tryz.prog 88 #[.string s,.string ⟨#[32,9]⟩] w (aDU w (B (T.trim (L s)))):=by
 refine (Any.strings_Trim_laid Tryz.lays160 (by kernel_rfl) s ⟨#[32,9]⟩ w (by omega) (by decide) (ascii_of_all (by decide))).mono ?_
 rintro e w' ⟨rfl,hb⟩
 refine⟨?_,hb⟩
 rw[← aKT];rfl
theorem qK (s:ByteArray) (w:World) (hs:s.size≤1099511627776) :
  Calls Tryz.prog 159 #[.string s] w (aDU w (B (T.trim (L s)))):=by
 go_enter Tryz.func159,Tryz.ntmps159
 go_wp2_with fail
 refine (aN0 s w hs).mono ?_
 rintro e w1 ⟨rfl,hb1⟩
 go_wp2
 go_ret
 exact⟨rfl,hb1⟩
theorem xC (s:ByteArray) (a b:Nat):(s.extract a b).size≤s.size:=by
 rw[aQ,uU,aQ]
 simp only[List.length_take,List.length_drop]
 omega
def dC (c:UInt8) (l:List UInt8) (k f:Nat) (q:Bool) (done:List (List UInt8)):Prop :=
 f≤k∧f≤l.length∧k≤l.length+1∧T.pieces c false [] l=done++T.pieces c q ((l.take k).drop f) (l.drop k)
theorem dC.start (c:UInt8) (l:List UInt8):dC c l 0 0 false []:=⟨zA _,zF _,zF _,by simp⟩
theorem dC.esc {c:UInt8} {l:List UInt8} {k f:Nat} {done:List (List UInt8)} (h:dC c l k f true done) (hk:k < l.length) (hx:l[k]=92):dC c l (k+2) f true done:=by
 refine⟨by have:=h.1;omega,h.2.1,by omega,?_⟩
 rw[h.2.2.2,T.iW c true hk h.1,if_pos ⟨rfl,hx⟩]
theorem dC.quote {c:UInt8} {l:List UInt8} {k f:Nat} {q:Bool} {done:List (List UInt8)} (h:dC c l k f q done) (hk:k < l.length) (hx:l[k]=34):dC c l (k+1) f (!q) done:=by
 refine⟨by have:=h.1;omega,h.2.1,by omega,?_⟩
 rw[h.2.2.2,T.iW c q hk h.1,if_neg (by rw[hx];rintro⟨_,h⟩;cases h),if_pos hx]
theorem dC.cut {c:UInt8} {l:List UInt8} {k f:Nat} {done:List (List UInt8)} (h:dC c l k f false done) (hk:k < l.length) (h34:¬ l[k]=34) (hx:l[k]=c):dC c l (k+1) (k+1) false (done++[(l.take k).drop f]):=by
 refine⟨zA _,by omega,by omega,?_⟩
 rw[h.2.2.2,T.iW c false hk h.1,if_neg (by simp),if_neg h34,if_pos ⟨rfl,hx⟩,List.append_assoc];rfl
theorem dC.on {c:UInt8} {l:List UInt8} {k f:Nat} {q:Bool} {done:List (List UInt8)} (h:dC c l k f q done) (hk:k < l.length) (h92:¬ (q=true∧l[k]=92)) (h34:¬ l[k]=34) (hx:¬ (q=false∧l[k]=c)):dC c l (k+1) f q done:=by
 refine⟨by have:=h.1;omega,h.2.1,by omega,?_⟩
 rw[h.2.2.2,T.iW c q hk h.1,if_neg h92,if_neg h34,if_neg hx]
theorem dC.fin {c:UInt8} {l:List UInt8} {k f:Nat} {q:Bool} {done:List (List UInt8)} (h:dC c l k f q done) (hk:l.length≤k):T.pieces c false [] l=done++[l.drop f]:=by
 rw[h.2.2.2,T.aFX c q hk]
def trimmed (done:List (List UInt8)):List ByteArray:=done.map fun p=>B (T.trim p)
theorem aAB (done:List (List UInt8)) (p:List UInt8):trimmed (done++[p])=trimmed done++[B (T.trim p)]:=by simp [trimmed]
theorem aCI (done:List (List UInt8)):(trimmed done).length=done.length:=List.length_map _
def aMZ (c:UInt8) (s:ByteArray) (B0:Nat) (f:List (List UInt8)→List ByteArray) (o fr q i:Value) (wr:World):Prop :=
 ∃ (k m n:Nat) (b:Bool) (done:List (List UInt8)) (A:Option Addr) (d:Nat),i=.int .i64 k∧fr=.int .i64 m∧q=.bool b∧o=.slice A n d∧n=done.length∧n≤m∧dC c (L s) k m b done ∧
  Row wr B0 9 1 A n d (aC (f done))∧B0≤wr.heap.size
theorem aHY (s:ByteArray) (c:UInt8) (w:World) (hs:s.size≤1099511627776) :
  Calls Tryz.prog 124 #[.string s,.int .u8 c.toNat] w (dN w 9 1 (F.split c s).length (aC (F.split c s))):=by
 have HZ:Hid ((L s).length=s.size):=(aQ s).symm
 go_enter Tryz.func124,Tryz.ntmps124
 go_wp2
 go_loopw [5,6,7,8,15,25,32] (fun o fr q i _ _ _ wr=>aMZ c s w.heap.size trimmed o fr q i wr∧Below w.heap.size w wr) (fun _ _ _ i _ _ _ _=>s.size+1 - (intOf i).toNat)
 case atStart=>exact⟨⟨0,0,0,false,[],none,0,rfl,rfl,rfl,rfl,rfl,zA _,dC.start _ _,Row.none_ _ _ _ _,zA _⟩,zB _ _⟩
 case round =>
  obtain⟨⟨k,m,n,b,done,A,d,rfl,rfl,rfl,rfl,hn,hnm,hsp,hrow,hB0⟩,hbel⟩:=hrel
  have HN:=aH hn
  clear hn
  have hml:m≤s.size:=by have:=hsp.2.1;rw[HZ.out]at this;exact this
  have hmk:=hsp.1
  have hkl:k≤s.size+1:=by have:=hsp.2.2.1;rw[HZ.out]at this;exact this
  have HS:=aH hsp
  clear hsp
  by_cases hlt:k < s.size
  ·have hL:k < (L s).length:=by rw[HZ.out];exact hlt
   cases b with
   | true =>
    by_cases h92:(L s)[k]=92
    ·have e1:((s[k].toNat:Int)==92)=true:=fV h92
     have H92:=aH h92;clear h92
     go_wp2
     go_roundw
     case rel=>exact⟨⟨k+2,m,n,true,done,A,d,by go_num,rfl,rfl,rfl,HN.out,hnm,HS.out.esc hL H92.out,hrow,hB0⟩,hbel⟩
     case measure=>simp [intOf];omega
    ·have e1:((s[k].toNat:Int)==92)=false:=eY h92
     have H92:=aH h92;clear h92
     by_cases h34:(L s)[k]=34
     ·have e2:((s[k].toNat:Int)==34)=true:=fV h34
      have H34:=aH h34;clear h34
      go_wp2
      go_roundw
      case rel=>exact⟨⟨k+1,m,n,false,done,A,d,by go_num,rfl,rfl,rfl,HN.out,hnm,HS.out.quote hL H34.out,hrow,hB0⟩,hbel⟩
      case measure=>simp [intOf];omega
     ·have e2:((s[k].toNat:Int)==34)=false:=eY h34
      have H34:=aH h34;clear h34
      go_wp2
      go_roundw
      case rel=>exact⟨⟨k+1,m,n,true,done,A,d,by go_num,rfl,rfl,rfl,HN.out,hnm,HS.out.on hL (fun h=>H92.out h.2) H34.out (by simp),hrow,hB0⟩,hbel⟩
      case measure=>simp [intOf];omega
   | false =>
    by_cases h34:(L s)[k]=34
    ·have e2:((s[k].toNat:Int)==34)=true:=fV h34
     have H34:=aH h34;clear h34
     go_wp2
     go_roundw
     case rel=>exact⟨⟨k+1,m,n,true,done,A,d,by go_num,rfl,rfl,rfl,HN.out,hnm,HS.out.quote hL H34.out,hrow,hB0⟩,hbel⟩
     case measure=>simp [intOf];omega
    ·have e2:((s[k].toNat:Int)==34)=false:=eY h34
     have H34:=aH h34;clear h34
     by_cases hc:(L s)[k]=c
     ·have e3:((s[k].toNat:Int)==(c.toNat:Int))=true:=fV hc
      have HC:=aH hc;clear hc
      go_wp2_with fail
      refine (qK _ _ (bD (xC _ _ _) hs)).mono ?_
      rintro e w1 ⟨rfl,hb1⟩
      have hr1:=hrow.below hb1
      have hB1:=aA hB0 hbel hb1
      have hz1:=hb1.size
      clear hb1 hrow hbel
      go_wp2_with (at_builtin;refine aKJ _ rfl (.tmp 42) (.tmp 48) rfl w.heap.size A n d _ rfl (hr1.alloc _) _ 1 1 _ rfl (aLH _ _) (by omega) (by simp;omega) ?_;intro A1 c1 w2 hr2 ha2)
      go_roundw
      case rel =>
       refine⟨⟨k+1,k+1,n+1,false,_,A1,c1,by go_num,by go_num,rfl,rfl,?_,by omega,HS.out.cut hL H34.out HC.out,?_,?_⟩,?_⟩
       ·rw[HN.out];simp
       ·rw[aAB]
        have:L (s.extract m k)=((L s).take k).drop m:=by rw[uU,List.drop_take]
        rw[this]at hr2
        exact hr2
       ·have:=ha2.grown.size;simp at this;omega
       ·exact (hB1.alloc (by omega) _).trans (ha2.below (hr1.alloc _) (by simp;omega))
      case measure=>simp [intOf];omega
     ·have e3:((s[k].toNat:Int)==(c.toNat:Int))=false:=eY hc
      have HC:=aH hc;clear hc
      go_wp2
      go_roundw
      case rel=>exact⟨⟨k+1,m,n,false,done,A,d,by go_num,rfl,rfl,rfl,HN.out,hnm,HS.out.on hL (by simp) H34.out (fun h=>HC.out h.2),hrow,hB0⟩,hbel⟩
      case measure=>simp [intOf];omega
  ·have hfin:=HS.out.fin (by rw[HZ.out];omega)
   have HF:=aH hfin
   clear hfin
   go_wp2_with fail
   refine (qK _ _ (bD (xC _ _ _) hs)).mono ?_
   rintro e w1 ⟨rfl,hb1⟩
   have hr1:=hrow.below hb1
   have hB1:=aA hB0 hbel hb1
   have hz1:=hb1.size
   clear hb1 hrow hbel
   go_wp2_with (at_builtin;refine aKJ _ rfl (.tmp 52) (.tmp 57) rfl w.heap.size A n d _ rfl (hr1.alloc _) _ 1 1 _ rfl (aLH _ _) (by omega) (by simp;omega) ?_;intro A1 c1 w2 hr2 ha2)
   go_ret
   have hlast:trimmed done++[B (T.trim (L (s.extract m s.size)))]=F.split c s:=by
    unfold F.split
    rw[HF.out,List.map_append]
    have:L (s.extract m s.size)=(L s).drop m:=by rw[uU,List.take_of_length_le (by rw[List.length_drop,HZ.out];omega)]
    rw[this];rfl
   have hlen:n+1=(F.split c s).length:=by rw[← hlast,bC,aCI,HN.out];rfl
   refine⟨A1,c1,?_,?_,?_⟩
   ·rw[← hlen];rfl
   ·rw[← hlen,← hlast];exact hr2
   ·exact (hB1.alloc (by omega) _).trans (ha2.below (hr1.alloc _) (by simp;omega))
theorem aN2 (s:ByteArray) (w:World) (hs:s.size≤1099511627776) :
  Calls Tryz.prog 124 #[.string s,.int .u8 44] w (dN w 9 1 (F.split 44 s).length (aC (F.split 44 s))):=aHY s 44 w hs
theorem pieces_len (c:UInt8):∀ (n:Nat) (q:Bool) (cur l:List UInt8),l.length≤n→(T.pieces c q cur l).length≤l.length+1:=by
 intro n
 induction n with
 | zero =>
  intro q cur l h
  have:l=[]:=List.eq_nil_of_length_eq_zero (by omega)
  subst this
  simp [T.pieces]
 | succ n ih =>
  intro q cur l h
  cases l with
  | nil=>simp [T.pieces]
  | cons x r =>
   rw[T.iY]
   simp only[List.length_cons]at h ⊢
   split
   ·cases r with
    | nil=>simp
    | cons y r' =>
     have:=ih q (cur++[x,y]) r' (by simp at h;omega)
     simp only[List.length_cons];omega
   ·split
    ·have:=ih (!q) (cur++[x]) r (by omega);omega
    ·split
     ·have:=ih q [] r (by omega);simp only[List.length_cons];omega
     ·have:=ih q (cur++[x]) r (by omega);omega
theorem aAN (c:UInt8) (s:ByteArray):(F.split c s).length≤s.size+1:=by
 unfold F.split
 rw[List.length_map,aQ]
 exact pieces_len c _ _ _ _ (zA _)
theorem aEL (s:ByteArray):(F.list s).length≤s.size+1:=bD (List.length_filter_le _ _) (aAN 44 s)
def full (p:ByteArray):Bool:=!(L p).isEmpty
theorem aI6 {p:ByteArray} (h:full p=true):p.toList.isEmpty=false∧¬ p.toList=[]:=by
 unfold full at h
 rw[fD]
 cases hl:L p<;>simp [hl]at h ⊢
theorem aGM {p:ByteArray} (h:full p=false):p.toList.isEmpty=true∧p.toList=[]:=by
 unfold full at h
 rw[fD]
 cases hl:L p<;>simp [hl]at h ⊢
theorem aEM (s:ByteArray) (w:World) (hs:s.size≤1099511627776) :
  Calls Tryz.prog 82 #[.string s] w (dN w 9 1 (F.list s).length (aC (F.list s))):=by
 go_enter Tryz.func82,Tryz.ntmps82
 go_wp2_with fail
 refine (aN2 s _ hs).mono ?_
 rintro e w1 ⟨X,d,rfl,hX,hb1⟩
 have hle:=aAN 44 s
 obtain⟨ps,hps⟩:∃ ps,ps=F.split 44 s:=⟨_,rfl⟩
 have hfin:F.list s=ps.filter full:=by rw[hps];rfl
 rw[← hps]at hX hle ⊢
 obtain⟨n,hn⟩:∃ n,n=ps.length:=⟨_,rfl⟩
 rw[← hn]at hX hle ⊢
 have HP:=aH hps;clear hps
 have HN:=aH hn;clear hn
 have HF:=aH hfin;clear hfin
 have hx:=hX.rd
 clear hX
 go_wp2
 go_loopw [3,5,9] (fun o _ i wr=>∃ (k m:Nat) (A:Option Addr) (c:Nat),k≤n∧m≤k∧i=.int .i64 k∧o=.slice A m c∧m=((ps.take k).filter full).length∧Row wr w1.heap.size 9 1 A m c (aC ((ps.take k).filter full))∧Below w1.heap.size w1 wr) (fun _ _ i _=>n - (intOf i).toNat)
 case atStart=>exact⟨0,0,none,0,zF _,zA _,rfl,rfl,rfl,Row.none_ _ _ _ _,zB _ _⟩
 case round =>
  obtain⟨k,m,A,c,hk,hmk,rfl,rfl,hm,hrow,hbel⟩:=hrel
  have HM:=aH hm
  clear hm
  by_cases hlt:k < n
  ·obtain⟨b,o,rfl,hb,c1⟩:=(hx.below hbel).str hlt HN.out.symm
   have hv:=F.eX full ps k (by rw[← HN.out];exact hlt)
   obtain⟨x,hxk⟩:∃ x,x=ps[k]'(by rw[← HN.out];exact hlt):=⟨_,rfl⟩
   rw[← hxk]at hv c1
   clear hxk
   rcases tf (full x) with hfx | hfx
   ·obtain⟨f1,f2⟩:=aI6 hfx
    rw[hfx]at hv
    have hv':((ps.take (k+1)).filter full)=((ps.take k).filter full)++[x]:=by simpa using hv
    have HV:=aH hv'
    clear hv'
    clear hv hfx
    go_wp2_with (at_builtin;refine aKJ _ rfl (.tmp 15) (.tmp 17) rfl w1.heap.size A m c _ rfl (hrow.alloc _) _ 1 1 [x] rfl (aLH _ _) (by omega) (by have:=hbel.size;simp;omega) ?_;intro A1 c1 w2 hr2 ha2)
    go_roundw
    case rel =>
     refine⟨k+1,m+1,A1,c1,by omega,by omega,by go_num,rfl,?_,?_,?_⟩
     ·rw[HV.out,bC,HM.out];rfl
     ·rw[HV.out];exact hr2
     ·exact (hbel.alloc hbel.size _).trans (ha2.below (hrow.alloc _) (by have:=hbel.size;simp;omega))
    case measure=>simp [intOf];omega
   ·obtain⟨f1,f2⟩:=aGM hfx
    rw[hfx]at hv
    have hv':((ps.take (k+1)).filter full)=((ps.take k).filter full):=by simpa using hv
    have HV:=aH hv'
    clear hv'
    clear hv hfx
    go_wp2
    go_roundw
    case rel=>exact⟨k+1,m,A,c,by omega,by omega,by go_num,rfl,by rw[HV.out,HM.out],by rw[HV.out];exact hrow,hbel⟩
    case measure=>simp [intOf];omega
  ·have ht:ps.take k=ps:=List.take_of_length_le (by have:=HN.out;omega)
   rw[ht]at hrow
   have HM2:Hid (m=(F.list s).length):=by have:=HM.out;rw[ht]at this;rw[HF.out];exact this
   clear ht HM
   go_wp2
   go_ret
   refine⟨A,c,?_,?_,hb1.trans (hbel.mono hb1.size)⟩
   ·rw[← HM2.out];rfl
   ·rw[← HM2.out,HF.out];exact hrow.mono hb1.size
end Go.Proofs.YthjeglnkgdpijaaGreatDoor
