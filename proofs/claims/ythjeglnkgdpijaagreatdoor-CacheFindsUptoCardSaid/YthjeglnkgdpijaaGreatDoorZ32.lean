/- What the layers tok and fields compute, as plain functions on lists of bytes. What hop.Strip computes, and its document's twin; bounds by the bulk of the fields. A region that draws its order, whose last operations are forced and may write what the others read: the others are taken in one order under a condition on the world. A region that draws its order: some operations that come up in whatever order, each of which yields a value of which a predicate tells, and makes new memory at most: one goal for each operation, one goal behind them. Conditions: as each theorem states them. -/
import Derived.StillTail
import Derived.Below
import Derived.Deep.RegionHeld3
namespace Go.Proofs.YthjeglnkgdpijaaGreatDoor
def L (s:ByteArray):List UInt8:=s.data.toList
def B (l:List UInt8):ByteArray:=⟨l.toArray⟩
abbrev FD:=ByteArray × ByteArray
namespace T
abbrev Bs:=List UInt8
def lower (c:UInt8):UInt8:=if 65≤c.toNat∧c.toNat≤90 then c+32 else c
def fold (l:Bs):Bs:=l.map lower
def others:Bs:=[33,35,36,37,38,39,42,43,45,46,94,95,124,126,96]
def aCX (c:UInt8):Bool:=(48≤c.toNat&&c.toNat≤57)||(65≤c.toNat&&c.toNat≤90)||(97≤c.toNat&&c.toNat≤122)||others.contains c
def gJ (c:UInt8):Bool:=c.toNat==9||(32≤c.toNat&&c.toNat != 127)
def token (l:Bs):Bool:=l.all aCX&&!l.isEmpty
def blank (c:UInt8):Bool:=c.toNat==32||c.toNat==9
def qV (l:Bs):Bs:=(l.reverse.dropWhile blank).reverse
def trim (l:Bs):Bs:=qV (l.dropWhile blank)
def pieces (c:UInt8):Bool→Bs→Bs→List Bs
 | _,cur,[]=>[cur]
 | q,cur,x::r =>
  if q=true∧x=92 then
   match r with
   | []=>[cur++[x]]
   | y::r'=>pieces c q (cur++[x,y]) r'
  else if x=34 then pieces c (!q) (cur++[x]) r
  else if q=false∧x=c then cur::pieces c q [] r
  else pieces c q (cur++[x]) r
theorem vY {x:UInt8} (l:Bs) (h:blank x=false):qV (x::l)=x::qV l:=by
 unfold qV
 rw[List.reverse_cons]
 have:∀ m:Bs,((m++[x]).dropWhile blank)=(m.dropWhile blank)++[x]:=by
  intro m
  induction m with
  | nil=>simp [h]
  | cons y m ih =>
   simp only[List.cons_append,List.dropWhile_cons]
   split
   ·exact ih
   ·rfl
 rw[this]
 simp
theorem qU {x:UInt8} (l:Bs) (h:blank x=true):qV (x::l)=if qV l=[] then [] else x::qV l:=by
 unfold qV
 rw[List.reverse_cons]
 have:∀ m:Bs,((m++[x]).dropWhile blank)=if m.dropWhile blank=[] then [] else (m.dropWhile blank)++[x]:=by
  intro m
  induction m with
  | nil=>simp [h]
  | cons y m ih =>
   simp only[List.cons_append,List.dropWhile_cons]
   split
   ·exact ih
   ·simp
 rw[this]
 by_cases e:l.reverse.dropWhile blank=[]
 ·simp [e]
 ·simp [e]
theorem aAV:∀ l:Bs,qV (l.dropWhile blank)=(qV l).dropWhile blank
 | []=>rfl
 | x::l=>by
  have ih:=aAV l
  cases hb:blank x with
  | true =>
   rw[List.dropWhile_cons,if_pos hb,qU l hb]
   split
   ·rename_i e
    rw[ih,e]
   ·rw[List.dropWhile_cons,if_pos hb,ih]
  | false =>
   rw[List.dropWhile_cons,if_neg (by simp [hb]),vY l hb,List.dropWhile_cons,if_neg (by simp [hb])]
theorem aNT (c:UInt8):blank c=([32,9]:Bs).contains c:=by
 have:∀ y:UInt8,(c.toNat==y.toNat)=(c==y):=fun y=>by
  rw[Bool.eq_iff_iff];simp [UInt8.toNat_inj]
 have h1:=this 32
 have h2:=this 9
 simp only[List.contains_cons,List.contains_nil,Bool.or_false]
 rw[← h1,← h2];rfl
theorem yQ (l:Bs):(trim l).length≤l.length:=by
 have h1:∀ m:Bs,(m.dropWhile blank).length≤m.length:=fun m=>(List.dropWhile_sublist _).length_le
 unfold trim qV
 rw[List.length_reverse]
 have:=h1 (l.dropWhile blank).reverse
 have:=h1 l
 rw[List.length_reverse]at *
 omega
theorem jK (c:UInt8) (q:Bool) (cur:Bs) (x:UInt8) (r:Bs):pieces c q cur (x::r) =
  if q=true∧x=92 then
   match r with
   | []=>[cur++[x]]
   | y::r'=>pieces c q (cur++[x,y]) r'
  else if x=34 then pieces c (!q) (cur++[x]) r
  else if q=false∧x=c then cur::pieces c q [] r
  else pieces c q (cur++[x]) r:=by
 rw[pieces.eq_def]
 cases r<;>rfl
theorem jJ {l:Bs} {k f:Nat} (c:UInt8) (q:Bool) (h:k < l.length) (hf:f≤k) :
  pieces c q ((l.take k).drop f) (l.drop k) =
   if q=true∧l[k]=92 then pieces c q ((l.take (k+2)).drop f) (l.drop (k+2))
   else if l[k]=34 then pieces c (!q) ((l.take (k+1)).drop f) (l.drop (k+1))
   else if q=false∧l[k]=c then (l.take k).drop f::pieces c q ((l.take (k+1)).drop (k+1)) (l.drop (k+1))
   else pieces c q ((l.take (k+1)).drop f) (l.drop (k+1)):=by
 have h1:(l.take (k+1)).drop f=(l.take k).drop f++[l[k]]:=by
  rw[List.take_succ_eq_append_getElem h,List.drop_append_of_le_length (by simp;omega)]
 have h0:(l.take (k+1)).drop (k+1)=[]:=List.drop_of_length_le (List.length_take_le _ _)
 conv=>lhs;rw[List.drop_eq_getElem_cons h,jK]
 split
 ·rename_i hq
  by_cases h2:k+1 < l.length
  ·have e2:(l.take (k+2)).drop f=(l.take k).drop f++[l[k],l[k+1]]:=by
    rw[show k+2=(k+1)+1 from rfl,List.take_succ_eq_append_getElem h2,List.drop_append_of_le_length (by simp;omega),h1,List.append_assoc];rfl
   rw[List.drop_eq_getElem_cons h2,e2]
  ·have e2:l.drop (k+1)=[]:=List.drop_of_length_le (by omega)
   have e3:l.drop (k+2)=[]:=List.drop_of_length_le (by omega)
   have e4:l.take (k+2)=l.take (k+1):=by rw[List.take_of_length_le (by omega),List.take_of_length_le (by omega)]
   rw[e2,e3,e4,h1]
   simp [pieces]
 ·split
  ·rw[h1]
  ·split
   ·rw[h0]
   ·rw[h1]
theorem aGV {l:Bs} {k f:Nat} (c:UInt8) (q:Bool) (h:l.length≤k):pieces c q ((l.take k).drop f) (l.drop k)=[l.drop f]:=by
 rw[List.take_of_length_le h,List.drop_of_length_le h]
 simp [pieces]
theorem aMP {c:UInt8} (h:65≤c.toNat) (h':c.toNat≤90):lower c=c+32∧(lower c).toNat=c.toNat+32:=by
 unfold lower
 rw[if_pos ⟨h,h'⟩]
 refine⟨rfl,?_⟩
 rw[UInt8.toNat_add]
 show (c.toNat+32) % 256=_
 omega
theorem aMQ {c:UInt8} (h:¬ (65≤c.toNat∧c.toNat≤90)):lower c=c:=if_neg h
end T
theorem beqI (x y:UInt8):((x.toNat:Int)==(y.toNat:Int))=decide (x=y):=by
 rw[Bool.eq_iff_iff]
 simp only[beq_iff_eq,decide_eq_true_eq]
 constructor
 ·intro h;exact UInt8.toNat_inj.1 (by omega)
 ·rintro rfl;rfl
theorem gV {x y:UInt8} (h:x=y):((x.toNat:Int)==(y.toNat:Int))=true:=by rw[beqI,decide_eq_true h]
theorem fK {x y:UInt8} (h:¬ x=y):((x.toNat:Int)==(y.toNat:Int))=false:=by rw[beqI,decide_eq_false h]
namespace F
def is (f:FD) (name:ByteArray):Bool:=decide (T.fold (L f.1)=T.fold (L name))
def values (fs:List FD) (name:ByteArray):List ByteArray:=(fs.filter fun f=>is f name).map (·.2)
def split (c:UInt8) (s:ByteArray):List ByteArray:=(T.pieces c false [] (L s)).map fun p=>B (T.trim p)
def pieces (c:UInt8) (s:ByteArray):List ByteArray:=(T.pieces c false [] (L s)).map B
def list (s:ByteArray):List ByteArray:=(split 44 s).filter fun p=>!(L p).isEmpty
def tokens (fs:List FD) (name:ByteArray):List ByteArray:=(values fs name).flatMap fun v=>(list v).map fun el=>B (T.fold (L el))
def without (fs:List FD) (names:List ByteArray):List FD:=fs.filter fun f=>!(names.any fun n=>is f n)
def put (fs:List FD) (name v:ByteArray):List FD:=without fs [name]++[(name,v)]
theorem fJ {α:Type} (p:α→Bool) (l:List α) (k:Nat) (h:k < l.length):(l.take (k+1)).filter p=(l.take k).filter p++(if p l[k] then [l[k]] else []):=by
 rw[List.take_succ_eq_append_getElem h,List.filter_append]
 congr 1
 by_cases hp:p l[k]=true
 ·simp [hp]
 ·simp [hp]
theorem aC1 (fs:List FD) (name:ByteArray) (k:Nat) (h:k < fs.length):values (fs.take (k+1)) name=values (fs.take k) name++(if is fs[k] name then [fs[k].2] else []):=by
 unfold values
 rw[fJ _ _ _ h,List.map_append]
 congr 1
 by_cases hp:is fs[k] name=true
 ·simp [hp]
 ·simp [hp]
theorem aAR (fs:List FD) (name:ByteArray):(values fs name).length≤fs.length:=by
 unfold values
 rw[List.length_map]
 exact List.length_filter_le _ _
def toks (vs:List ByteArray):List ByteArray:=vs.flatMap fun v=>(list v).map fun el=>B (T.fold (L el))
theorem aIL (fs:List FD) (name:ByteArray):tokens fs name=toks (values fs name):=rfl
theorem aIK (vs:List ByteArray) (k:Nat) (h:k < vs.length):toks (vs.take (k+1))=toks (vs.take k)++(list vs[k]).map fun el=>B (T.fold (L el)):=by
 unfold toks
 rw[List.take_succ_eq_append_getElem h,List.flatMap_append]
 simp
theorem aO8 (vs:List ByteArray) (k:Nat):(toks (vs.take k)).length≤(toks vs).length:=by
 conv=>rhs;rw[← List.take_append_drop k vs]
 unfold toks
 rw[List.flatMap_append,List.length_append]
 omega
end F
namespace F
def bulk:List FD→Nat
 | []=>0
 | f::l=>f.1.size+f.2.size+1+bulk l
theorem vK:∀ l m:List FD,bulk (l++m)=bulk l+bulk m
 | [],m=>by simp [bulk]
 | f::l,m=>by simp only[List.cons_append,bulk,vK l m];omega
theorem bU:∀ l:List FD,l.length≤bulk l
 | []=>Nat.le_refl _
 | f::l=>by have:=bU l;simp only[List.length_cons,bulk];omega
theorem rU {f:FD}:∀ {l:List FD},f∈l→f.1.size+f.2.size+1≤bulk l
 | g::l,h=>by
  rcases List.mem_cons.1 h with rfl | h
  ·simp only[bulk];omega
  ·have:=rU h;simp only[bulk];omega
def nine:List ByteArray:=[⟨#[67,111,110,110,101,99,116,105,111,110]⟩,⟨#[75,101,101,112,45,65,108,105,118,101]⟩,⟨#[80,114,111,120,121,45,67,111,110,110,101,99,116,105,111,110]⟩,⟨#[80,114,111,120,121,45,65,117,116,104,101,110,116,105,99,97,116,101]⟩,⟨#[80,114,111,120,121,45,65,117,116,104,111,114,105,122,97,116,105,111,110]⟩,⟨#[84,69]⟩,⟨#[84,114,97,105,108,101,114]⟩,⟨#[84,114,97,110,115,102,101,114,45,69,110,99,111,100,105,110,103]⟩,⟨#[85,112,103,114,97,100,101]⟩]
def strip (fs:List FD):List FD:=without fs (tokens fs ⟨#[67,111,110,110,101,99,116,105,111,110]⟩++nine)
end F
open Go
section
variable {P:Program} {md:Region.Mode} {ops:Array Oper} {Q:Exit→Act→World→Prop} {S:World→Prop}
def wpT (P:Program) (md:Region.Mode) (ops:Array Oper) (Q:Exit→Act→World→Prop) (S:World→Prop) (n:Nat):Nat→Array Bool→Act→World→Prop
 | 0,listed,a,w=>Region.ready md ops listed=[]∧Q .normal a w
 | fuel+1,listed,a,w =>
  (Region.ready md ops listed=[]→Q .normal a w) ∧
  ∀ i∈Region.ready md ops listed,wpOp P ops Q i (fun a' w'=>(i < n→S w')∧wpT P md ops Q S n fuel (listed.setIfInBounds i true) a' w') a w
theorem wQ {n:Nat}:∀ (fuel:Nat) (listed:Array Bool) (a:Act) (w:World),wpT P md ops Q S n fuel listed a w→wpAny P md ops Q fuel listed a w
 | 0,_,_,_,h=>h
 | fuel+1,_,_,_,h=>⟨h.1,fun i hi=>wpOp_mono (fun a' w' h'=>wQ fuel _ a' w' h'.2) (h.2 i hi)⟩
theorem aID {n i:Nat} {oi:Oper} {v:Value} (hi:ops[i]?=some oi) (hsel:∀ (j:Nat) (o:Oper) cs b,ops[j]?=some o→o.op≠.select cs b)
  (hs:Region.sinkB md ops n=true) (hc:Region.chainB md ops n=true) (hn:n < ops.size) (hin:i < n)
  (hQ:∀ c a w,Q (.panic c) (a.put oi.dst v) w→Q (.panic c) a w) :
  ∀ (fuel:Nat) (listed:Array Bool) (a:Act) (w:World),HeadInv md ops n listed →
   (∀ j oj,ops[j]?=some oj→j≠i→listed.getD j true=false→(∀ e∈oj.after,Region.binds md e=true→e.on≠i)→oi.apart ops oj=true) →
   i∈Region.ready md ops listed→YieldsIf P ops S oi v a→S w →
   wpT P md ops Q S n fuel (listed.setIfInBounds i true) (a.put oi.dst v) w→wpT P md ops Q S n (fuel+1) listed a w:=by
 intro fuel
 induction fuel with
 | zero =>
  intro listed a w _ _ hr hy hS H
  refine⟨fun h=>(by rw[h]at hr;cases hr),fun j hj=>?_⟩
  by_cases hji:j=i
  ·subst hji;exact hy.wpOp hi hS ⟨fun _=>hS,H⟩
  ·have:=ready_mono hj hji
   rw[H.1]at this
   cases this
 | succ fuel ih =>
  intro listed a w inv hfree hr hy hS H
  have hun:=(mem_ready.1 hr).1
  refine⟨fun h=>(by rw[h]at hr;cases hr),fun j hj=>?_⟩
  have hjn:j < n:=by
   rcases Nat.lt_or_ge j n with h | h
   ·exact h
   ·exact absurd hj (tail_waits hs hc hn inv _ i rfl hin hun j h)
  by_cases hji:j=i
  ·subst hji;exact hy.wpOp hi hS ⟨fun _=>hS,H⟩
  ·have h1:=H.2 j (ready_mono hj hji)
   obtain⟨hjun,oj,hoj,hall⟩:=mem_ready.1 hj
   have hnot:∀ e∈oj.after,Region.binds md e=true→e.on≠i:=fun e he hb heq=>by
    have h1:=hall e he hb
    rw[heq,getD_both hun]at h1
    cases h1
   have h2:=wpOp_putIf hoj (hfree j oj hoj hji hjun hnot) (fun cs b=>hsel i oi cs b hi) (fun cs b=>hsel j oj cs b hoj) hQ hy h1
   have hfree':∀ k ok,ops[k]?=some ok→k≠i→(listed.setIfInBounds j true).getD k true=false →
     (∀ e∈ok.after,Region.binds md e=true→e.on≠i)→oi.apart ops ok=true:=fun k ok hk hki hun hno=>by
    refine hfree k ok hk hki ?_ hno
    by_cases hjk:j=k
    ·subst hjk;exact hjun
    ·rw[getD_set_ne true hjk]at hun;exact hun
   refine wpOp_mono (fun a' w' h3=>⟨fun _=>h3.2.1 hjn,ih (listed.setIfInBounds j true) a' w' (inv.set hj hjn) hfree' (ready_mono hr (Ne.symm hji)) h3.1 (h3.2.1 hjn) ?_⟩) h2
   rw[Array.setIfInBounds_comm _ _ hji]
   exact h3.2.2
def HT (P:Program) (ops:Array Oper) (Q:Exit→Act→World→Prop) (S:World→Prop) (n fuel:Nat) (listed:Array Bool) (a:Act) (w:World):Prop :=
 HeadInv .any ops n listed→S w→wpT P .any ops Q S n fuel listed a w
theorem HT.take {n fuel:Nat} {listed:Array Bool} {a:Act} {w:World} (i:Nat) {oi:Oper} (v:Value) (hi:ops[i]?=some oi)
  (hsc:(Region.noSelect ops&&Region.sinkB .any ops n&&Region.chainB .any ops n&&decide (n < ops.size)&&decide (i < n)&&Region.free .any ops listed i&&(Region.ready .any ops listed).contains i)=true)
  (hQ:∀ c a w,Q (.panic c) (a.put oi.dst v) w→Q (.panic c) a w) (hy:YieldsIf P ops S oi v a)
  (h:HT P ops Q S n fuel (listed.setIfInBounds i true) (a.put oi.dst v) w):HT P ops Q S n (fuel+1) listed a w:=by
 intro inv hS
 simp only[Bool.and_eq_true,decide_eq_true_eq]at hsc
 obtain⟨⟨⟨⟨⟨⟨h1,h2⟩,h3⟩,h4⟩,h5⟩,h6⟩,h7⟩:=hsc
 have hr:i∈Region.ready .any ops listed:=by simpa using h7
 exact aID hi (Region.noSelect_spec h1) h2 h3 h4 h5 hQ fuel listed a w inv (Region.free_spec hi h6) hr hy hS (h (inv.set hr h5) hS)
theorem HT.step {n fuel:Nat} {listed:Array Bool} {a:Act} {w:World} (i:Nat) {oi:Oper} (hi:ops[i]?=some oi)
  (hr:(decide (Region.ready .any ops listed=[i])&&decide (i < n))=true)
  (h:S w→∀ K':Act→World→Prop,Shut (∀ a w,S w→HT P ops Q S n fuel (listed.setIfInBounds i true) a w→K' a w)→if Region.wanted oi (yielded ops a.tmps)=true then Oper.wp P oi a w K' Q else K' (a.put oi.dst undef) w) :
  HT P ops Q S n (fuel+1) listed a w:=by
 intro inv hS
 simp only[Bool.and_eq_true,decide_eq_true_eq]at hr
 refine⟨fun h0=>(by rw[h0]at hr;cases hr.1),fun j hj=>?_⟩
 rw[hr.1]at hj
 obtain rfl:j=i:=by simpa using hj
 have hmem:j∈Region.ready .any ops listed:=by rw[hr.1];exact List.mem_singleton.2 rfl
 exact wpOp_step hi (fun K' hK=>h hS K' (fun a w hS' hW=>hK a w ⟨fun _=>hS',hW (inv.set hmem hr.2) hS'⟩))
theorem wP {n:Nat}:∀ (l:List Oper) (k:Nat) (listed:Array Bool) (a:Act) (w:World),n≤k→(∀ j,l[j]?=ops[k+j]?) →
  Region.seqB md ops l.length k listed=true→wpList P ops Q l a w→wpT P md ops Q S n l.length listed a w
 | [],_,_,_,_,_,_,hB,h=>⟨by simpa [Region.seqB] using hB,h⟩
 | o::l,k,listed,a,w,hnk,hl,hB,h=>by
  have h0:ops[k]?=some o:=by simpa using (hl 0).symm
  simp only[List.length_cons,Region.seqB,Bool.and_eq_true,decide_eq_true_eq]at hB
  refine⟨fun h1=>(by rw[hB.1]at h1;cases h1),fun i hi=>?_⟩
  rw[hB.1]at hi
  obtain rfl:i=k:=by simpa using hi
  have hw:wpOp P ops Q i (wpList P ops Q l) a w:=by unfold wpOp;simp only[h0];exact h
  exact wpOp_mono (fun a' w' h'=>⟨fun h=>absurd h (by omega),wP l (i+1) _ a' w' (by omega) (fun j=>by have:=hl (j+1);simpa [Nat.add_assoc,Nat.add_comm 1 j] using this) hB.2 h'⟩) hw
theorem HT.tail {n fuel:Nat} {listed:Array Bool} {a:Act} {w:World} (l:List Oper) (hl:l=ops.toList.drop n) (hf:fuel=l.length) (hB:Region.seqB .any ops l.length n listed=true)
  (h:S w→wpList P ops Q l a w):HT P ops Q S n fuel listed a w:=by
 intro _ hS
 subst hf
 exact wP l n listed a w (Nat.le_refl _) (fun j=>by rw[hl];simp [List.getElem?_drop]) hB (h hS)
theorem HT.begin {id n:Nat} {a:Act} {w:World} (hm:P.follows .mixedOrders=true) (hS:S w.drew)
  (h:HT P ops Q S n ops.size (Array.replicate ops.size false) a w.drew):(Code.region id ops true).wp P Q a w:=by
 refine wp_region_any hm (wQ _ _ _ _ (h ⟨by simp,fun j oj _ hl=>(by rw[getD_replicate_false]at hl;cases hl),fun t _ ht=>getD_in (by simpa using ht) (getD_replicate_false _ _)⟩ hS))
end
open Go.RowKit
section
variable {P:Program} {ops:Array Oper} {Q:Exit→Act→World→Prop} {S:World→Prop}
def jV (ops:Array Oper) (i:Nat):Option Tmp:=(ops[i]?).bind (·.dst)
def dO (ops:Array Oper) (a:Act) (M:List Nat) (vs:Nat→Value):Act:=M.foldl (fun a j=>a.put (jV ops j) (vs j)) a
def dW (M:List Nat) (listed:Array Bool):Array Bool:=M.foldl (fun l j=>l.setIfInBounds j true) listed
def aCN (ops:Array Oper) (M:List Nat):Nat→Array Bool→Bool
 | 0,listed=>M.all fun j=>listed.getD j false
 | k+1,listed=>!(Region.ready .any ops listed).isEmpty&&(Region.ready .any ops listed).all fun i=>M.contains i&&aCN ops M k (listed.setIfInBounds i true)
def apartB (ops:Array Oper):List Nat→Bool
 | []=>true
 | i::r=>(match jV ops i with | some d=>r.all fun j=>jV ops j != some d | none=>true)&&apartB ops r
theorem aPO (a:Act) (d:Option Tmp) (u v:Value):(a.put d u).put d v=a.put d v:=by
 cases d with
 | none=>rfl
 | some d=>simp [Act.put]
theorem aMC (a:Act) (d:Tmp):a.put (some d) (a.tmps.getD d undef)=a:=by
 obtain⟨t,f⟩:=a
 simp only[Act.put]
 congr 1
 apply Array.ext
 ·simp
 ·intro i h1 h2
  rw[Array.getElem_setIfInBounds (by simpa using h1)]
  split
  ·rename_i e;subst e;simp [Array.getD,h2]
  ·rfl
theorem aPP (a:Act) (d e:Option Tmp) (u v:Value) (h:∀ x,d=some x→e≠some x):(a.put d u).put e v=(a.put e v).put d u:=by
 cases d with
 | none=>rfl
 | some d =>
  cases e with
  | none=>rfl
  | some e =>
   have:d≠e:=fun h'=>h d rfl (by rw[h'])
   simp only[Act.put]
   rw[Array.setIfInBounds_comm _ _ this]
def upd (vs:Nat→Value) (i:Nat) (v:Value):Nat→Value:=fun j=>if j=i then v else vs j
theorem aFU (a:Act) (vs:Nat→Value) (d:Option Tmp) (v:Value):∀ M:List Nat,(∀ j∈M,∀ x,d=some x→jV ops j≠some x)→dO ops (a.put d v) M vs=(dO ops a M vs).put d v
 | [],_=>rfl
 | j::M,h=>by
  show dO ops ((a.put d v).put (jV ops j) (vs j)) M vs=(dO ops (a.put (jV ops j) (vs j)) M vs).put d v
  rw[aPP a d _ v _ (h j (by simp)),aFU (a.put (jV ops j) (vs j)) vs d v M (fun j hj=>h j (by simp [hj]))]
theorem yB (vs us:Nat→Value):∀ (M:List Nat) (a:Act),(∀ j∈M,vs j=us j)→dO ops a M vs=dO ops a M us
 | [],_,_=>rfl
 | j::M,a,h=>by
  show dO ops (a.put _ (vs j)) M vs=dO ops (a.put _ (us j)) M us
  rw[h j (by simp),yB vs us M _ (fun j hj=>h j (by simp [hj]))]
theorem aFT (vs:Nat→Value) (v:Value):∀ (M:List Nat) (a:Act) (i:Nat),i∈M→M.Nodup→apartB ops M=true→(dO ops a M vs).put (jV ops i) v=dO ops a M (upd vs i v)
 | j::M,a,i,hi,hn,ha=>by
  rw[List.nodup_cons]at hn
  simp only[apartB,Bool.and_eq_true]at ha
  show (dO ops (a.put (jV ops j) (vs j)) M vs).put (jV ops i) v=dO ops (a.put (jV ops j) (upd vs i v j)) M (upd vs i v)
  rcases List.mem_cons.1 hi with rfl | hi
  ·have hfar:∀ j∈M,∀ x,jV ops i=some x→jV ops j≠some x:=fun j hj x hx=>by
    have:=ha.1
    rw[hx]at this
    simpa using List.all_eq_true.1 this j hj
   rw[← aFU _ vs _ v M hfar,aPO,show upd vs i v i=v from if_pos rfl]
   exact yB _ _ M _ (fun k hk=>(if_neg (fun (e:k=i)=>hn.1 (by rw[← e];exact hk))).symm)
  ·have hne:j≠i:=fun e=>hn.1 (by rw[e];exact hi)
   rw[show upd vs i v j=vs j from if_neg hne]
   exact aFT vs v M _ i hi hn.2 ha.2
theorem aHT (ops:Array Oper) (a:Act):∀ M:List Nat,∃ vs,dO ops a M vs=a:=by
 intro M
 refine⟨fun j=>match jV ops j with | some d=>a.tmps.getD d undef | none=>undef,?_⟩
 induction M with
 | nil=>rfl
 | cons j M ih =>
  show dO ops (a.put (jV ops j) _) M _=a
  cases h:jV ops j with
  | none=>simpa [Act.put,h] using ih
  | some d=>simp only[h,aMC];exact ih
def aCW (P:Program) (ops:Array Oper) (Q:Exit→Act→World→Prop) (S:World→Prop) (R:Nat→Value→World→Prop) (M:List Nat) (lit:(Nat→Value)→Act) (i:Nat) (oi:Oper):Prop :=
 ∀ (vs:Nat→Value) (w:World),S w→(∀ j∈M,(oi.after.any fun e=>Region.binds .any e&&e.on==j)=true→R j (vs j) w) →
  ∀ K':Act→World→Prop,Shut (∀ v w',R i v w'→Below w.heap.size w w'→K' ((lit vs).put oi.dst v) w') →
   if Region.wanted oi (yielded ops (lit vs).tmps)=true then Oper.wp P oi (lit vs) w K' Q else K' ((lit vs).put oi.dst undef) w
theorem nD:∀ (M:List Nat) (l:Array Bool) (j:Nat),(dW M l).getD j false=(l.getD j false||(M.contains j&&decide (j < l.size)))
 | [],l,j=>by simp [dW]
 | i::M,l,j=>by
  show (dW M (l.setIfInBounds i true)).getD j false=_
  rw[nD M,List.contains_cons]
  by_cases hij:i=j
  ·subst hij
   by_cases hlt:i < l.size
   ·simp [hlt]
   ·simp [hlt]
  ·have:(j==i)=false:=by simpa using Ne.symm hij
   rw[this,getD_set_ne false hij]
   simp
theorem lI:∀ (M:List Nat) (l:Array Bool),(dW M l).size=l.size
 | [],_=>rfl
 | i::M,l=>by
  show (dW M (l.setIfInBounds i true)).size=_
  rw[lI M];simp
theorem aNS {R:Nat→Value→World→Prop} {n f0:Nat} {a0:Act} {listed0:Array Bool} {M:List Nat} {lit:(Nat→Value)→Act} (hlit:∀ vs,dO ops a0 M vs=lit vs)
  (hn:M.Nodup) (ha:apartB ops M=true) (hMn:∀ j∈M,j < n) (hSB:∀ w w',Below w.heap.size w w'→S w→S w') (hRB:∀ j v w w',Below w.heap.size w w'→R j v w→R j v w')
  (hs:∀ i∈M,∃ oi,ops[i]?=some oi∧aCW P ops Q S R M lit i oi)
  (hend:∀ vs w,S w→(∀ j∈M,R j (vs j) w)→HT P ops Q S n f0 (dW M listed0) (lit vs) w) :
  ∀ (k:Nat) (listed:Array Bool) (vs:Nat→Value) (w:World),aCN ops M k listed=true→HeadInv .any ops n listed→listed.size=listed0.size →
   (∀ j,j ∉ M→listed.getD j false=listed0.getD j false)→(∀ j∈M,listed0.getD j false=true→listed.getD j false=true) →
   (∀ j∈M,listed.getD j false=true→R j (vs j) w)→S w→wpT P .any ops Q S n (f0+k) listed (lit vs) w:=by
 intro k
 induction k with
 | zero =>
  intro listed vs w hb inv hsz hout _ hR hS
  have hall:∀ j∈M,listed.getD j false=true:=fun j hj=>by
   simp only[aCN]at hb
   exact List.all_eq_true.1 hb j hj
  have heq:listed=dW M listed0:=by
   apply Array.ext
   ·rw[lI,hsz]
   ·intro i h1 h2
    have e1:listed[i]=listed.getD i false:=by simp [Array.getD,h1]
    have e2:(dW M listed0)[i]=(dW M listed0).getD i false:=by simp [Array.getD,h2]
    rw[e1,e2,nD]
    by_cases hi:i∈M
    ·rw[hall i hi]
     have:i < listed0.size:=by rw[← hsz];exact h1
     simp [hi,this]
    ·rw[hout i hi];simp [hi]
  subst heq
  exact hend vs w hS (fun j hj=>hR j hj (hall j hj)) inv hS
 | succ k ih =>
  intro listed vs w hb inv hsz hout hin hR hS
  simp only[aCN,Bool.and_eq_true,Bool.not_eq_true',List.isEmpty_eq_false_iff]at hb
  refine⟨fun h0=>absurd h0 hb.1,fun i hi=>?_⟩
  have hbi:=List.all_eq_true.1 hb.2 i hi
  rw[Bool.and_eq_true,List.contains_iff_mem]at hbi
  obtain⟨hiM,hbk⟩:=hbi
  obtain⟨oi,hoi,hstep⟩:=hs i hiM
  obtain⟨_,oi',hoi',hdeps⟩:=mem_ready.1 hi
  have:oi'=oi:=Option.some.inj (hoi'.symm.trans hoi)
  subst this
  have hilt:i < listed.size:=by
   rw[inv.size]
   exact (Array.getElem?_eq_some_iff.1 hoi).1
  have hd:jV ops i=oi'.dst:=by unfold jV;rw[hoi];rfl
  refine wpOp_step hoi (fun K' hK=>hstep vs w hS (fun j hj he=>?_) K' ?_)
  ·rw[Array.any_eq_true']at he
   obtain⟨e,he,h2⟩:=he
   rw[Bool.and_eq_true,beq_iff_eq]at h2
   exact hR j hj (by rw[← h2.2];exact hdeps e he h2.1)
  ·intro v w' hRv hbel
   refine hK _ _ ⟨fun _=>hSB _ _ hbel hS,?_⟩
   rw[← hlit vs,← hd,aFT vs v M a0 i hiM hn ha,hlit]
   refine ih (listed.setIfInBounds i true) (upd vs i v) w' hbk (inv.set hi (hMn i hiM)) (by simpa using hsz) (fun j hj=>?_) (fun j hj h0=>getD_set_true (hin j hj h0)) (fun j hj hl=>?_) (hSB _ _ hbel hS)
   ·rw[getD_set_ne false (fun (e:i=j)=>hj (by rw[← e];exact hiM))];exact hout j hj
   ·by_cases hji:j=i
    ·subst hji
     rw[show upd vs j v j=v from if_pos rfl];exact hRv
    ·rw[show upd vs i v j=vs j from if_neg hji]
     rw[getD_set_ne false (Ne.symm hji)]at hl
     exact hRB j _ _ _ hbel (hR j hj hl)
theorem HT.block {n f0:Nat} {listed:Array Bool} {a0:Act} {w:World} (M:List Nat) (R:Nat→Value→World→Prop) (lit:(Nat→Value)→Act) (hlit:∀ vs,dO ops a0 M vs=lit vs)
  (hM:(decide M.Nodup&&apartB ops M&&M.all (fun j=>decide (j < n))&&M.all (fun j=>!listed.getD j false)&&aCN ops M M.length listed)=true)
  (hSB:∀ w w',Below w.heap.size w w'→S w→S w') (hRB:∀ j v w w',Below w.heap.size w w'→R j v w→R j v w')
  (hs:∀ i∈M,∃ oi,ops[i]?=some oi∧aCW P ops Q S R M lit i oi)
  (hend:∀ vs w,S w→(∀ j∈M,R j (vs j) w)→HT P ops Q S n f0 (dW M listed) (lit vs) w) :
  HT P ops Q S n (f0+M.length) listed a0 w:=by
 intro inv hS
 simp only[Bool.and_eq_true,decide_eq_true_eq]at hM
 obtain⟨⟨⟨⟨hn,ha⟩,hMn⟩,hl⟩,hb⟩:=hM
 obtain⟨vs,hvs⟩:=aHT ops a0 M
 rw[← hvs,hlit]
 refine aNS hlit hn ha (fun j hj=>of_decide_eq_true (List.all_eq_true.1 hMn j hj)) hSB hRB hs hend M.length listed vs w hb inv rfl (fun _ _=>rfl) (fun _ _ h=>h) (fun j hj h=>?_) hS
 have:=List.all_eq_true.1 hl j hj
 rw[h]at this
 cases this
end
end Go.Proofs.YthjeglnkgdpijaaGreatDoor
