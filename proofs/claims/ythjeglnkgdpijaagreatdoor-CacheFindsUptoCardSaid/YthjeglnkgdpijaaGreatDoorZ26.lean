/- The log's records: what is written is read back, one by one and all of them. The ring of a bounded table in memory: what links its nodes, what taking one out and putting one in front do to it. Plain lemmas. What the laws' first script answers; the room of a disk stays; what a script of Puts keeps. Conditions: as each theorem states them. -/
import Derived.Test.YthjeglnkgdpijaaGreatDoorZ29
namespace Go.Proofs.YthjeglnkgdpijaaGreatDoor
namespace R
theorem lD {r:Rc} (h:code r=0):(r.op=1∨r.op=2)∧0≤r.seq∧r.seq≤4294967295∧0≤r.no∧r.no≤4294967295∧r.id.size≤4096:=by
 unfold code at h
 split at h
 ·rename_i h1
  split at h
  ·rename_i h2
   unfold word at h1
   simp only[Bool.and_eq_true,Bool.or_eq_true,decide_eq_true_eq]at h1
   exact⟨h1.1.1,h1.1.2.1,h1.1.2.2,h1.2.1,h1.2.2,h2⟩
  ·cases h
 ·cases h
theorem aAK {seq op no:Int} {id:ByteArray} (h1:op=1∨op=2) (h2:0≤seq∧seq≤4294967295) (h3:0≤no∧no≤4294967295) (h4:id.size≤4096):code ⟨seq,op,no,id⟩=0:=by
 rw[aKR h1 (decide_eq_true h2) (decide_eq_true h3),if_pos h4]
theorem drop_at {a b:List UInt8} {k:Nat} (h:a.length=k):(a++b).drop k=b:=by
 rw[← h]
 exact List.drop_left
theorem take_at {a b:List UInt8} {k:Nat} (h:a.length=k):(a++b).take k=a:=by
 rw[← h]
 exact List.take_left
theorem dec_enc {r:Rc} (h:code r=0) (rest:List UInt8):dec (enc r++rest)=(r,r.id.size+15,0):=by
 obtain⟨h1,h2,h3,h4,h5,h6⟩:=lD h
 rw[enc_good h]
 generalize hS:beN (iP (body r)) 4=S
 have hSl:S.length=4:=by rw[← hS,aP]
 have hSv:O.val S=iP (body r):=by
  rw[← hS]
  exact O.jY (sO _)
 unfold body at hSv ⊢
 generalize hA:beN r.id.size 2=A at *
 generalize hQ:beN r.seq.toNat 4=Q at *
 generalize hN:beN r.no.toNat 4=N at *
 have hAl:A.length=2:=by rw[← hA,aP]
 have hQl:Q.length=4:=by rw[← hQ,aP]
 have hNl:N.length=4:=by rw[← hN,aP]
 have hAv:O.val A=r.id.size:=by rw[← hA];exact O.jY (by omega)
 have hQv:O.val Q=r.seq.toNat:=by rw[← hQ];exact O.jY (by omega)
 have hNv:O.val N=r.no.toNat:=by rw[← hN];exact O.jY (by omega)
 have hil:(L r.id).length=r.id.size:=(aS r.id).symm
 generalize hx:UInt8.ofNat (192+r.op.toNat)=x at *
 have e:(x::(A++(Q++(N++L r.id))))++S++rest=x::(A++(Q++(N++(L r.id++(S++rest))))):=by simp
 rw[e]
 have hl:(x::(A++(Q++(N++(L r.id++(S++rest)))))).length=r.id.size+15+rest.length:=by
  simp only[List.length_cons,bC]
  omega
 have t1:((x::(A++(Q++(N++(L r.id++(S++rest)))))).drop 1).take 2=A:=by
  rw[List.drop_one,List.tail_cons,take_at hAl]
 have t2:((x::(A++(Q++(N++(L r.id++(S++rest)))))).drop (r.id.size+11)).take 4=S:=by
  rw[show x::(A++(Q++(N++(L r.id++(S++rest)))))=(x::(A++(Q++(N++L r.id))))++(S++rest) by simp,drop_at (by simp only[List.length_cons,bC];omega),take_at hSl]
 have t3:(x::(A++(Q++(N++(L r.id++(S++rest)))))).take (r.id.size+11)=x::(A++(Q++(N++L r.id))):=by
  rw[show x::(A++(Q++(N++(L r.id++(S++rest)))))=(x::(A++(Q++(N++L r.id))))++(S++rest) by simp,take_at (by simp only[List.length_cons,bC];omega)]
 have t4:((x::(A++(Q++(N++(L r.id++(S++rest)))))).drop 3).take 4=Q:=by
  rw[show x::(A++(Q++(N++(L r.id++(S++rest)))))=(x::A)++(Q++(N++(L r.id++(S++rest)))) by simp,drop_at (by simp only[List.length_cons];omega),take_at hQl]
 have t5:((x::(A++(Q++(N++(L r.id++(S++rest)))))).drop 7).take 4=N:=by
  rw[show x::(A++(Q++(N++(L r.id++(S++rest)))))=(x::(A++Q))++(N++(L r.id++(S++rest))) by simp,drop_at (by simp only[List.length_cons,bC];omega),take_at hNl]
 have t6:((x::(A++(Q++(N++(L r.id++(S++rest)))))).drop 11).take r.id.size=L r.id:=by
  rw[show x::(A++(Q++(N++(L r.id++(S++rest)))))=(x::(A++(Q++N)))++(L r.id++(S++rest)) by simp,drop_at (by simp only[List.length_cons,bC];omega),take_at hil]
 have hxop:(x.toNat:Int) - 192=r.op∧(x=193∨x=194):=by
  rw[← hx]
  rcases h1 with h1 | h1
  ·rw[h1];exact⟨rfl,.inl rfl⟩
  ·rw[h1];exact⟨rfl,.inr rfl⟩
 unfold dec
 rw[if_neg (by rw[hl];omega),if_neg (by simp only[List.headD_cons];rcases hxop.2 with h | h<;>simp [h]),if_neg (by rw[hl];omega),t1,hAv,if_neg (by omega),if_neg (by rw[hl];omega),t2,t3,hSv,if_neg (by simp),t4,t5,t6,hQv,hNv]
 have hid:B (L r.id)=r.id:=by
  apply D.L_inj
  rw[L_B]
 rw[hid,List.headD_cons,hxop.1,Int.toNat_of_nonneg h2,Int.toNat_of_nonneg h4]
def encs (rs:List Rc):List UInt8:=rs.flatMap enc
def aR9:Nat→List Rc→Prop
 | _,[]=>True
 | k,r::t=>r.seq=k∧aR9 (k+1) t
structure Good (rs:List Rc):Prop where
 code:∀ r∈rs,R.code r=0
 seq:aR9 0 rs
theorem sW:∀ {rs:List Rc} {k:Nat} {r:Rc},aR9 k rs→r.seq=((k+rs.length:Nat):Int)→aR9 k (rs++[r])
 | [],k,r,_,h=>⟨by simpa using h,trivial⟩
 | x::t,k,r,h,hr=>⟨h.1,sW h.2 (by rw[hr,List.length_cons];congr 1;omega)⟩
theorem aFI:∀ (rs:List Rc),(∀ r∈rs,code r=0)→rs.length≤(encs rs).length∧(encs rs).length≤4111 * rs.length
 | [],_=>⟨zA _,zA _⟩
 | r::t,h=>by
  obtain⟨h1,h2⟩:=aFI t (fun x hx=>h x (List.mem_cons_of_mem _ hx))
  have h3:=aAB r (h r (by simp))
  have h4:=(lD (h r (by simp))).2.2.2.2.2
  unfold encs at *
  rw[List.flatMap_cons,bC,List.length_cons]
  omega
def jG:Nat→List Rc→List Rc
 | _,[]=>[]
 | k,r::t=>{ r with seq:=k }::jG (k+1) t
theorem tH:∀ (k:Nat) (l:List Rc),(jG k l).length=l.length
 | _,[]=>rfl
 | k,_::t=>congrArg (·+1) (tH (k+1) t)
theorem aBG:∀ (k:Nat) (l:List Rc),aR9 k (jG k l)
 | _,[]=>trivial
 | k,_::t=>⟨rfl,aBG (k+1) t⟩
theorem xI:∀ (l:List Rc) (k:Nat),(∀ r∈l,r.seq=0∧code r=0)→k+l.length≤4294967295→∀ r∈jG k l,code r=0
 | [],_,_,_,r,hr=>by cases hr
 | x::t,k,h,hk,r,hr=>by
  simp only[List.length_cons]at hk
  rcases List.mem_cons.1 hr with rfl | hr
  ·obtain⟨h1,h2,h3,h4,h5,h6⟩:=lD (h x (by simp)).2
   exact aAK h1 (by omega) ⟨h4,h5⟩ h6
  ·exact xI t (k+1) (fun y hy=>h y (List.mem_cons_of_mem _ hy)) (by omega) r hr
theorem qH:∀ (l:List Rc) (k:Nat) (b:List UInt8),(∀ r∈jG k l,code r=0)→bH l k b=(b++encs (jG k l),0)
 | [],_,b,_=>by simp [bH,encs,jG]
 | r::t,k,b,h=>by
  have h0:code { r with seq:=(k:Int) }=0:=h _ (by simp [jG])
  rw[bH,h0,if_neg (by decide),qH t (k+1) _ (fun x hx=>h x (by rw[jG];exact List.mem_cons_of_mem _ hx)),jG]
  unfold encs
  rw[List.flatMap_cons,List.append_assoc]
end R
namespace S
def aC3 (t:D.NM) (r:R.Rc):D.NM:=if r.op=1 then D.put t r.id r.no.toNat else D.del t r.id
theorem wZ (rs:List R.Rc) (r:R.Rc):aIQ (rs++[r])=aC3 (aIQ rs) r:=by
 unfold aIQ
 rw[List.foldl_append]
 rfl
theorem aMD:∀ {l:D.NM} {nm:ByteArray} {no:Nat},(∀ p∈l,D.ltB p.1 nm=true)→D.put l nm no=l++[(nm,no)]:=by
 intro l nm no h
 have e1:D.del l nm=l:=by
  unfold D.del
  rw[List.filter_eq_self]
  intro p hp
  have:=h p hp
  simp only[decide_eq_true_eq]
  intro e
  rw[e,D.lt_irrefl]at this
  cases this
 unfold D.put
 rw[e1]
 clear e1
 induction l with
 | nil=>rfl
 | cons p r ih =>
  have h1:=h p (by simp)
  rw[D.ins,if_neg,ih (fun q hq=>h q (List.mem_cons_of_mem _ hq))]
  ·rfl
  ·intro h2
   have:=D.lt_trans h1 h2
   rw[D.lt_irrefl]at this
   cases this
theorem aEZ:∀ (t acc:D.NM) (k:Nat),D.Up (acc++t)→(R.jG k (records t)).foldl aC3 acc=acc++t
 | [],acc,k,_=>by simp [records,R.jG]
 | p::r,acc,k,h=>by
  have h1:=List.pairwise_append.1 h
  have e:aC3 acc { (⟨0,1,p.2,p.1⟩:R.Rc) with seq:=(k:Int) }=acc++[p]:=by
   unfold aC3
   rw[if_pos rfl]
   show D.put acc p.1 ((p.2:Int)).toNat=_
   rw[aMD (fun q hq=>h1.2.2 q hq p (by simp)),Int.toNat_natCast]
  show (R.jG (k+1) (records r)).foldl aC3 (aC3 acc _)=_
  rw[e,aEZ r (acc++[p]) (k+1) (by rw[List.append_assoc];exact h)]
  simp
theorem aC5 {t:D.NM} (h:D.Up t):aIQ (R.jG 0 (records t))=t:=by
 have:=aEZ t [] 0 h
 rw[List.nil_append]at this
 exact this
theorem aBH {t:D.NM} (ht:∀ p∈t,p.2 < 4096∧p.1.size≤4096) (hl:t.length≤4294967295):R.Good (R.jG 0 (records t)):=by
 refine⟨R.xI _ 0 ?_ ?_,R.aBG _ _⟩
 ·intro r hr
  obtain⟨p,hp,rfl⟩:=List.mem_map.1 hr
  have:=ht p hp
  exact⟨rfl,R.aAK (.inl rfl) (by decide) (by omega) this.2⟩
 ·unfold records
  rw[List.length_map]
  omega
end S
open Go Go.RowKit Go.Maps
namespace Lr
abbrev tT:TypeId:=124
abbrev nT:TypeId:=122
def nx (a:Addr):Addr:=⟨a.block,a.off+12,none⟩
def pv (a:Addr):Addr:=⟨a.block,a.off+11,none⟩
def Fr (w:World) (b:Nat) (t:TypeId):Prop:=∃ cs,Blk w b cs t
section
variable {w w':World} {b t i j:Nat} {T:TypeId} {l:List It} {x:It} {a:Addr} {v:Value}
theorem Fr.free (h:Fr w b T) (i:Nat):w.frozen? ⟨b,i,none⟩=false:=by
 obtain⟨cs,h⟩:=h
 exact h.free i
theorem Fr.lt (h:Fr w b T):b < w.heap.size:=by
 obtain⟨cs,h⟩:=h
 exact h.lt
theorem Fr.tag (h:Fr w b T):Tag w b T:=by
 obtain⟨cs,h⟩:=h
 exact h.tag
theorem Fr.set (h:Fr w b T) (k i:Nat) (v:Value):Fr (w.setCell ⟨k,i,none⟩ v) b T:=by
 obtain⟨cs,h⟩:=h
 by_cases e:k=b
 ·subst e
  exact⟨_,h.set i v⟩
 ·exact⟨_,h.far i v e⟩
theorem Fr.same (h:Fr w b T) (hb:w'.heap[b]?=w.heap[b]?):Fr w' b T:=by
 obtain⟨cs,h⟩:=h
 exact⟨cs,hb.trans h⟩
structure Ring (t:Nat) (l:List It) (w:World):Prop where
 link:∀ i,i≤l.length→w.cell? (nx (adr t l i))=some (.pointer (some (adr t l (i+1))))∧w.cell? (pv (adr t l (i+1)))=some (.pointer (some (adr t l i)))
 tb:Fr w t tT
 nd:∀ y∈l,Fr w y.k nT
 apart:(t::l.map (·.k)).Nodup
theorem aAN:(adr t l i).off=3∧(adr t l i).block=t∨∃ y∈l,adr t l i=⟨y.k,0,none⟩:=by
 cases i with
 | zero=>exact .inl ⟨rfl,rfl⟩
 | succ i =>
  by_cases h:i < l.length
  ·exact .inr ⟨_,List.getElem_mem h,fP h⟩
  ·left
   rw[jS,List.getElem?_eq_none (by omega)]
   exact⟨rfl,rfl⟩
theorem Ring.ne (h:Ring t l w) {y:It} (hy:y∈l):y.k≠t:=fun e=>(List.nodup_cons.1 h.apart).1 (List.mem_map.2 ⟨y,hy,e⟩)
theorem iW (h:(t::l.map (·.k)).Nodup) (hi:i≤l.length) (hj:j≤l.length) (e:(adr t l i).block=(adr t l j).block):i=j:=by
 obtain⟨h1,h2⟩:=List.nodup_cons.1 h
 have hn:∀ {i:Nat} (hi:i < l.length),(l[i]'hi).k≠t:=fun hi e=>h1 (List.mem_map.2 ⟨_,List.getElem_mem hi,e⟩)
 cases i with
 | zero =>
  cases j with
  | zero=>rfl
  | succ j =>
   rw[fP (show j < l.length by omega)]at e
   exact absurd e.symm (hn _)
 | succ i =>
  cases j with
  | zero =>
   rw[fP (show i < l.length by omega)]at e
   exact absurd e (hn _)
  | succ j =>
   rw[fP (show i < l.length by omega),fP (show j < l.length by omega)]at e
   have hi':i < (l.map (·.k)).length:=by rw[List.length_map];omega
   have hj':j < (l.map (·.k)).length:=by rw[List.length_map];omega
   have:=(List.getElem?_inj (j:=j) hi' h2).1 (by rw[List.getElem?_eq_getElem hi',List.getElem?_eq_getElem hj',List.getElem_map,List.getElem_map];exact congrArg some e)
   omega
theorem aF1:adr t l (l.length+1)=adr t l 0:=aEK
theorem pU (h:(t::l.map (·.k)).Nodup) (hi:i≤l.length) (hj:j≤l.length) (e:(adr t l (i+1)).block=(adr t l (j+1)).block):i=j:=by
 by_cases h1:i=l.length
 ·by_cases h2:j=l.length
  ·omega
  ·rw[h1,aF1]at e
   have:=iW h (zF _) (show j+1≤l.length by omega) e
   omega
 ·by_cases h2:j=l.length
  ·rw[h2,aF1]at e
   have:=iW h (show i+1≤l.length by omega) (zF _) e
   omega
  ·have:=iW h (show i+1≤l.length by omega) (show j+1≤l.length by omega) e
   omega
theorem aGZ {a b:Addr} (h:a.block≠b.block):nx a≠nx b:=fun e=>h (show (nx a).block=(nx b).block by rw[e])
theorem aGR {a b:Addr} (h:a.block≠b.block):pv a≠pv b:=fun e=>h (show (pv a).block=(pv b).block by rw[e])
theorem aRJ (h:(t::l.map (·.k)).Nodup):nx (adr t l i)≠pv (adr t l j):=by
 intro e
 have e1:(adr t l i).block=(adr t l j).block:=show (nx (adr t l i)).block=(pv (adr t l j)).block by rw[e]
 have e2:(adr t l i).off+12=(adr t l j).off+11:=show (nx (adr t l i)).off=(pv (adr t l j)).off by rw[e]
 have hn:∀ y∈l,y.k≠t:=fun y hy e=>(List.nodup_cons.1 h).1 (List.mem_map.2 ⟨y,hy,e⟩)
 rcases aAN (t:=t) (l:=l) (i:=i) with ⟨o1,b1⟩ | ⟨y,hy,f⟩<;>rcases aAN (t:=t) (l:=l) (i:=j) with ⟨o2,b2⟩ | ⟨z,hz,g⟩
 ·omega
 ·rw[b1,g]at e1
  exact hn z hz e1.symm
 ·rw[b2,f]at e1
  exact hn y hy e1
 ·rw[f,g]at e2
  change 0+12=0+11 at e2
  omega
theorem aG {a b:Addr} (h:a≠b) (v:Value):(w.setCell a v).cell? b=w.cell? b:=World.cell?_setCell_other _ _ _ _ h
theorem fC {a:Addr} {u:Value} (h:w.cell? a=some u) (v:Value):(w.setCell a v).cell? a=some v:=World.cell?_setCell_same _ _ _ h
theorem Fr.nx (h:Fr w b T) (a:Addr) (v:Value):Fr (w.setCell (Lr.nx a) v) b T:=h.set _ _ _
theorem Fr.pv (h:Fr w b T) (a:Addr) (v:Value):Fr (w.setCell (Lr.pv a) v) b T:=h.set _ _ _
theorem Ring.unlink (h:Ring t l w) (hj:j < l.length):Ring t (l.eraseIdx j) ((w.setCell (nx (adr t l j)) (.pointer (some (adr t l (j+2))))).setCell (pv (adr t l (j+2))) (.pointer (some (adr t l j)))):=by
 have hlen:(l.eraseIdx j).length+1=l.length:=by rw[List.length_eraseIdx,if_pos hj];omega
 refine⟨fun i hi=>?_,(h.tb.nx _ _).pv _ _,fun y hy=>((h.nd y (List.mem_of_mem_eraseIdx hy)).nx _ _).pv _ _,?_⟩
 ·rw[aCS,aCS]
  have hnp:∀ i k,nx (adr t l i)≠pv (adr t l k):=fun i k=>aRJ h.apart
  by_cases h1:i < j
  ·obtain⟨l1,l2⟩:=h.link i (by omega)
   rw[if_pos (by omega),if_pos (by omega)]
   constructor
   ·rw[aG (fun e=>hnp _ _ e.symm),aG (aGZ fun e=>by have:=iW h.apart (by omega) (by omega) e;omega),l1]
   ·rw[aG (aGR fun e=>by have:=pU h.apart (i:=j+1) (j:=i) (by omega) (by omega) e;omega),aG (hnp _ _),l2]
  ·by_cases h2:i=j
   ·subst h2
    obtain⟨l1,l2⟩:=h.link i (by omega)
    obtain⟨l3,l4⟩:=h.link (i+1) (by omega)
    rw[if_pos (zA _),if_neg (by omega)]
    constructor
    ·rw[aG (fun e=>hnp _ _ e.symm),fC l1]
    ·exact fC ((aG (hnp _ _) _).trans l4) _
   ·obtain⟨l1,l2⟩:=h.link (i+1) (by omega)
    rw[if_neg (by omega),if_neg (by omega)]
    constructor
    ·rw[aG (fun e=>hnp _ _ e.symm),aG (aGZ fun e=>by have:=iW h.apart (i:=j) (j:=i+1) (by omega) (by omega) e;omega),l1]
    ·rw[aG (aGR fun e=>by have:=pU h.apart (i:=j+1) (j:=i+1) (by omega) (by omega) e;omega),aG (hnp _ _),l2]
 ·exact List.Nodup.sublist (List.Sublist.cons_cons _ (List.Sublist.map _ (List.eraseIdx_sublist l j))) h.apart
theorem Ring.front (h:Ring t l w) (hx:Fr w x.k nT) (hn:∀ y∈l,y.k≠x.k) (ht:x.k≠t) {u1 u2:Value} (c1:w.cell? (pv ⟨x.k,0,none⟩)=some u1) (c2:w.cell? (nx ⟨x.k,0,none⟩)=some u2) :
  Ring t (x::l) ((((w.setCell (pv ⟨x.k,0,none⟩) (.pointer (some (head t)))).setCell (nx ⟨x.k,0,none⟩) (.pointer (some (adr t l 1)))).setCell (nx (head t)) (.pointer (some ⟨x.k,0,none⟩))).setCell (pv (adr t l 1)) (.pointer (some ⟨x.k,0,none⟩))):=by
 have hap:(t::(x::l).map (·.k)).Nodup:=by
  obtain⟨a1,a2⟩:=List.nodup_cons.1 h.apart
  rw[List.map_cons,List.nodup_cons,List.nodup_cons]
  refine⟨fun hm=>?_,fun hm=>?_,a2⟩
  ·rcases List.mem_cons.1 hm with e | hm
   ·exact ht e.symm
   ·exact a1 hm
  ·obtain⟨y,hy,e⟩:=List.mem_map.1 hm
   exact hn y hy e
 have hnp:∀ i k,nx (adr t (x::l) i)≠pv (adr t (x::l) k):=fun i k=>aRJ hap
 have e0:head t=adr t (x::l) 0:=rfl
 have e1:(⟨x.k,0,none⟩:Addr)=adr t (x::l) 1:=rfl
 have e2:∀ i,adr t l (i+1)=adr t (x::l) (i+2):=fun i=>rfl
 have z0:adr t l 0=adr t (x::l) 0:=rfl
 have inj:∀ {i k:Nat},i≤(x::l).length→k≤(x::l).length→i≠k→(adr t (x::l) i).block≠(adr t (x::l) k).block:=fun hi hk hne e=>hne (iW hap hi hk e)
 have inj1:∀ {i k:Nat},i≤(x::l).length→k≤(x::l).length→i≠k→(adr t (x::l) (i+1)).block≠(adr t (x::l) (k+1)).block:=fun hi hk hne e=>hne (pU hap hi hk e)
 have hlc:(x::l).length=l.length+1:=rfl
 rw[e0,e1,show adr t l 1=adr t (x::l) 2 from rfl]
 rw[e1]at c1 c2
 obtain⟨m1,m2⟩:=h.link 0 (zF _)
 rw[z0]at m1
 rw[show adr t l (0+1)=adr t (x::l) 2 from rfl]at m1 m2
 refine⟨fun i hi=>?_,?_,fun y hy=>?_,hap⟩
 ·cases i with
  | zero =>
   constructor
   ·rw[aG (fun e=>hnp _ _ e.symm)]
    exact fC ((aG (aGZ (inj (by omega) (by omega) (by omega))) _).trans ((aG (fun e=>hnp _ _ e.symm) _).trans m1)) _
   ·rw[aG (aGR (inj1 (i:=1) (k:=0) (by omega) (by omega) (by omega))),aG (hnp _ _),aG (hnp _ _)]
    exact fC c1 _
  | succ i =>
   cases i with
   | zero =>
    constructor
    ·rw[aG (fun e=>hnp _ _ e.symm),aG (aGZ (inj (by omega) (by omega) (by omega)))]
     exact fC ((aG (fun e=>hnp _ _ e.symm) _).trans c2) _
    ·exact fC ((aG (hnp _ _) _).trans ((aG (hnp _ _) _).trans ((aG (aGR (inj1 (i:=0) (k:=1) (by omega) (by omega) (by omega))) _).trans m2))) _
   | succ i =>
    obtain⟨l1,l2⟩:=h.link (i+1) (by rw[hlc]at hi;omega)
    rw[show adr t l (i+1)=adr t (x::l) (i+2) from rfl,show adr t l (i+1+1)=adr t (x::l) (i+2+1) from rfl]at l1 l2
    constructor
    ·rw[aG (fun e=>hnp _ _ e.symm),aG (aGZ (inj (by omega) (by omega) (by omega))),aG (aGZ (inj (by omega) (by omega) (by omega))),aG (fun e=>hnp _ _ e.symm),l1]
    ·rw[aG (aGR (inj1 (i:=1) (k:=i+2) (by omega) (by omega) (by omega))),aG (hnp _ _),aG (hnp _ _),aG (aGR (inj1 (i:=0) (k:=i+2) (by omega) (by omega) (by omega))),l2]
 ·exact (((h.tb.pv _ _).nx _ _).nx _ _).pv _ _
 ·rcases List.mem_cons.1 hy with rfl | hy
  ·exact (((hx.pv _ _).nx _ _).nx _ _).pv _ _
  ·exact ((((h.nd y hy).pv _ _).nx _ _).nx _ _).pv _ _
def nU (w:World) (x:It):Prop:=w.cell? ⟨x.k,0,none⟩=some (.string x.id)∧w.cell? ⟨x.k,1,none⟩=some (.string x.p.E.k)∧w.cell? ⟨x.k,2,none⟩=some (.string x.p.E.v)∧w.cell? ⟨x.k,3,none⟩=some (.int .i64 x.p.E.s)∧w.cell? ⟨x.k,4,none⟩=some (.string x.p.E.r)∧w.cell? ⟨x.k,5,none⟩=some (.int .i64 x.p.E.m) ∧
 w.cell? ⟨x.k,6,none⟩=some (.slice x.p.A x.p.E.fs.length x.p.c)∧w.cell? ⟨x.k,7,none⟩=some (.slice x.p.X x.p.E.body.length x.p.d)∧w.cell? ⟨x.k,8,none⟩=some (.int .i64 x.p.E.asked)∧w.cell? ⟨x.k,9,none⟩=some (.int .i64 x.p.E.got)∧w.cell? ⟨x.k,10,none⟩=some (.int .i64 x.z)
def aH9 (w:World) (t room used m:Nat):Prop:=w.cell? ⟨t,0,none⟩=some (.int .i64 room)∧w.cell? ⟨t,1,none⟩=some (.int .i64 used)∧w.cell? ⟨t,2,none⟩=some (.map (some m))
theorem nU.set (h:nU w x) (ha:a.block=x.k→11≤a.off) (v:Value):nU (w.setCell a v) x:=by
 have hne:∀ i,i < 11→a≠⟨x.k,i,none⟩:=fun i hi e=>by
  have h1:=ha (congrArg Addr.block e)
  have h2:a.off=i:=congrArg Addr.off e
  omega
 obtain⟨h0,h1,h2,h3,h4,h5,h6,h7,h8,h9,h10⟩:=h
 refine⟨?_,?_,?_,?_,?_,?_,?_,?_,?_,?_,?_⟩
 all_goals rw[aG (hne _ (by decide))]
 all_goals assumption
theorem nU.same (h:nU w x) (hb:w'.heap[x.k]?=w.heap[x.k]?):nU w' x:=by
 have hc:∀ i,w'.cell? ⟨x.k,i,none⟩=w.cell? ⟨x.k,i,none⟩:=fun i=>World.cell?_of_block (a:=⟨x.k,i,none⟩) hb
 obtain⟨h0,h1,h2,h3,h4,h5,h6,h7,h8,h9,h10⟩:=h
 refine⟨?_,?_,?_,?_,?_,?_,?_,?_,?_,?_,?_⟩
 all_goals rw[hc]
 all_goals assumption
theorem aH9.set {room used m:Nat} (h:aH9 w t room used m) (ha:a.block=t→3≤a.off) (v:Value):aH9 (w.setCell a v) t room used m:=by
 have hne:∀ i,i < 3→a≠⟨t,i,none⟩:=fun i hi e=>by
  have h1:=ha (congrArg Addr.block e)
  have h2:a.off=i:=congrArg Addr.off e
  omega
 obtain⟨h0,h1,h2⟩:=h
 refine⟨?_,?_,?_⟩
 all_goals rw[aG (hne _ (by decide))]
 all_goals assumption
theorem aH9.same {room used m:Nat} (h:aH9 w t room used m) (hb:w'.heap[t]?=w.heap[t]?):aH9 w' t room used m:=by
 have hc:∀ i,w'.cell? ⟨t,i,none⟩=w.cell? ⟨t,i,none⟩:=fun i=>World.cell?_of_block (a:=⟨t,i,none⟩) hb
 obtain⟨h0,h1,h2⟩:=h
 exact⟨(hc _).trans h0,(hc _).trans h1,(hc _).trans h2⟩
theorem Ring.same (h:Ring t l w) (ht:w'.heap[t]?=w.heap[t]?) (hk:∀ y∈l,w'.heap[y.k]?=w.heap[y.k]?):Ring t l w':=by
 have hb:∀ i,w'.heap[(adr t l i).block]?=w.heap[(adr t l i).block]?:=fun i=>by
  rcases aAN (t:=t) (l:=l) (i:=i) with ⟨_,b1⟩ | ⟨y,hy,f⟩
  ·rw[b1];exact ht
  ·rw[f];exact hk y hy
 refine⟨fun i hi=>?_,h.tb.same ht,fun y hy=>(h.nd y hy).same (hk y hy),h.apart⟩
 obtain⟨h1,h2⟩:=h.link i hi
 exact⟨(World.cell?_of_block (a:=nx (adr t l i)) (hb i)).trans h1,(World.cell?_of_block (a:=pv (adr t l (i+1))) (hb (i+1))).trans h2⟩
theorem Ring.form (h:Ring t l w) (i:Nat):∃ b o,adr t l i=⟨b,o,none⟩∧(b=t→3≤o)∧b < w.heap.size∧(b=t∨∃ y∈l,y.k=b):=by
 rcases aAN (t:=t) (l:=l) (i:=i) with ⟨o1,b1⟩ | ⟨y,hy,f⟩
 ·refine⟨(adr t l i).block,(adr t l i).off,?_,fun _=>Nat.le_of_eq o1.symm,by rw[b1];exact h.tb.lt,.inl b1⟩
  have:=aN1 (t:=t) (l:=l) (i:=i)
  cases h:adr t l i with
  | mk b o sp=>rw[h]at this;cases this;rfl
 ·exact⟨y.k,0,f,fun e=>absurd e (h.ne hy),(h.nd y hy).lt,.inr ⟨y,hy,rfl⟩⟩
end
end Lr
end Go.Proofs.YthjeglnkgdpijaaGreatDoor
namespace Go.Proofs.YthjeglnkgdpijaaGreatDoor
namespace D
theorem pM (s:Dsk) (names:List ByteArray):(s.begin names).1.room=s.room:=by
 unfold Dsk.begin
 split<;>rfl
theorem lX (s:Dsk) (nm:ByteArray):(s.create nm).1.room=s.room:=by
 have h:=pM s [nm]
 unfold Dsk.create
 generalize s.begin [nm]=y at *
 obtain⟨s1,e⟩:=y
 dsimp only at h ⊢
 split
 ·exact h
 ·split
  ·exact h
  ·exact h
theorem zM (s:Dsk) (nm:ByteArray) (more:List ByteArray) (f:Dsk→Nat→Dsk × Int) (hf:∀ s no,(f s no).1.room=s.room):(s.on nm more f).1.room=s.room:=by
 have h:=pM s (more++[nm])
 unfold Dsk.on
 generalize s.begin (more++[nm])=y at *
 obtain⟨s1,e⟩:=y
 dsimp only at h ⊢
 split
 ·exact h
 ·split
  ·exact h
  ·exact (hf _ _).trans h
theorem jR (s:Dsk) (nm:ByteArray) (b:List UInt8):(s.append nm b).1.room=s.room:=zM _ _ _ _ fun s no=>by
 split<;>rfl
theorem mM (s:Dsk) (nm:ByteArray):(s.sync nm).1.room=s.room:=zM _ _ _ _ fun _ _=>rfl
theorem aDM (s:Dsk) (a b:ByteArray):(s.rename a b).1.room=s.room:=zM _ _ _ _ fun s no=>by
 split<;>rfl
theorem jH (s:Dsk) (nm:ByteArray):(s.remove nm).1.room=s.room:=zM _ _ _ _ fun _ _=>rfl
theorem iK (s:Dsk):s.syncNames.1.room=s.room:=by
 have h:=pM s []
 unfold Dsk.syncNames
 generalize s.begin []=y at *
 obtain⟨s1,e⟩:=y
 dsimp only at h ⊢
 split
 ·exact h
 ·exact h
end D
namespace S
theorem xB:∀ (l:List (D.Dsk→D.Dsk × Int)) (d:D.Dsk),(∀ f∈l,∀ d:D.Dsk,(f d).1.room=d.room)→(steps d l).1.room=d.room
 | [],_,_=>rfl
 | f::r,d,hf=>by
  have h1:=hf f (by simp) d
  unfold steps
  split
  ·exact h1
  ·exact (xB r (f d).1 (fun g hg=>hf g (List.mem_cons_of_mem _ hg))).trans h1
theorem aG1 (b:List UInt8):∀ f∈moves b,∀ d:D.Dsk,(f d).1.room=d.room:=by
 intro f hf d
 unfold moves at hf
 simp only[List.mem_cons,List.not_mem_nil,or_false]at hf
 rcases hf with rfl | rfl | rfl | rfl
 ·exact D.lX _ _
 ·exact D.jR _ _ _
 ·exact D.mM _ _
 ·exact D.aDM _ _ _
theorem aBE (d:D.Dsk) (count:Nat) (list:List R.Rc):(rewrite d count list).1.room=d.room:=by
 have h1:=xB _ d (aG1 (R.bH list 0 []).1)
 unfold rewrite
 split
 ·rfl
 ·split
  ·exact (D.iK _).trans h1
  ·split
   ·exact h1
   ·exact (D.jH _ _).trans h1
theorem aN3 (d:D.Dsk) (count:Nat) (op no:Int) (id:ByteArray):(add d count op no id).1.room=d.room:=by
 unfold add
 split
 ·rfl
 ·split
  ·exact D.jR _ _ _
  ·exact (D.mM _ _).trans (D.jR _ _ _)
theorem aMW (d:D.Dsk) (p:ByteArray) (b:List UInt8):(lay d p b).1.room=d.room:=by
 unfold lay
 have hx:(if has d.list p then d.remove p else (d,0)).1.room=d.room:=by
  split
  ·exact D.jH _ _
  ·rfl
 generalize (if has d.list p then d.remove p else (d,0))=x at *
 dsimp only
 split
 ·exact hx
 ·have hy:=(D.lX x.1 p).trans hx
  generalize x.1.create p=y at *
  split
  ·exact hy
  ·have hz:=(D.jR y.1 p b).trans hy
   generalize y.1.append p b=z at *
   split
   ·exact hz
   ·have hu:=(D.mM z.1 p).trans hz
    generalize z.1.sync p=u at *
    split
    ·exact hu
    ·exact (D.iK _).trans hu
theorem aIN (s:Sto):s.tidy.d.room=s.d.room:=by
 unfold Sto.tidy
 split
 ·rfl
 ·exact aBE _ _ _
theorem aEV (s:Sto):s.tidy.tab=s.tab:=by
 unfold Sto.tidy
 split<;>rfl
theorem aHM (s:Sto) (id:ByteArray):(s.freed id).d.room=s.d.room:=by
 unfold Sto.freed
 split
 ·exact D.jH _ _
 ·rfl
theorem aJ5 (s:Sto) (id:ByteArray):(s.freed id).tab=s.tab:=by
 unfold Sto.freed
 split<;>rfl
theorem aAA (s:Sto) (no:Nat) (id:ByteArray) (x:D.Dsk × Bool × Int):(s.entered no id x).1.d.room=x.1.room∧((s.entered no id x).1.tab=s.tab∨(s.entered no id x).1.tab=D.put s.tab id no):=by
 unfold Sto.entered
 have hy:(if x.2.2=0 then add x.1 s.count 1 no id else (x.1,s.count,x.2.2):D.Dsk × Nat × Int).1.room=x.1.room:=by
  split
  ·exact aN3 _ _ _ _ _
  ·rfl
 generalize (if x.2.2=0 then add x.1 s.count 1 no id else (x.1,s.count,x.2.2):D.Dsk × Nat × Int)=y at *
 dsimp only
 split
 ·refine⟨?_,.inl rfl⟩
  split
  ·exact (D.jH _ _).trans hy
  ·exact hy
 ·refine⟨?_,.inr ?_⟩
  ·rw[aIN]
   exact (aHM _ _).trans hy
  ·rw[aEV]
   show D.put (({ s with d:=y.1,count:=y.2.1 }:Sto).freed id).tab id no=_
   rw[aJ5]
theorem aI3 (s:Sto) (E:O.Ent):(s.put E).1.d.room=s.d.room∧((s.put E).1.tab=s.tab∨(aU E).size≤4096∧∃ no,(s.put E).1.tab=D.put s.tab (aU E) no):=by
 unfold Sto.put
 split
 ·exact⟨rfl,.inl rfl⟩
 ·split
  ·exact⟨rfl,.inl rfl⟩
  ·rename_i hs
   split
   ·exact⟨rfl,.inl rfl⟩
   ·rename_i no _
    obtain⟨h1,h2⟩:=aAA s no (aU E) (lay s.d (path no) (gY E))
    exact⟨h1.trans (aMW _ _ _),h2.imp id fun h=>⟨by omega,no,h⟩⟩
structure Kept (room:Int) (i:Nat) (s:Sto):Prop where
 inv:Inv s
 fit:D.Fit (3+13 * i) s.d
 ids:∀ p∈s.tab,p.1.size≤4096
 len:s.tab.length≤i
 count:s.count≤i
 room:s.d.room=room
theorem Kept.put {room:Int} {i:Nat} {s:Sto} (h:Kept room i s) (E:O.Ent) (hi:i≤100):Kept room (i+1) (s.put E).1:=by
 obtain⟨k1,k2⟩:=aI3 s E
 have hf:D.Fit (3+13 * (i+1)) (s.put E).1.d:=by
  have:=oH h.fit E
  rw[show 3+13 * (i+1)=3+13 * i+13 by omega]
  exact this
 have hid:∀ p∈(s.put E).1.tab,p.1.size≤4096:=by
  intro p hp
  rcases k2 with k2 | ⟨hz,no,k2⟩
  ·rw[k2]at hp;exact h.ids p hp
  ·rw[k2]at hp
   rcases D.aX.1 hp with rfl | hp
   ·exact hz
   ·exact h.ids p hp.1
 have hc:=h.count
 have hl:=h.len
 rcases aE8 h.inv E (by omega) with ⟨_,w2,w3,w4,w5,_⟩ | ⟨_,w2,w3,w4,w5⟩
 ·exact⟨w2,hf,hid,by rw[w3];omega,by rw[w5];omega,k1.trans h.room⟩
 ·exact⟨w2,hf,hid,by omega,by rcases w5 with w5 | w5<;>omega,k1.trans h.room⟩
theorem Kept.start {room:Int} (h:0≤room∧room≤1073741824) {n:Nat} (hn:n≤4096):Kept room 0 ⟨born room,0,[],marks n []⟩ :=
 ⟨(yL h.1).2.2.2.2 n hn,aNR h,(fun _ h=>by cases h),zA _,zA _,by
  show (born room).room=room
  unfold S.born
  rw[D.iK,D.mM,D.lX]
  rfl⟩
theorem Kept.refused {room:Int} {i:Nat} {s:Sto} (h:Kept room i s) (E:O.Ent) (hi:i≤100) (hE:(s.put E).2≠0):(s.put E).1.ids=s.ids∧(s.put E).1.d.list=s.d.list∧((s.put E).1.d.used:Int)≤room∧∀ id∈s.ids,(s.put E).1.get id=s.get id:=by
 have hc:=h.count
 have hk:=(h.put E hi)
 rcases aE8 h.inv E (by omega) with ⟨_,w2,w3,w4,w5,w6⟩ | ⟨w1,_⟩
 ·refine⟨by unfold Sto.ids;rw[w3],h.inv.calm.names w2.calm (fun x=>by rw[w6]),?_,fun id hid=>aM5 h.inv w2 w3 w6 hid⟩
  have:=w2.calm.room
  rw[hk.room]at this
  exact this
 ·exact absurd w1 hE
end S
end Go.Proofs.YthjeglnkgdpijaaGreatDoor
