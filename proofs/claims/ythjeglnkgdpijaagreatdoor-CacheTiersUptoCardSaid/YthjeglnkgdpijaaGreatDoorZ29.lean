/- The ring of a bounded table in memory: what links its nodes, what taking one out and putting one in front do to it. Plain lemmas. A bounded table of entries in memory: where it lies, what its items are, what other writes leave of it. Plain lemmas. Conditions: as each theorem states them. -/
import Derived.Test.YthjeglnkgdpijaaGreatDoorZ23
namespace Go.Proofs.YthjeglnkgdpijaaGreatDoor
open Go Go.RowKit Go.Maps
namespace Lr
abbrev tT:TypeId:=124
abbrev nT:TypeId:=122
def nx (a:Addr):Addr:=⟨a.block,a.off+12,none⟩
def pv (a:Addr):Addr:=⟨a.block,a.off+11,none⟩
def Fr (w:World) (b:Nat) (t:TypeId):Prop:=∃ cs,Blk w b cs t
section
variable {w w':World} {b t i j:Nat} {T:TypeId} {l:List It} {x:It} {a:Addr} {v:Value}
theorem Fr.free (h:Fr w b T) (i:Nat):w.frozen? ⟨b,i,none⟩=false:=by
 obtain⟨cs,h⟩:=h
 exact h.free i
theorem Fr.lt (h:Fr w b T):b < w.heap.size:=by
 obtain⟨cs,h⟩:=h
 exact h.lt
theorem Fr.tag (h:Fr w b T):Tag w b T:=by
 obtain⟨cs,h⟩:=h
 exact h.tag
theorem Fr.set (h:Fr w b T) (k i:Nat) (v:Value):Fr (w.setCell ⟨k,i,none⟩ v) b T:=by
 obtain⟨cs,h⟩:=h
 by_cases e:k=b
 ·subst e
  exact⟨_,h.set i v⟩
 ·exact⟨_,h.far i v e⟩
theorem Fr.same (h:Fr w b T) (hb:w'.heap[b]?=w.heap[b]?):Fr w' b T:=by
 obtain⟨cs,h⟩:=h
 exact⟨cs,hb.trans h⟩
structure Ring (t:Nat) (l:List It) (w:World):Prop where
 link:∀ i,i≤l.length→w.cell? (nx (adr t l i))=some (.pointer (some (adr t l (i+1))))∧w.cell? (pv (adr t l (i+1)))=some (.pointer (some (adr t l i)))
 tb:Fr w t tT
 nd:∀ y∈l,Fr w y.k nT
 apart:(t::l.map (·.k)).Nodup
theorem zU:(adr t l i).off=3∧(adr t l i).block=t∨∃ y∈l,adr t l i=⟨y.k,0,none⟩:=by
 cases i with
 | zero=>exact .inl ⟨rfl,rfl⟩
 | succ i =>
  by_cases h:i < l.length
  ·exact .inr ⟨_,List.getElem_mem h,fC h⟩
  ·left
   rw[jH,List.getElem?_eq_none (by omega)]
   exact⟨rfl,rfl⟩
theorem Ring.ne (h:Ring t l w) {y:It} (hy:y∈l):y.k≠t:=fun e=>(List.nodup_cons.1 h.apart).1 (List.mem_map.2 ⟨y,hy,e⟩)
theorem iI (h:(t::l.map (·.k)).Nodup) (hi:i≤l.length) (hj:j≤l.length) (e:(adr t l i).block=(adr t l j).block):i=j:=by
 obtain⟨h1,h2⟩:=List.nodup_cons.1 h
 have hn:∀ {i:Nat} (hi:i < l.length),(l[i]'hi).k≠t:=fun hi e=>h1 (List.mem_map.2 ⟨_,List.getElem_mem hi,e⟩)
 cases i with
 | zero =>
  cases j with
  | zero=>rfl
  | succ j =>
   rw[fC (show j < l.length by omega)]at e
   exact absurd e.symm (hn _)
 | succ i =>
  cases j with
  | zero =>
   rw[fC (show i < l.length by omega)]at e
   exact absurd e (hn _)
  | succ j =>
   rw[fC (show i < l.length by omega),fC (show j < l.length by omega)]at e
   have hi':i < (l.map (·.k)).length:=by rw[List.length_map];omega
   have hj':j < (l.map (·.k)).length:=by rw[List.length_map];omega
   have:=(List.getElem?_inj (j:=j) hi' h2).1 (by rw[List.getElem?_eq_getElem hi',List.getElem?_eq_getElem hj',List.getElem_map,List.getElem_map];exact congrArg some e)
   omega
theorem aE7:adr t l (l.length+1)=adr t l 0:=aDS
theorem oQ (h:(t::l.map (·.k)).Nodup) (hi:i≤l.length) (hj:j≤l.length) (e:(adr t l (i+1)).block=(adr t l (j+1)).block):i=j:=by
 by_cases h1:i=l.length
 ·by_cases h2:j=l.length
  ·omega
  ·rw[h1,aE7]at e
   have:=iI h (zF _) (show j+1≤l.length by omega) e
   omega
 ·by_cases h2:j=l.length
  ·rw[h2,aE7]at e
   have:=iI h (show i+1≤l.length by omega) (zF _) e
   omega
  ·have:=iI h (show i+1≤l.length by omega) (show j+1≤l.length by omega) e
   omega
theorem aF0 {a b:Addr} (h:a.block≠b.block):nx a≠nx b:=fun e=>h (show (nx a).block=(nx b).block by rw[e])
theorem aFT {a b:Addr} (h:a.block≠b.block):pv a≠pv b:=fun e=>h (show (pv a).block=(pv b).block by rw[e])
theorem aP8 (h:(t::l.map (·.k)).Nodup):nx (adr t l i)≠pv (adr t l j):=by
 intro e
 have e1:(adr t l i).block=(adr t l j).block:=show (nx (adr t l i)).block=(pv (adr t l j)).block by rw[e]
 have e2:(adr t l i).off+12=(adr t l j).off+11:=show (nx (adr t l i)).off=(pv (adr t l j)).off by rw[e]
 have hn:∀ y∈l,y.k≠t:=fun y hy e=>(List.nodup_cons.1 h).1 (List.mem_map.2 ⟨y,hy,e⟩)
 rcases zU (t:=t) (l:=l) (i:=i) with ⟨o1,b1⟩ | ⟨y,hy,f⟩<;>rcases zU (t:=t) (l:=l) (i:=j) with ⟨o2,b2⟩ | ⟨z,hz,g⟩
 ·omega
 ·rw[b1,g]at e1
  exact hn z hz e1.symm
 ·rw[b2,f]at e1
  exact hn y hy e1
 ·rw[f,g]at e2
  change 0+12=0+11 at e2
  omega
theorem aG {a b:Addr} (h:a≠b) (v:Value):(w.setCell a v).cell? b=w.cell? b:=World.cell?_setCell_other _ _ _ _ h
theorem dZ {a:Addr} {u:Value} (h:w.cell? a=some u) (v:Value):(w.setCell a v).cell? a=some v:=World.cell?_setCell_same _ _ _ h
theorem Fr.nx (h:Fr w b T) (a:Addr) (v:Value):Fr (w.setCell (Lr.nx a) v) b T:=h.set _ _ _
theorem Fr.pv (h:Fr w b T) (a:Addr) (v:Value):Fr (w.setCell (Lr.pv a) v) b T:=h.set _ _ _
theorem Ring.unlink (h:Ring t l w) (hj:j < l.length):Ring t (l.eraseIdx j) ((w.setCell (nx (adr t l j)) (.pointer (some (adr t l (j+2))))).setCell (pv (adr t l (j+2))) (.pointer (some (adr t l j)))):=by
 have hlen:(l.eraseIdx j).length+1=l.length:=by rw[List.length_eraseIdx,if_pos hj];omega
 refine⟨fun i hi=>?_,(h.tb.nx _ _).pv _ _,fun y hy=>((h.nd y (List.mem_of_mem_eraseIdx hy)).nx _ _).pv _ _,?_⟩
 ·rw[aB8,aB8]
  have hnp:∀ i k,nx (adr t l i)≠pv (adr t l k):=fun i k=>aP8 h.apart
  by_cases h1:i < j
  ·obtain⟨l1,l2⟩:=h.link i (by omega)
   rw[if_pos (by omega),if_pos (by omega)]
   constructor
   ·rw[aG (fun e=>hnp _ _ e.symm),aG (aF0 fun e=>by have:=iI h.apart (by omega) (by omega) e;omega),l1]
   ·rw[aG (aFT fun e=>by have:=oQ h.apart (i:=j+1) (j:=i) (by omega) (by omega) e;omega),aG (hnp _ _),l2]
  ·by_cases h2:i=j
   ·subst h2
    obtain⟨l1,l2⟩:=h.link i (by omega)
    obtain⟨l3,l4⟩:=h.link (i+1) (by omega)
    rw[if_pos (zA _),if_neg (by omega)]
    constructor
    ·rw[aG (fun e=>hnp _ _ e.symm),dZ l1]
    ·exact dZ ((aG (hnp _ _) _).trans l4) _
   ·obtain⟨l1,l2⟩:=h.link (i+1) (by omega)
    rw[if_neg (by omega),if_neg (by omega)]
    constructor
    ·rw[aG (fun e=>hnp _ _ e.symm),aG (aF0 fun e=>by have:=iI h.apart (i:=j) (j:=i+1) (by omega) (by omega) e;omega),l1]
    ·rw[aG (aFT fun e=>by have:=oQ h.apart (i:=j+1) (j:=i+1) (by omega) (by omega) e;omega),aG (hnp _ _),l2]
 ·exact List.Nodup.sublist (List.Sublist.cons_cons _ (List.Sublist.map _ (List.eraseIdx_sublist l j))) h.apart
theorem Ring.front (h:Ring t l w) (hx:Fr w x.k nT) (hn:∀ y∈l,y.k≠x.k) (ht:x.k≠t) {u1 u2:Value} (c1:w.cell? (pv ⟨x.k,0,none⟩)=some u1) (c2:w.cell? (nx ⟨x.k,0,none⟩)=some u2) :
  Ring t (x::l) ((((w.setCell (pv ⟨x.k,0,none⟩) (.pointer (some (head t)))).setCell (nx ⟨x.k,0,none⟩) (.pointer (some (adr t l 1)))).setCell (nx (head t)) (.pointer (some ⟨x.k,0,none⟩))).setCell (pv (adr t l 1)) (.pointer (some ⟨x.k,0,none⟩))):=by
 have hap:(t::(x::l).map (·.k)).Nodup:=by
  obtain⟨a1,a2⟩:=List.nodup_cons.1 h.apart
  rw[List.map_cons,List.nodup_cons,List.nodup_cons]
  refine⟨fun hm=>?_,fun hm=>?_,a2⟩
  ·rcases List.mem_cons.1 hm with e | hm
   ·exact ht e.symm
   ·exact a1 hm
  ·obtain⟨y,hy,e⟩:=List.mem_map.1 hm
   exact hn y hy e
 have hnp:∀ i k,nx (adr t (x::l) i)≠pv (adr t (x::l) k):=fun i k=>aP8 hap
 have e0:head t=adr t (x::l) 0:=rfl
 have e1:(⟨x.k,0,none⟩:Addr)=adr t (x::l) 1:=rfl
 have e2:∀ i,adr t l (i+1)=adr t (x::l) (i+2):=fun i=>rfl
 have z0:adr t l 0=adr t (x::l) 0:=rfl
 have inj:∀ {i k:Nat},i≤(x::l).length→k≤(x::l).length→i≠k→(adr t (x::l) i).block≠(adr t (x::l) k).block:=fun hi hk hne e=>hne (iI hap hi hk e)
 have inj1:∀ {i k:Nat},i≤(x::l).length→k≤(x::l).length→i≠k→(adr t (x::l) (i+1)).block≠(adr t (x::l) (k+1)).block:=fun hi hk hne e=>hne (oQ hap hi hk e)
 have hlc:(x::l).length=l.length+1:=rfl
 rw[e0,e1,show adr t l 1=adr t (x::l) 2 from rfl]
 rw[e1]at c1 c2
 obtain⟨m1,m2⟩:=h.link 0 (zF _)
 rw[z0]at m1
 rw[show adr t l (0+1)=adr t (x::l) 2 from rfl]at m1 m2
 refine⟨fun i hi=>?_,?_,fun y hy=>?_,hap⟩
 ·cases i with
  | zero =>
   constructor
   ·rw[aG (fun e=>hnp _ _ e.symm)]
    exact dZ ((aG (aF0 (inj (by omega) (by omega) (by omega))) _).trans ((aG (fun e=>hnp _ _ e.symm) _).trans m1)) _
   ·rw[aG (aFT (inj1 (i:=1) (k:=0) (by omega) (by omega) (by omega))),aG (hnp _ _),aG (hnp _ _)]
    exact dZ c1 _
  | succ i =>
   cases i with
   | zero =>
    constructor
    ·rw[aG (fun e=>hnp _ _ e.symm),aG (aF0 (inj (by omega) (by omega) (by omega)))]
     exact dZ ((aG (fun e=>hnp _ _ e.symm) _).trans c2) _
    ·exact dZ ((aG (hnp _ _) _).trans ((aG (hnp _ _) _).trans ((aG (aFT (inj1 (i:=0) (k:=1) (by omega) (by omega) (by omega))) _).trans m2))) _
   | succ i =>
    obtain⟨l1,l2⟩:=h.link (i+1) (by rw[hlc]at hi;omega)
    rw[show adr t l (i+1)=adr t (x::l) (i+2) from rfl,show adr t l (i+1+1)=adr t (x::l) (i+2+1) from rfl]at l1 l2
    constructor
    ·rw[aG (fun e=>hnp _ _ e.symm),aG (aF0 (inj (by omega) (by omega) (by omega))),aG (aF0 (inj (by omega) (by omega) (by omega))),aG (fun e=>hnp _ _ e.symm),l1]
    ·rw[aG (aFT (inj1 (i:=1) (k:=i+2) (by omega) (by omega) (by omega))),aG (hnp _ _),aG (hnp _ _),aG (aFT (inj1 (i:=0) (k:=i+2) (by omega) (by omega) (by omega))),l2]
 ·exact (((h.tb.pv _ _).nx _ _).nx _ _).pv _ _
 ·rcases List.mem_cons.1 hy with rfl | hy
  ·exact (((hx.pv _ _).nx _ _).nx _ _).pv _ _
  ·exact ((((h.nd y hy).pv _ _).nx _ _).nx _ _).pv _ _
def nG (w:World) (x:It):Prop:=w.cell? ⟨x.k,0,none⟩=some (.string x.id)∧w.cell? ⟨x.k,1,none⟩=some (.string x.p.E.k)∧w.cell? ⟨x.k,2,none⟩=some (.string x.p.E.v)∧w.cell? ⟨x.k,3,none⟩=some (.int .i64 x.p.E.s)∧w.cell? ⟨x.k,4,none⟩=some (.string x.p.E.r)∧w.cell? ⟨x.k,5,none⟩=some (.int .i64 x.p.E.m) ∧
 w.cell? ⟨x.k,6,none⟩=some (.slice x.p.A x.p.E.fs.length x.p.c)∧w.cell? ⟨x.k,7,none⟩=some (.slice x.p.X x.p.E.body.length x.p.d)∧w.cell? ⟨x.k,8,none⟩=some (.int .i64 x.p.E.asked)∧w.cell? ⟨x.k,9,none⟩=some (.int .i64 x.p.E.got)∧w.cell? ⟨x.k,10,none⟩=some (.int .i64 x.z)
def aHA (w:World) (t room used m:Nat):Prop:=w.cell? ⟨t,0,none⟩=some (.int .i64 room)∧w.cell? ⟨t,1,none⟩=some (.int .i64 used)∧w.cell? ⟨t,2,none⟩=some (.map (some m))
theorem nG.set (h:nG w x) (ha:a.block=x.k→11≤a.off) (v:Value):nG (w.setCell a v) x:=by
 have hne:∀ i,i < 11→a≠⟨x.k,i,none⟩:=fun i hi e=>by
  have h1:=ha (congrArg Addr.block e)
  have h2:a.off=i:=congrArg Addr.off e
  omega
 obtain⟨h0,h1,h2,h3,h4,h5,h6,h7,h8,h9,h10⟩:=h
 refine⟨?_,?_,?_,?_,?_,?_,?_,?_,?_,?_,?_⟩
 all_goals rw[aG (hne _ (by decide))]
 all_goals assumption
theorem nG.same (h:nG w x) (hb:w'.heap[x.k]?=w.heap[x.k]?):nG w' x:=by
 have hc:∀ i,w'.cell? ⟨x.k,i,none⟩=w.cell? ⟨x.k,i,none⟩:=fun i=>World.cell?_of_block (a:=⟨x.k,i,none⟩) hb
 obtain⟨h0,h1,h2,h3,h4,h5,h6,h7,h8,h9,h10⟩:=h
 refine⟨?_,?_,?_,?_,?_,?_,?_,?_,?_,?_,?_⟩
 all_goals rw[hc]
 all_goals assumption
theorem aHA.set {room used m:Nat} (h:aHA w t room used m) (ha:a.block=t→3≤a.off) (v:Value):aHA (w.setCell a v) t room used m:=by
 have hne:∀ i,i < 3→a≠⟨t,i,none⟩:=fun i hi e=>by
  have h1:=ha (congrArg Addr.block e)
  have h2:a.off=i:=congrArg Addr.off e
  omega
 obtain⟨h0,h1,h2⟩:=h
 refine⟨?_,?_,?_⟩
 all_goals rw[aG (hne _ (by decide))]
 all_goals assumption
theorem aHA.same {room used m:Nat} (h:aHA w t room used m) (hb:w'.heap[t]?=w.heap[t]?):aHA w' t room used m:=by
 have hc:∀ i,w'.cell? ⟨t,i,none⟩=w.cell? ⟨t,i,none⟩:=fun i=>World.cell?_of_block (a:=⟨t,i,none⟩) hb
 obtain⟨h0,h1,h2⟩:=h
 exact⟨(hc _).trans h0,(hc _).trans h1,(hc _).trans h2⟩
theorem Ring.same (h:Ring t l w) (ht:w'.heap[t]?=w.heap[t]?) (hk:∀ y∈l,w'.heap[y.k]?=w.heap[y.k]?):Ring t l w':=by
 have hb:∀ i,w'.heap[(adr t l i).block]?=w.heap[(adr t l i).block]?:=fun i=>by
  rcases zU (t:=t) (l:=l) (i:=i) with ⟨_,b1⟩ | ⟨y,hy,f⟩
  ·rw[b1];exact ht
  ·rw[f];exact hk y hy
 refine⟨fun i hi=>?_,h.tb.same ht,fun y hy=>(h.nd y hy).same (hk y hy),h.apart⟩
 obtain⟨h1,h2⟩:=h.link i hi
 exact⟨(World.cell?_of_block (a:=nx (adr t l i)) (hb i)).trans h1,(World.cell?_of_block (a:=pv (adr t l (i+1))) (hb (i+1))).trans h2⟩
theorem Ring.form (h:Ring t l w) (i:Nat):∃ b o,adr t l i=⟨b,o,none⟩∧(b=t→3≤o)∧b < w.heap.size∧(b=t∨∃ y∈l,y.k=b):=by
 rcases zU (t:=t) (l:=l) (i:=i) with ⟨o1,b1⟩ | ⟨y,hy,f⟩
 ·refine⟨(adr t l i).block,(adr t l i).off,?_,fun _=>Nat.le_of_eq o1.symm,by rw[b1];exact h.tb.lt,.inl b1⟩
  have:=aMV (t:=t) (l:=l) (i:=i)
  cases h:adr t l i with
  | mk b o sp=>rw[h]at this;cases this;rfl
 ·exact⟨y.k,0,f,fun e=>absurd e (h.ne hy),(h.nd y hy).lt,.inr ⟨y,hy,rfl⟩⟩
end
end Lr
open Lr (Ring nG aHA Fr nx pv adr)
theorem Lr.mapT_ul:Tryz.prog.underlying 120=some (.map 9 119):=by kernel_rfl
theorem Lr.zeroNode (w:World):(zeroValue 119).run Tryz.prog w=.ok (.pointer none) w:=by kernel_rfl
def LrF (t m:Nat) (l:List It) (k:Nat):Prop:=k=t∨k=m∨∃ x∈l,x.k=k
structure fG (B t m room:Nat) (l:List It) (w:World):Prop where
 ring:Ring t l w
 tabc:aHA w t room (Lr.used l) m
 node:∀ x∈l,nG w x
 items:∃ tb:D.NM,D.Up tb∧w.ownsMap Tryz.prog 9 D.iM m tb.length (D.datum (fun n=>n) tb)∧∀ id,D.find tb id=(Lr.peek l id).map (·.k)
 own:∀ x∈l,gB w B x.p
 one:(Lr.ids l).Nodup
 fits:Lr.used l≤room∧room≤1073741824
 pos:∀ x∈l,1≤x.z
 small:∀ x∈l,x.id.size≤1073741824∧x.p.E.fs.length≤1099511627776∧x.p.E.body.length≤1099511627776
 ge:B≤t∧B≤m∧∀ x∈l,B≤x.k
section
variable {B t m room:Nat} {l:List It} {w w':World} {F F':Nat→Prop} {k:Nat}
theorem Lr.Ring.below {t:Nat} (h:Ring t l w) (hb:Below w.heap.size w w'):Ring t l w':=h.same (hb.block _ h.tb.lt) (fun y hy=>hb.block _ (h.nd y hy).lt)
theorem aHK:∀ {l:List It},(∀ x∈l,1≤x.z)→l.length≤Lr.used l
 | [],_=>zF _
 | x::r,h=>by
  have h1:=aHK (l:=r) (fun y hy=>h y (List.mem_cons_of_mem _ hy))
  have h2:=h x (by simp)
  unfold Lr.used at h1 ⊢
  rw[List.length_cons,List.map_cons,List.sum_cons]
  omega
theorem fG.len (h:fG B t m room l w):l.length≤1073741824:=by
 have:=aHK h.pos
 have:=h.fits
 omega
theorem fG.map_tag (h:fG B t m room l w):aNO w m:=by
 obtain⟨tb,_,h2,_⟩:=h.items
 exact aF h2
theorem fG.went (h:fG B t m room l w) (hw:aO F w F' w') (hn:∀ k,LrF t m l k→¬ F k) (hr:∀ x∈l,∀ k,ownB x.p.A x.p.c=some k∨ownB x.p.X x.p.d=some k→¬ F k):fG B t m room l w':=by
 have ht:=hw.block t h.ring.tb.lt (hn t (.inl rfl))
 have hk:∀ y∈l,w'.heap[y.k]?=w.heap[y.k]?:=fun y hy=>hw.block _ (h.ring.nd y hy).lt (hn _ (.inr (.inr ⟨y,hy,rfl⟩)))
 obtain⟨tb,i1,i2,i3⟩:=h.items
 exact⟨h.ring.same ht hk,h.tabc.same ht,fun x hx=>(h.node x hx).same (hk x hx),⟨tb,i1,hw.map i2 (hn m (.inr (.inl rfl))),i3⟩,fun x hx=>⟨hw.row (h.own x hx).1 (fun k hk=>hr x hx k (.inl hk)),hw.row (h.own x hx).2 (fun k hk=>hr x hx k (.inr hk))⟩,h.one,h.fits,h.pos,h.small,h.ge⟩
theorem fG.below (h:fG B t m room l w) (hb:Below w.heap.size w w'):fG B t m room l w' :=
 h.went (aO.below hb (fun _=>False)) (fun _ _ h=>h) (fun _ _ _ _ h=>h)
theorem fG.lt (h:fG B t m room l w) (hk:LrF t m l k):k < w.heap.size:=by
 rcases hk with rfl | rfl | ⟨x,hx,rfl⟩
 ·exact h.ring.tb.lt
 ·obtain⟨_,_,e⟩:=h.map_tag
  exact (Array.getElem?_eq_some_iff.1 e).1
 ·exact (h.ring.nd x hx).lt
theorem fG.under (h:fG B t m room l w) (hk:LrF t m l k):B≤k:=by
 rcases hk with rfl | rfl | ⟨x,hx,rfl⟩
 ·exact h.ge.1
 ·exact h.ge.2.1
 ·exact h.ge.2.2 x hx
theorem fG.tag (h:fG B t m room l w) (hk:LrF t m l k):Tag w k Lr.tT∨Tag w k Lr.nT∨aNO w k:=by
 rcases hk with rfl | rfl | ⟨x,hx,rfl⟩
 ·exact .inl h.ring.tb.tag
 ·exact .inr (.inr h.map_tag)
 ·exact .inr (.inl (h.ring.nd x hx).tag)
theorem fG.off (h:fG B t m room l w) {T:TypeId} (ht:Tag w k T) (h1:T≠Lr.tT) (h2:T≠Lr.nT):¬ LrF t m l k:=fun hk=>by
 rcases h.tag hk with h3 | h3 | h3
 ·exact ht.ne h3 h1 rfl
 ·exact ht.ne h3 h2 rfl
 ·exact ht.map h3 rfl
theorem kE {p:EP} (h:gB w B p) (hw:aO F w F' w') (hF:∀ k,F k→Tag w k Lr.tT∨Tag w k Lr.nT∨aNO w k):gB w' B p:=by
 have hn:∀ {k T},Tag w k T→T≠Lr.tT→T≠Lr.nT→¬ F k:=fun ht h1 h2 hk=>by
  rcases hF _ hk with h3 | h3 | h3
  ·exact ht.ne h3 h1 rfl
  ·exact ht.ne h3 h2 rfl
  ·exact ht.map h3 rfl
 exact⟨hw.row h.1 (fun k hk=>hn (h.1.tag hk) (by decide) (by decide)),hw.row h.2 (fun k hk=>hn (h.2.tag hk) (by decide) (by decide))⟩
theorem dV (hF:F k) (i:Nat) (v:Value):aO F w F (w.setCell ⟨k,i,none⟩ v):=aO.grown (aT w k i v) (fun _ e=>by cases e;exact hF) (fun _ h=>.inl h)
end
structure bF (B t m room u:Nat) (tb:D.NM) (l0:List It) (w:World):Prop where
 fr:Fr w t Lr.tT
 tabc:aHA w t room u m
 node:∀ x∈l0,nG w x∧Fr w x.k Lr.nT
 items:w.ownsMap Tryz.prog 9 D.iM m tb.length (D.datum (fun n=>n) tb)
 own:∀ x∈l0,gB w B x.p
section
variable {B t m room u:Nat} {tb:D.NM} {l0 l:List It} {w w':World} {k j:Nat} {x:It}
theorem fG.base (h:fG B t m room l w):∃ tb,D.Up tb∧(∀ id,D.find tb id=(Lr.peek l id).map (·.k))∧bF B t m room (Lr.used l) tb l w:=by
 obtain⟨tb,i1,i2,i3⟩:=h.items
 exact⟨tb,i1,i3,h.ring.tb,h.tabc,fun x hx=>⟨h.node x hx,h.ring.nd x hx⟩,i2,h.own⟩
theorem bF.ne (h:bF B t m room u tb l0 w) (hk:Tag w k Lr.tT∨Tag w k Lr.nT):k≠m:=by
 rcases hk with hk | hk
 ·exact hk.map (aF h.items)
 ·exact hk.map (aF h.items)
theorem bF.tagK (h:bF B t m room u tb l0 w) (hk:k=t∨∃ y∈l0,y.k=k):Tag w k Lr.tT∨Tag w k Lr.nT:=by
 rcases hk with rfl | ⟨y,hy,rfl⟩
 ·exact .inl h.fr.tag
 ·exact .inr (h.node y hy).2.tag
theorem bF.tagF (h:bF B t m room u tb l0 w) (hk:LrF t m l0 k):Tag w k Lr.tT∨Tag w k Lr.nT∨aNO w k:=by
 rcases hk with rfl | rfl | ⟨y,hy,rfl⟩
 ·exact .inl h.fr.tag
 ·exact .inr (.inr (aF h.items))
 ·exact .inr (.inl (h.node y hy).2.tag)
theorem bF.set (h:bF B t m room u tb l0 w) (hk:k=t∨∃ y∈l0,y.k=k) {i:Nat} (hi:11≤i) (v:Value) :
  bF B t m room u tb l0 (w.setCell ⟨k,i,none⟩ v)∧aO (LrF t m l0) w (LrF t m l0) (w.setCell ⟨k,i,none⟩ v):=by
 have hF:LrF t m l0 k:=hk.elim .inl (fun h=>.inr (.inr h))
 have hw:=dV (w:=w) (F:=LrF t m l0) hF i v
 exact⟨⟨h.fr.set _ _ _,h.tabc.set (fun _=>by show 3≤i;omega) v,fun y hy=>⟨(h.node y hy).1.set (fun _=>hi) v,(h.node y hy).2.set _ _ _⟩,h.items.kept (aT w k i v) (fun e=>h.ne (h.tagK hk) (by simpa using e.symm)),fun y hy=>kE (h.own y hy) hw (fun k hk=>h.tagF hk)⟩,hw⟩
theorem bF.below (h:bF B t m room u tb l0 w) (hb:Below w.heap.size w w'):bF B t m room u tb l0 w':=by
 have hlt:∀ y∈l0,w'.heap[y.k]?=w.heap[y.k]?:=fun y hy=>hb.block _ (h.node y hy).2.lt
 exact⟨h.fr.same (hb.block _ h.fr.lt),h.tabc.same (hb.block _ h.fr.lt),fun y hy=>⟨(h.node y hy).1.same (hlt y hy),(h.node y hy).2.same (hlt y hy)⟩,
  h.items.kept (show w.grownBy w' none from⟨hb.os,hb.tape,hb.output,hb.size,fun k hk _=>hb.block k hk⟩) (by simp),fun y hy=>(h.own y hy).below hb⟩
theorem bF.turn {tb':D.NM} (h:bF B t m room u tb l0 w) (ho:w'.ownsMap Tryz.prog 9 D.iM m tb'.length (D.datum (fun n=>n) tb')) (hg:w.grownBy w' (some m)) :
  bF B t m room u tb' l0 w'∧aO (LrF t m l0) w (LrF t m l0) w'∧w'.heap[t]?=w.heap[t]?∧∀ y∈l0,w'.heap[y.k]?=w.heap[y.k]?:=by
 have hne:∀ {k},(Tag w k Lr.tT∨Tag w k Lr.nT)→w'.heap[k]?=w.heap[k]?:=fun {k} hk=>by
  have hlt:k < w.heap.size:=by
   rcases hk with ⟨_,_,e⟩ | ⟨_,_,e⟩
   ·exact (Array.getElem?_eq_some_iff.1 e).1
   ·exact (Array.getElem?_eq_some_iff.1 e).1
  exact hg.block k hlt (fun e=>h.ne hk (by simpa using e))
 have hT:=hne (.inl h.fr.tag)
 have hN:∀ y∈l0,w'.heap[y.k]?=w.heap[y.k]?:=fun y hy=>hne (.inr (h.node y hy).2.tag)
 have hw:aO (LrF t m l0) w (LrF t m l0) w':=aO.grown hg (fun k e=>by cases e;exact .inr (.inl rfl)) (fun _ h=>.inl h)
 exact⟨⟨h.fr.same hT,h.tabc.same hT,fun y hy=>⟨(h.node y hy).1.same (hN y hy),(h.node y hy).2.same (hN y hy)⟩,ho,fun y hy=>kE (h.own y hy) hw (fun k hk=>h.tagF hk)⟩,hw,hT,hN⟩
theorem bF.count (h:bF B t m room u tb l0 w) (hr:Ring t l w) (u':Nat):bF B t m room u' tb l0 (w.setCell ⟨t,1,none⟩ (.int .i64 u'))∧Ring t l (w.setCell ⟨t,1,none⟩ (.int .i64 u'))∧aO (LrF t m l0) w (LrF t m l0) (w.setCell ⟨t,1,none⟩ (.int .i64 u')):=by
 have hw:=dV (w:=w) (F:=LrF t m l0) (.inl rfl) 1 (.int .i64 u')
 obtain⟨c0,c1,c2⟩:=h.tabc
 have hnt:∀ y∈l0,y.k≠t:=fun y hy=>(h.node y hy).2.tag.ne h.fr.tag (by decide)
 have hN:∀ y∈l0,(w.setCell ⟨t,1,none⟩ (.int .i64 u')).heap[y.k]?=w.heap[y.k]?:=fun y hy=>Below.heap_setCell w ⟨t,1,none⟩ _ _ (hnt y hy)
 refine⟨⟨h.fr.set _ _ _,⟨?_,Lr.dZ c1 _,?_⟩,fun y hy=>⟨(h.node y hy).1.same (hN y hy),(h.node y hy).2.set _ _ _⟩,h.items.kept (aT w t 1 _) (fun e=>h.ne (.inl h.fr.tag) (by simpa using e.symm)),fun y hy=>kE (h.own y hy) hw (fun k hk=>h.tagF hk)⟩,⟨fun i hi=>?_,hr.tb.set _ _ _,fun y hy=>(hr.nd y hy).set _ _ _,hr.apart⟩,hw⟩
 ·exact (Lr.aG (fun e=>by have:1=0:=congrArg Addr.off e;omega) _).trans c0
 ·exact (Lr.aG (fun e=>by have:1=2:=congrArg Addr.off e;omega) _).trans c2
 ·obtain⟨l1,l2⟩:=hr.link i hi
  refine⟨(Lr.aG (fun e=>?_) _).trans l1,(Lr.aG (fun e=>?_) _).trans l2⟩
  ·have e2:1=(adr t l i).off+12:=congrArg Addr.off e
   omega
  ·have e2:1=(adr t l (i+1)).off+11:=congrArg Addr.off e
   omega
theorem bF.unlink (h:bF B t m room u tb l0 w) (hr:Ring t l w) (hs:∀ y∈l,y∈l0) (hj:j < l.length) {b1 o1 b2 o2:Nat} (f1:adr t l j=⟨b1,o1,none⟩) (f2:adr t l (j+2)=⟨b2,o2,none⟩) (k1:b1=t∨∃ y∈l,y.k=b1) (k2:b2=t∨∃ y∈l,y.k=b2) :
  bF B t m room u tb l0 ((w.setCell ⟨b1,o1+12,none⟩ (.pointer (some ⟨b2,o2,none⟩))).setCell ⟨b2,o2+11,none⟩ (.pointer (some ⟨b1,o1,none⟩))) ∧
  Ring t (l.eraseIdx j) ((w.setCell ⟨b1,o1+12,none⟩ (.pointer (some ⟨b2,o2,none⟩))).setCell ⟨b2,o2+11,none⟩ (.pointer (some ⟨b1,o1,none⟩))) ∧
  aO (LrF t m l0) w (LrF t m l0) ((w.setCell ⟨b1,o1+12,none⟩ (.pointer (some ⟨b2,o2,none⟩))).setCell ⟨b2,o2+11,none⟩ (.pointer (some ⟨b1,o1,none⟩))):=by
 have hR:=hr.unlink hj
 rw[f1,f2]at hR
 obtain⟨a1,a2⟩:=h.set (k1.imp id (fun⟨y,hy,e⟩=>⟨y,hs y hy,e⟩)) (i:=o1+12) (by omega) (.pointer (some ⟨b2,o2,none⟩))
 obtain⟨a3,a4⟩:=a1.set (k2.imp id (fun⟨y,hy,e⟩=>⟨y,hs y hy,e⟩)) (i:=o2+11) (by omega) (.pointer (some ⟨b1,o1,none⟩))
 exact⟨a3,hR,a2.trans a4⟩
theorem bF.front (h:bF B t m room u tb l0 w) (hr:Ring t l w) (hs:∀ y∈l,y∈l0) (hx:x∈l0) (hn:∀ y∈l,y.k≠x.k) {b o:Nat} (f:adr t l 1=⟨b,o,none⟩) (kb:b=t∨∃ y∈l,y.k=b) {u1 u2:Value} (c1:w.cell? ⟨x.k,11,none⟩=some u1) (c2:w.cell? ⟨x.k,12,none⟩=some u2) :
  bF B t m room u tb l0 ((((w.setCell ⟨x.k,11,none⟩ (.pointer (some ⟨t,3,none⟩))).setCell ⟨x.k,12,none⟩ (.pointer (some ⟨b,o,none⟩))).setCell ⟨t,15,none⟩ (.pointer (some ⟨x.k,0,none⟩))).setCell ⟨b,o+11,none⟩ (.pointer (some ⟨x.k,0,none⟩))) ∧
  Ring t (x::l) ((((w.setCell ⟨x.k,11,none⟩ (.pointer (some ⟨t,3,none⟩))).setCell ⟨x.k,12,none⟩ (.pointer (some ⟨b,o,none⟩))).setCell ⟨t,15,none⟩ (.pointer (some ⟨x.k,0,none⟩))).setCell ⟨b,o+11,none⟩ (.pointer (some ⟨x.k,0,none⟩))) ∧
  aO (LrF t m l0) w (LrF t m l0) ((((w.setCell ⟨x.k,11,none⟩ (.pointer (some ⟨t,3,none⟩))).setCell ⟨x.k,12,none⟩ (.pointer (some ⟨b,o,none⟩))).setCell ⟨t,15,none⟩ (.pointer (some ⟨x.k,0,none⟩))).setCell ⟨b,o+11,none⟩ (.pointer (some ⟨x.k,0,none⟩))):=by
 have hR:=hr.front (h.node x hx).2 hn ((h.node x hx).2.tag.ne h.fr.tag (by decide)) c1 c2
 rw[f]at hR
 have qx:x.k=t∨∃ y∈l0,y.k=x.k:=.inr ⟨x,hx,rfl⟩
 obtain⟨a1,a2⟩:=h.set qx (i:=11) (by omega) (.pointer (some ⟨t,3,none⟩))
 obtain⟨a3,a4⟩:=a1.set qx (i:=12) (by omega) (.pointer (some ⟨b,o,none⟩))
 obtain⟨a5,a6⟩:=a3.set (.inl rfl) (i:=15) (by omega) (.pointer (some ⟨x.k,0,none⟩))
 obtain⟨a7,a8⟩:=a5.set (kb.imp id (fun⟨y,hy,e⟩=>⟨y,hs y hy,e⟩)) (i:=o+11) (by omega) (.pointer (some ⟨x.k,0,none⟩))
 exact⟨a7,hR,((a2.trans a4).trans a6).trans a8⟩
theorem bF.at_ (h:bF B t m room (Lr.used l) tb l0 w) (hr:Ring t l w) (hs:∀ y∈l,y∈l0) (hu:D.Up tb) (hf:∀ id,D.find tb id=(Lr.peek l id).map (·.k)) (h1:(Lr.ids l).Nodup) (h2:Lr.used l≤room∧room≤1073741824) (h3:∀ y∈l,1≤y.z)
  (h4:∀ y∈l,y.id.size≤1073741824∧y.p.E.fs.length≤1099511627776∧y.p.E.body.length≤1099511627776) (h5:B≤t∧B≤m∧∀ y∈l,B≤y.k):fG B t m room l w :=
 ⟨hr,h.tabc,fun y hy=>(h.node y (hs y hy)).1,⟨tb,hu,h.items,hf⟩,fun y hy=>h.own y (hs y hy),h1,h2,h3,h4,h5⟩
theorem bF.look (h:bF B t m room u tb l0 w) (id:ByteArray) (hs:id.size≤1073741824) :
  (Instr.lookup 120 (.map (some m)) (.string id) false).run Tryz.prog w=.ok (D.kN (fun n=>n) (D.find tb id)) w:=by
 obtain⟨v,ps,hr,hv⟩:=h.items.lookup (string_keyed bT) Lr.mapT_ul (Lr.zeroNode w) (zd:=.nil) (zp:=[]) rfl (jJ id (by simp only[maxLen];omega))
 rw[hr]
 rw[D.kL]at hv
 cases hf:D.find tb id with
 | none=>rw[hf]at hv;rw[D.aEE hv];rfl
 | some no=>rw[hf]at hv;rw[D.yI hv];rfl
end
end Go.Proofs.YthjeglnkgdpijaaGreatDoor
