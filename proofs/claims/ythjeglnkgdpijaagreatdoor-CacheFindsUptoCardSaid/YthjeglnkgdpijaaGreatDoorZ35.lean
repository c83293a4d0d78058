/- A disk where nothing fails, told by what its files hold. A store over a disk where nothing fails: a Put that is refused leaves all as it was. Conditions: as each theorem states them. -/
import Derived.Test.YthjeglnkgdpijaaGreatDoorZ19
namespace Go.Proofs.YthjeglnkgdpijaaGreatDoor
namespace D
theorem fO (l:NM) (nm x:ByteArray):find (del l nm) x=if x=nm then none else find l x:=by
 unfold find del
 induction l with
 | nil=>simp
 | cons p r ih =>
  by_cases h1:p.1=nm
  ·rw[List.filter_cons_of_neg (by simpa using h1),ih]
   by_cases h2:x=nm
   ·rw[if_pos h2,if_pos h2]
   ·rw[if_neg h2,if_neg h2,List.find?_cons]
    have:decide (p.1=x)=false:=decide_eq_false (fun h=>h2 (h ▸ h1))
    rw[this]
  ·rw[List.filter_cons_of_pos (by simpa using h1),List.find?_cons,List.find?_cons]
   by_cases h3:p.1=x
   ·have h4:¬ x=nm:=fun h=>h1 (h3.trans h)
    rw[decide_eq_true h3,if_neg h4]
   ·rw[decide_eq_false h3]
    exact ih
theorem aM9 {l:NM} {nm:ByteArray} {no:Nat} (hn:∀ p∈l,p.1≠nm) (x:ByteArray):find (ins l nm no) x=if x=nm then some no else find l x:=by
 unfold find
 induction l with
 | nil =>
  unfold ins
  by_cases h:x=nm
  ·subst h;simp
  ·have:¬ nm=x:=fun e=>h e.symm
   simp [h,this]
 | cons p r ih =>
  have hp:=hn p (by simp)
  have ih2:=ih (fun q hq=>hn q (List.mem_cons_of_mem _ hq))
  unfold ins
  split
  ·rw[List.find?_cons]
   by_cases h:x=nm
   ·subst h;simp
   ·have:¬ nm=x:=fun e=>h e.symm
    simp [h,this]
  ·rw[List.find?_cons,List.find?_cons]
   by_cases h3:p.1=x
   ·have h4:¬ x=nm:=fun h=>hp (h3.trans h)
    rw[decide_eq_true h3,if_neg h4]
   ·rw[decide_eq_false h3]
    exact ih2
theorem dN (l:NM) (nm:ByteArray) (no:Nat) (x:ByteArray):find (put l nm no) x=if x=nm then some no else find l x:=by
 unfold put
 rw[aM9 (fun p hp=>(aW.1 hp).2),fO]
 by_cases h:x=nm
 ·rw[if_pos h,if_pos h]
 ·rw[if_neg h,if_neg h,if_neg h]
theorem dM {l:NM} (hu:Up l) {p:ByteArray × Nat} (hp:p∈l):find l p.1=some p.2:=by
 unfold find
 induction l with
 | nil=>cases hp
 | cons q r ih =>
  obtain⟨h1,h2⟩:=List.pairwise_cons.1 hu
  rw[List.find?_cons]
  rcases List.mem_cons.1 hp with rfl | hp
  ·simp
  ·have hne:¬ q.1=p.1:=fun e=>by
    have:=h1 p hp
    rw[e,lt_irrefl]at this
    cases this
   rw[decide_eq_false hne]
   exact ih h2 hp
theorem fH {l:NM} {x:ByteArray}:(find l x).isSome=true↔∃ no,(x,no)∈l:=by
 constructor
 ·intro h
  obtain⟨no,hno⟩:=Option.isSome_iff_exists.1 h
  exact⟨no,aI hno⟩
 ·rintro⟨no,h⟩
  cases hf:find l x with
  | some _=>rfl
  | none=>exact absurd rfl (kG hf _ h)
theorem aEU:∀ {l m:NM},Up l→Up m→(∀ x,(find l x).isSome=(find m x).isSome)→l.map (·.1)=m.map (·.1)
 | [],[],_,_,_=>rfl
 | [],q::_,_,_,h=>by
  have:=h q.1
  simp [find]at this
 | p::_,[],_,_,h=>by
  have:=h p.1
  simp [find]at this
 | p::l,q::m,hl,hm,h=>by
  obtain⟨h1,h2⟩:=List.pairwise_cons.1 hl
  obtain⟨h3,h4⟩:=List.pairwise_cons.1 hm
  have ha:∃ no,(p.1,no)∈q::m:=fH.1 (by rw[← h];exact fH.2 ⟨p.2,by simp⟩)
  have hb:∃ no,(q.1,no)∈p::l:=fH.1 (by rw[h];exact fH.2 ⟨q.2,by simp⟩)
  have e:p.1=q.1:=by
   obtain⟨a,ha⟩:=ha
   obtain⟨b,hb⟩:=hb
   rcases List.mem_cons.1 ha with ha | ha
   ·rw[← ha]
   ·rcases List.mem_cons.1 hb with hb | hb
    ·rw[← hb]
    ·have t1:=h3 _ ha
     have t2:=h1 _ hb
     have:=lt_trans t1 t2
     rw[lt_irrefl]at this
     cases this
  rw[List.map_cons,List.map_cons,e]
  congr 1
  refine aEU h2 h4 (fun x=>?_)
  have hx:=h x
  unfold find at hx ⊢
  rw[List.find?_cons,List.find?_cons]at hx
  by_cases e2:p.1=x
  ·have e3:q.1=x:=e.symm.trans e2
   have n1:l.find? (fun p=>decide (p.1=x))=none:=List.find?_eq_none.2 (fun r hr=>by
    have:=h1 r hr
    intro hc
    rw[e2,of_decide_eq_true hc,lt_irrefl]at this
    cases this)
   have n2:m.find? (fun p=>decide (p.1=x))=none:=List.find?_eq_none.2 (fun r hr=>by
    have:=h3 r hr
    intro hc
    rw[e3,of_decide_eq_true hc,lt_irrefl]at this
    cases this)
   rw[n1,n2]
  ·have e3:¬ q.1=x:=fun h=>e2 (e.trans h)
   rw[decide_eq_false e2,decide_eq_false e3]at hx
   exact hx
def cont (d:Dsk) (x:ByteArray):Option (List UInt8):=(find d.now x).map fun no=>d.data.getD no []
structure Clm (d:Dsk):Prop where
 power:d.power=-1
 fails:d.fails=[]
 ok:d.Ok
 one:∀ p∈d.now,∀ q∈d.now,p.2=q.2→p=q
 room:(d.used:Int)≤d.room
def tick (d:Dsk):Dsk:={ d with n:=d.n+1 }
section
variable {d:Dsk} {nm:ByteArray} {c:List UInt8}
theorem Clm.up (h:Clm d):d.down=false:=by
 unfold Dsk.down
 rw[h.power]
 rfl
theorem Clm.begin (h:Clm d) {ns:List ByteArray} (hg:ns.all good=true):d.begin ns=(tick d,0):=by
 unfold Dsk.begin
 rw[h.up,h.fails,hg,if_neg (by decide),if_neg (by simp),if_pos rfl,← h.fails]
 rfl
theorem Clm.tick (h:Clm d):Clm (tick d):=⟨h.power,h.fails,h.ok.count _,h.one,h.room⟩
theorem Clm.on (h:Clm d) {more:List ByteArray} (hg:(more++[nm]).all good=true) (f:Dsk→Nat→Dsk × Int) {no:Nat} (hf:find d.now nm=some no):d.on nm more f=f (D.tick d) no:=by
 unfold Dsk.on
 rw[h.begin hg]
 show (if (0:Int)≠0 then _ else match find d.now nm with | none=>_ | some no=>_)=_
 rw[if_neg (by decide),hf]
theorem dV (hc:cont d nm=some c):∃ no,find d.now nm=some no∧d.data.getD no []=c:=by
 unfold cont at hc
 rw[Option.map_eq_some_iff]at hc
 exact hc
theorem aCI (hc:cont d nm=none):find d.now nm=none:=by
 unfold cont at hc
 rwa [Option.map_eq_none_iff]at hc
theorem kL (hg:good nm=true):([nm]:List ByteArray).all good=true:=by simp [hg]
theorem mP {f g:ByteArray × Nat→Nat}:∀ (l:NM),(∀ p∈l,f p≤g p)→(l.map f).sum≤(l.map g).sum
 | [],_=>zA _
 | p::r,h=>by
  rw[List.map_cons,List.map_cons,List.sum_cons,List.sum_cons]
  exact Nat.add_le_add (h p (by simp)) (mP r fun q hq=>h q (List.mem_cons_of_mem _ hq))
theorem aC8 (f:ByteArray × Nat→Nat) (nm:ByteArray) (no:Nat):∀ l:NM,((ins l nm no).map f).sum=f (nm,no)+(l.map f).sum
 | []=>by simp [ins]
 | p::r=>by
  unfold ins
  split
  ·simp
  ·rw[List.map_cons,List.sum_cons,aC8 f nm no r,List.map_cons,List.sum_cons]
   omega
theorem sN (f:ByteArray × Nat→Nat) (nm:ByteArray) (l:NM):((del l nm).map f).sum≤(l.map f).sum:=by
 unfold del
 induction l with
 | nil=>exact zA _
 | cons p r ih =>
  rw[List.filter_cons]
  split<;>simp only[List.map_cons,List.sum_cons]<;>omega
theorem lQ (f:ByteArray × Nat→Nat) {nm:ByteArray} {no:Nat}:∀ {l:NM},(nm,no)∈l→((del l nm).map f).sum+f (nm,no)≤(l.map f).sum
 | p::r,h=>by
  rcases List.mem_cons.1 h with rfl | h
  ·unfold del
   rw[List.filter_cons_of_neg (by simp),List.map_cons,List.sum_cons]
   have:=sN f nm r
   unfold del at this
   omega
  ·have ih:=lQ f h
   unfold del at ih ⊢
   rw[List.filter_cons]
   split<;>simp only[List.map_cons,List.sum_cons]<;>omega
theorem lU {l:NM} {no:Nat} (h:∀ p∈l,∀ q∈l,p.2=q.2→p=q) (hn:∀ p∈l,p.2≠no):∀ p∈put l nm no,∀ q∈put l nm no,p.2=q.2→p=q:=by
 intro p hp q hq e
 rcases aX.1 hp with rfl | hp
 ·rcases aX.1 hq with rfl | hq
  ·rfl
  ·exact absurd e.symm (hn q hq.1)
 ·rcases aX.1 hq with rfl | hq
  ·exact absurd e (hn p hp.1)
  ·exact h p hp.1 q hq.1 e
theorem oN {l:NM} (h:∀ p∈l,∀ q∈l,p.2=q.2→p=q):∀ p∈del l nm,∀ q∈del l nm,p.2=q.2→p=q:=fun p hp q hq e=>h p (aW.1 hp).1 q (aW.1 hq).1 e
theorem Clm.create (h:Clm d) (hg:good nm=true) (hn:cont d nm=none):(d.create nm).2=0∧Clm (d.create nm).1∧∀ x,cont (d.create nm).1 x=if x=nm then some [] else cont d x:=by
 have hf:=aCI hn
 have e:d.create nm=(({ D.tick d with data:=d.data++[[]],firm:=d.firm++[0] }:Dsk).alter (.put nm d.data.length),0):=by
  unfold Dsk.create
  rw[h.begin (kL hg)]
  show (if (0:Int)≠0 then _ else if (find d.now nm).isSome then _ else _)=_
  rw[if_neg (by decide),hf]
  rfl
 rw[e]
 have hsz:∀ p∈d.now,(d.data++[([]:List UInt8)]).getD p.2 []=d.data.getD p.2 []:=fun p hp=>by simp [List.getD,List.getElem?_append_left (h.ok.inN p hp)]
 have hlast:(d.data++[([]:List UInt8)]).getD d.data.length []=[]:=by simp [List.getD]
 refine⟨rfl,⟨h.power,h.fails,(h.ok.count _).newFile.alter (c:=.put nm d.data.length) (by show d.data.length < (d.data++[([]:List UInt8)]).length;simp),lU h.one (fun p hp=>Nat.ne_of_lt (h.ok.inN p hp)),?_⟩,fun x=>?_⟩
 ·have hr:=h.room
  unfold Dsk.used Dsk.size at hr ⊢
  show (((((put d.now nm d.data.length).map fun p=>((d.data++[([]:List UInt8)]).getD p.2 []).length)).sum:Nat):Int)≤d.room
  unfold put
  rw[aC8]
  dsimp only
  rw[hlast]
  have h1:=sN (fun p=>((d.data++[([]:List UInt8)]).getD p.2 []).length) nm d.now
  have h2:=mP (f:=fun p=>((d.data++[([]:List UInt8)]).getD p.2 []).length) (g:=fun p=>(d.data.getD p.2 []).length) d.now (fun p hp=>by rw[hsz p hp];exact zA _)
  simp only[List.length_nil]
  omega
 ·show ((find (put d.now nm d.data.length) x).map fun no=>(d.data++[([]:List UInt8)]).getD no [])=_
  rw[dN]
  by_cases hx:x=nm
  ·rw[if_pos hx,if_pos hx,Option.map_some,hlast]
  ·rw[if_neg hx,if_neg hx]
   unfold cont
   cases hfx:find d.now x with
   | none=>rfl
   | some no=>rw[Option.map_some,Option.map_some,hsz _ (aI hfx)]
theorem Clm.append (h:Clm d) (hg:good nm=true) (hc:cont d nm=some c) (b:List UInt8) :
  ((d.append nm b).2=92∧Clm (d.append nm b).1∧∀ x,cont (d.append nm b).1 x=cont d x)∨((d.append nm b).2=0∧Clm (d.append nm b).1∧∀ x,cont (d.append nm b).1 x=if x=nm then some (c++b) else cont d x):=by
 obtain⟨no,hf,hd⟩:=dV hc
 have hno:=h.ok.inN _ (aI hf)
 have e:d.append nm b=(if 0 < b.length∧d.room < (d.used:Int)+b.length then (D.tick d,92) else ({ D.tick d with data:=d.data.set no (d.data.getD no []++b) },0)):=h.on (kL hg) _ hf
 rw[e]
 by_cases hr:0 < b.length∧d.room < (d.used:Int)+b.length
 ·rw[if_pos hr]
  exact .inl ⟨rfl,h.tick,fun _=>rfl⟩
 ·rw[if_neg hr]
  have hsame:∀ p∈d.now,p.1≠nm→(d.data.set no (d.data.getD no []++b)).getD p.2 []=d.data.getD p.2 []:=fun p hp hne=>by
   have:no≠p.2:=fun e=>hne (congrArg Prod.fst (h.one _ (aI hf) p hp e)).symm
   simp [List.getD,List.getElem?_set_ne this]
  have hself:(d.data.set no (d.data.getD no []++b)).getD no []=c++b:=by
   rw[← hd]
   simp [List.getD,hno]
  refine .inr ⟨rfl,⟨h.power,h.fails,(h.ok.count _).data no b,h.one,?_⟩,fun x=>?_⟩
  ·have h0:=h.room
   have h1:=lQ (fun p=>(d.data.getD p.2 []).length) (aI hf)
   have h2:=mP (f:=fun p=>((d.data.set no (d.data.getD no []++b)).getD p.2 []).length) (g:=fun p=>(d.data.getD p.2 []).length+if p.1=nm then b.length else 0) d.now (fun p hp=>by
    by_cases hp1:p.1=nm
    ·have:p.2=no:=by
      have:=aI hf
      have e2:=h.ok.upN
      have e3:=dM e2 hp
      rw[hp1,hf]at e3
      exact (Option.some.inj e3).symm
     rw[if_pos hp1,this,hself,← hd,bC]
     exact zA _
    ·rw[if_neg hp1,hsame p hp hp1]
     exact zA _)
   have h3:(d.now.map fun p=>(d.data.getD p.2 []).length+if p.1=nm then b.length else 0).sum≤(d.now.map fun p=>(d.data.getD p.2 []).length).sum+b.length:=by
    have hup:=h.ok.upN
    clear h1 h2 hsame hself hr e h0 hf hc hno hd h
    generalize d.now=l at *
    induction l with
    | nil=>simp
    | cons p r ih =>
     obtain⟨u1,u2⟩:=List.pairwise_cons.1 hup
     simp only[List.map_cons,List.sum_cons]
     by_cases hp1:p.1=nm
     ·have hz:(r.map fun p=>(d.data.getD p.2 []).length+if p.1=nm then b.length else 0).sum≤(r.map fun p=>(d.data.getD p.2 []).length).sum:=mP r (fun q hq=>by
       have:¬ q.1=nm:=fun e=>by
        have:=u1 q hq
        rw[hp1,e,lt_irrefl]at this
        cases this
       rw[if_neg this]
       exact zA _)
      rw[if_pos hp1]
      omega
     ·rw[if_neg hp1]
      have:=ih u2
      omega
   have hused:d.used=(d.now.map fun p=>(d.data.getD p.2 []).length).sum:=rfl
   show (((d.now.map fun p=>((d.data.set no (d.data.getD no []++b)).getD p.2 []).length).sum:Nat):Int)≤d.room
   by_cases hb:0 < b.length
   ·have:¬ d.room < (d.used:Int)+b.length:=fun h=>hr ⟨hb,h⟩
    omega
   ·have:b.length=0:=by omega
    rw[hused]at h0
    omega
  ·show ((find d.now x).map fun i=>(d.data.set no (d.data.getD no []++b)).getD i [])=_
   by_cases hx:x=nm
   ·rw[if_pos hx,hx,hf,Option.map_some,hself]
   ·rw[if_neg hx]
    unfold cont
    cases hfx:find d.now x with
    | none=>rfl
    | some i=>rw[Option.map_some,Option.map_some,hsame _ (aI hfx) hx]
theorem Clm.sync (h:Clm d) (hg:good nm=true) (hc:cont d nm=some c):(d.sync nm).2=0∧Clm (d.sync nm).1∧∀ x,cont (d.sync nm).1 x=cont d x:=by
 obtain⟨no,hf,hd⟩:=dV hc
 have e:d.sync nm=({ D.tick d with firm:=d.firm.set no (d.size no) },0):=h.on (kL hg) _ hf
 rw[e]
 exact⟨rfl,⟨h.power,h.fails,(h.ok.count _).firm no,h.one,h.room⟩,fun _=>rfl⟩
theorem Clm.syncNames (h:Clm d):d.syncNames.2=0∧Clm d.syncNames.1∧∀ x,cont d.syncNames.1 x=cont d x:=by
 have e:d.syncNames=({ D.tick d with safe:=d.now,pend:=[] },0):=by
  unfold Dsk.syncNames
  rw[h.begin (ns:=[]) rfl]
  rfl
 rw[e]
 exact⟨rfl,⟨h.power,h.fails,(h.ok.count _).synced,h.one,h.room⟩,fun _=>rfl⟩
theorem Clm.remove (h:Clm d) (hg:good nm=true) (hc:cont d nm=some c):(d.remove nm).2=0∧Clm (d.remove nm).1∧∀ x,cont (d.remove nm).1 x=if x=nm then none else cont d x:=by
 obtain⟨no,hf,hd⟩:=dV hc
 have e:d.remove nm=((D.tick d).alter (.del nm),0):=h.on (kL hg) _ hf
 rw[e]
 refine⟨rfl,⟨h.power,h.fails,(h.ok.count _).alter (c:=.del nm) trivial,oN h.one,?_⟩,fun x=>?_⟩
 ·have h1:=sN (fun p=>d.size p.2) nm d.now
  have h2:=h.room
  show ((((del d.now nm).map fun p=>d.size p.2).sum:Nat):Int)≤d.room
  unfold Dsk.used at h2
  omega
 ·show ((find (del d.now nm) x).map fun i=>d.data.getD i [])=_
  rw[fO]
  by_cases hx:x=nm
  ·rw[if_pos hx,if_pos hx,Option.map_none]
  ·rw[if_neg hx,if_neg hx]
   rfl
theorem Clm.rename (h:Clm d) {to_:ByteArray} (hg:good nm=true) (hg2:good to_=true) (hne:nm≠to_) (hc:cont d nm=some c):(d.rename nm to_).2=0∧Clm (d.rename nm to_).1∧∀ x,cont (d.rename nm to_).1 x=if x=to_ then some c else if x=nm then none else cont d x:=by
 obtain⟨no,hf,hd⟩:=dV hc
 have e:d.rename nm to_=((D.tick d).alter (.ren nm to_ no),0):=by
  refine (h.on (more:=[to_]) (by simp [hg,hg2]) _ hf).trans ?_
  rw[if_neg hne]
 rw[e]
 refine⟨rfl,⟨h.power,h.fails,(h.ok.count _).alter (c:=.ren nm to_ no) (h.ok.inN _ (aI hf)),lU (oN h.one) (fun p hp e2=>(aW.1 hp).2 (congrArg Prod.fst (h.one p (aW.1 hp).1 _ (aI hf) e2))),?_⟩,fun x=>?_⟩
 ·have h1:=lQ (fun p=>d.size p.2) (aI hf)
  have h2:=h.room
  have h3:=sN (fun p=>d.size p.2) to_ (del d.now nm)
  show ((((put (del d.now nm) to_ no).map fun p=>d.size p.2).sum:Nat):Int)≤d.room
  unfold Dsk.used at h2
  unfold put
  rw[aC8]
  dsimp only at h1 ⊢
  omega
 ·show ((find (put (del d.now nm) to_ no) x).map fun i=>d.data.getD i [])=_
  rw[dN,fO]
  by_cases hx:x=to_
  ·rw[if_pos hx,if_pos hx,Option.map_some,hd]
  ·rw[if_neg hx,if_neg hx]
   by_cases hx2:x=nm
   ·rw[if_pos hx2,if_pos hx2,Option.map_none]
   ·rw[if_neg hx2,if_neg hx2]
    rfl
theorem Clm.read (h:Clm d) (hg:good nm=true):d.read nm=match cont d nm with | some c=>(c,0) | none=>([],90):=by
 unfold Dsk.read cont
 rw[h.up,hg,if_neg (by decide),if_neg (by decide)]
 cases find d.now nm<;>rfl
theorem Clm.mem (h:Clm d) (x:ByteArray):x∈d.list↔(cont d x).isSome=true:=by
 unfold Dsk.list cont
 rw[h.up,if_neg (by decide),Option.isSome_map,fH,List.mem_map]
 constructor
 ·rintro⟨p,hp,rfl⟩
  exact⟨p.2,hp⟩
 ·rintro⟨no,hp⟩
  exact⟨_,hp,rfl⟩
theorem Clm.names (h:Clm d) {d':Dsk} (h':Clm d') (hx:∀ x,(cont d' x).isSome=(cont d x).isSome):d'.list=d.list:=by
 unfold Dsk.list
 rw[h.up,h'.up,if_neg (by decide),if_neg (by decide)]
 refine aEU h'.ok.upN h.ok.upN (fun x=>?_)
 have:=hx x
 unfold cont at this
 rwa [Option.isSome_map,Option.isSome_map]at this
end
end D
namespace S
theorem zT:∀ i:Fin 16,D.okB (hx i.1)=true:=by decide
theorem aRP:∀ i j:Fin 16,hx i.1=hx j.1→i=j:=by decide
theorem aFK {i j:Nat} (hi:i < 16) (hj:j < 16) (h:hx i=hx j):i=j:=congrArg Fin.val (aRP ⟨i,hi⟩ ⟨j,hj⟩ h)
theorem oL {no:Nat} (h:no < 4096):path no=⟨#[111,47,hx (no / 1024),hx (no / 64 % 16),47,hx (no % 64 / 16),hx (no % 16)]⟩:=if_pos h
theorem fA {no:Nat} (h:no < 4096):D.good (path no)=true:=by
 rw[oL h]
 have h1:=zT ⟨no / 1024,by omega⟩
 have h2:=zT ⟨no / 64 % 16,by omega⟩
 have h3:=zT ⟨no % 64 / 16,by omega⟩
 have h4:=zT ⟨no % 16,by omega⟩
 dsimp only at h1 h2 h3 h4
 unfold D.good
 have hl:L ⟨#[111,47,hx (no / 1024),hx (no / 64 % 16),47,hx (no % 64 / 16),hx (no % 16)]⟩=[111,47,hx (no / 1024),hx (no / 64 % 16),47,hx (no % 64 / 16),hx (no % 16)]:=rfl
 have hs:(⟨#[111,47,hx (no / 1024),hx (no / 64 % 16),47,hx (no % 64 / 16),hx (no % 16)]⟩:ByteArray).size=7:=rfl
 rw[hl,hs]
 have e1:D.okB 111=true:=by decide
 have e2:D.okB 47=true:=by decide
 simp only[List.all_cons,List.all_nil,h1,h2,h3,h4,e1,e2]
 decide
theorem cO {a b:Nat} (ha:a < 4096) (hb:b < 4096) (h:path a=path b):a=b:=by
 rw[oL ha,oL hb]at h
 injection h with h
 have h2:=congrArg Array.toList h
 simp only[List.cons.injEq,true_and,and_true]at h2
 obtain⟨h3,h4,h5,h6⟩:=h2
 have:=aFK (by omega) (by omega) h3
 have:=aFK (by omega) (by omega) h4
 have:=aFK (by omega) (by omega) h5
 have:=aFK (by omega) (by omega) h6
 omega
theorem aY {a:Nat} (ha:a < 4096):path a≠bT:=by
 rw[oL ha]
 intro h
 have:(7:Nat)=3:=congrArg ByteArray.size h
 omega
theorem kR {a:Nat} (ha:a < 4096):path a≠dE:=by
 rw[oL ha]
 intro h
 injection h with h
 have h2:=congrArg Array.toList h
 simp only[List.cons.injEq]at h2
 exact absurd h2.1 (by decide)
theorem dZ:D.good bT=true:=by decide
theorem fZ:D.good dE=true:=by decide
theorem jM:dE≠bT:=by
 intro h
 have:(7:Nat)=3:=congrArg ByteArray.size h
 omega
open D (cont Clm)
section
variable {d:D.Dsk} {p:ByteArray}
theorem aMU (h:Clm d) (hg:D.good p=true) (hc:cont d p=none) (b:List UInt8) :
  ((lay d p b).2=(true,92)∧Clm (lay d p b).1∧∀ x,cont (lay d p b).1 x=if x=p then some [] else cont d x)∨((lay d p b).2=(true,0)∧Clm (lay d p b).1∧∀ x,cont (lay d p b).1 x=if x=p then some b else cont d x):=by
 have h0:¬ has d.list p=true:=fun hm=>by
  rw[has_iff,h.mem,hc]at hm
  cases hm
 obtain⟨e1,c1,k1⟩:=h.create hg hc
 have hc1:cont (d.create p).1 p=some []:=by rw[k1,if_pos rfl]
 unfold lay
 rw[if_neg h0]
 dsimp only
 rw[if_neg (by decide),if_neg (by rw[e1];decide)]
 rcases c1.append hg hc1 b with ⟨e2,c2,k2⟩ | ⟨e2,c2,k2⟩
 ·rw[if_pos (by rw[e2];decide)]
  exact .inl ⟨by rw[e2],c2,fun x=>by rw[k2,k1]⟩
 ·have hc2:cont ((d.create p).1.append p b).1 p=some ([]++b):=by rw[k2,if_pos rfl]
  obtain⟨e3,c3,k3⟩:=c2.sync hg hc2
  obtain⟨e4,c4,k4⟩:=c3.syncNames
  rw[if_neg (by rw[e2];decide),if_neg (by rw[e3];decide)]
  refine .inr ⟨by rw[e4],c4,fun x=>?_⟩
  show cont _ x=_
  rw[k4,k3,k2,k1]
  by_cases hx:x=p
  ·rw[if_pos hx,if_pos hx,List.nil_append]
  ·rw[if_neg hx,if_neg hx,if_neg hx]
theorem aN2 (h:Clm d) {c:List UInt8} (hc:cont d bT=some c) (count:Nat) (op no:Int) (id:ByteArray) (hr:R.code ⟨count,op,no,id⟩=0) :
  ((add d count op no id).2=(count,92)∧Clm (add d count op no id).1∧∀ x,cont (add d count op no id).1 x=cont d x) ∨
  ((add d count op no id).2=(count+1,0)∧Clm (add d count op no id).1∧∀ x,cont (add d count op no id).1 x=if x=bT then some (c++R.enc ⟨count,op,no,id⟩) else cont d x):=by
 unfold add
 rw[if_neg (by rw[hr];decide)]
 rcases h.append dZ hc (R.enc ⟨count,op,no,id⟩) with ⟨e2,c2,k2⟩ | ⟨e2,c2,k2⟩
 ·rw[if_pos (by rw[e2];decide)]
  exact .inl ⟨by rw[e2],c2,k2⟩
 ·have hc2:cont (d.append bT (R.enc ⟨count,op,no,id⟩)).1 bT=some (c++R.enc ⟨count,op,no,id⟩):=by rw[k2,if_pos rfl]
  obtain⟨e3,c3,k3⟩:=c2.sync dZ hc2
  rw[if_neg (by rw[e2];decide)]
  exact .inr ⟨by rw[e3],c3,fun x=>by rw[k3,k2]⟩
theorem aBC (h:Clm d) {c:List UInt8} (hc:cont d bT=some c) (hn:cont d dE=none) (count:Nat) (list:List R.Rc) :
  Clm (rewrite d count list).1∧(∃ c,cont (rewrite d count list).1 bT=some c)∧(∀ x,x≠bT→cont (rewrite d count list).1 x=cont d x)∧((rewrite d count list).2.1=count∨(rewrite d count list).2.1=list.length):=by
 unfold rewrite
 by_cases h0:(R.bH list 0 []).2≠0
 ·rw[if_pos h0]
  exact⟨h,⟨c,hc⟩,fun _ _=>rfl,.inl rfl⟩
 rw[if_neg h0]
 obtain⟨e1,c1,k1⟩:=h.create fZ hn
 generalize hb:(R.bH list 0 []).1=b
 have hc1:cont (d.create dE).1 dE=some []:=by rw[k1,if_pos rfl]
 rcases c1.append fZ hc1 b with ⟨e2,c2,k2⟩ | ⟨e2,c2,k2⟩
 ·have hs:steps d (moves b)=(((d.create dE).1.append dE b).1,1,92):=by
   simp [steps,moves,e1,e2]
  rw[hs]
  dsimp only
  rw[if_neg (by decide),if_neg (by decide)]
  have hc2:cont ((d.create dE).1.append dE b).1 dE=some []:=by rw[k2,hc1]
  obtain⟨e3,c3,k3⟩:=c2.remove fZ hc2
  have k4:∀ x,cont (((d.create dE).1.append dE b).1.remove dE).1 x=cont d x:=fun x=>by
   rw[k3,k2,k1]
   by_cases hx:x=dE
   ·rw[if_pos hx,hx,hn]
   ·rw[if_neg hx,if_neg hx]
  exact⟨c3,⟨c,by rw[k4,hc]⟩,fun x _=>k4 x,.inl rfl⟩
 ·have hc2:cont ((d.create dE).1.append dE b).1 dE=some ([]++b):=by rw[k2,if_pos rfl]
  obtain⟨e3,c3,k3⟩:=c2.sync fZ hc2
  have hc3:cont (((d.create dE).1.append dE b).1.sync dE).1 dE=some ([]++b):=by rw[k3,hc2]
  obtain⟨e4,c4,k4⟩:=c3.rename fZ dZ jM hc3
  obtain⟨e5,c5,k5⟩:=c4.syncNames
  have hs:steps d (moves b)=(((((d.create dE).1.append dE b).1.sync dE).1.rename dE bT).1,4,0):=by
   simp [steps,moves,e1,e2,e3,e4]
  rw[hs]
  dsimp only
  rw[if_pos rfl]
  refine⟨c5,⟨_,by rw[k5,k4,if_pos rfl]⟩,fun x hx=>?_,.inr rfl⟩
  rw[k5,k4,if_neg hx,k3,k2,k1]
  by_cases hx2:x=dE
  ·rw[if_pos hx2,hx2,hn]
  ·rw[if_neg hx2,if_neg hx2,if_neg hx2]
end
structure Inv (s:Sto):Prop where
 calm:Clm s.d
 log:∃ c,cont s.d bT=some c
 new:cont s.d dE=none
 up:D.Up s.tab
 lens:s.used.length≤4096
 tab:∀ p∈s.tab,p.2 < s.used.length∧s.used.getD p.2 false=true∧∃ c E,cont s.d (path p.2)=some c∧O.dec c=some E
 one:∀ p∈s.tab,∀ q∈s.tab,p.2=q.2→p=q
 free:∀ no,no < 4096→(cont s.d (path no)).isSome=true→s.used.getD no false=true
theorem Inv.tidy {s:Sto} (h:Inv s):Inv s.tidy∧s.tidy.tab=s.tab∧s.tidy.used=s.used∧(s.tidy.count=s.count∨s.tidy.count=s.tab.length):=by
 unfold Sto.tidy
 split
 ·exact⟨h,rfl,rfl,.inl rfl⟩
 ·obtain⟨c,hc⟩:=h.log
  obtain⟨r1,r2,r3,r4⟩:=aBC h.calm hc h.new s.count (records s.tab)
  refine⟨⟨r1,r2,(r3 _ jM).trans h.new,h.up,h.lens,fun p hp=>?_,h.one,fun no hno hi=>?_⟩,rfl,rfl,?_⟩
  ·obtain⟨t1,t2,c,E,t3,t4⟩:=h.tab p hp
   exact⟨t1,t2,c,E,(r3 _ (aY (Nat.lt_of_lt_of_le t1 h.lens))).trans t3,t4⟩
  ·exact h.free no hno (by rw[← r3 _ (aY hno)];exact hi)
  ·have e:(records s.tab).length=s.tab.length:=by unfold records;rw[List.length_map]
   rw[e]at r4
   exact r4
theorem fB {l:List Bool} {i j:Nat} {v:Bool}:(l.set i v).getD j false=if i=j∧i < l.length then v else l.getD j false:=by
 by_cases e:i=j
 ·subst e
  by_cases hl:i < l.length
  ·rw[if_pos ⟨rfl,hl⟩];simp [List.getD,hl]
  ·rw[if_neg (fun h=>hl h.2),List.set_eq_of_length_le (by omega)]
 ·rw[if_neg (fun h=>e h.1)]
  simp [List.getD,List.getElem?_set_ne e]
theorem aM2 (s:Sto) (E:O.Ent) (no:Nat) (hc:s.count≤4294967295) (hn:no < 4096) (hi:(aU E).size≤4096):R.code ⟨s.count,1,no,aU E⟩=0:=by
 unfold R.code R.word
 rw[if_pos (by simp;omega),if_pos hi]
theorem aE8 {s:Sto} (h:Inv s) (E:O.Ent) (hcnt:s.count≤4294967295) :
  ((s.put E).2≠0∧Inv (s.put E).1∧(s.put E).1.tab=s.tab∧(s.put E).1.used=s.used∧(s.put E).1.count=s.count∧∀ x,cont (s.put E).1.d x=cont s.d x) ∨
  ((s.put E).2=0∧Inv (s.put E).1∧(s.put E).1.used.length=s.used.length∧(s.put E).1.tab.length≤s.tab.length+1∧((s.put E).1.count=s.count+1∨(s.put E).1.count=(s.put E).1.tab.length)):=by
 unfold Sto.put
 by_cases h0:gU E≠0
 ·rw[if_pos h0]
  exact .inl ⟨h0,h,rfl,rfl,rfl,fun _=>rfl⟩
 rw[if_neg h0]
 by_cases h1:4096 < (aU E).size
 ·rw[if_pos h1]
  exact .inl ⟨by show (101:Int)≠0;decide,h,rfl,rfl,rfl,fun _=>rfl⟩
 rw[if_neg h1]
 have hdec:O.dec (gY E)=some E:=by
  rcases O.nK E.k E.v E.s E.r E.m E.fs E.body E.asked E.got with ⟨_,h2⟩ | ⟨h2,_⟩
  ·exact h2
  ·exact absurd h2 (by unfold gU at h0;omega)
 cases hf:s.used.findIdx? (fun x=>decide (x=false)) with
 | none=>exact .inl ⟨by show (130:Int)≠0;decide,h,rfl,rfl,rfl,fun _=>rfl⟩
 | some no =>
  dsimp only
  rw[List.findIdx?_eq_some_iff_getElem]at hf
  obtain⟨hnl,hnf,_⟩:=hf
  have hn4:no < 4096:=Nat.lt_of_lt_of_le hnl h.lens
  have hnv:s.used.getD no false=false:=by
   simp [List.getD,hnl]at hnf ⊢
   exact hnf
  have hcn:cont s.d (path no)=none:=by
   cases hcs:cont s.d (path no) with
   | none=>rfl
   | some c =>
    have:=h.free no hn4 (by rw[hcs];rfl)
    rw[hnv]at this
    cases this
  have hg:=fA hn4
  have hpl:=aY hn4
  obtain⟨cl,hcl⟩:=h.log
  have hcode:=aM2 s E no hcnt hn4 (by omega)
  have back:∀ (d:D.Dsk) (c:List UInt8),Clm d→(∀ x,cont d x=if x=path no then some c else cont s.d x)→Clm (d.remove (path no)).1∧∀ x,cont (d.remove (path no)).1 x=cont s.d x:=fun d c hd hk=>by
   obtain⟨_,r2,r3⟩:=hd.remove hg (c:=c) (by rw[hk,if_pos rfl])
   refine⟨r2,fun x=>?_⟩
   rw[r3,hk]
   by_cases hx:x=path no
   ·rw[if_pos hx,hx,hcn]
   ·rw[if_neg hx,if_neg hx]
  have refused:∀ (d:D.Dsk) (e:Int),Clm d→(∀ x,cont d x=cont s.d x)→Inv { s with d:=d }:=fun d e hd hk =>
   ⟨hd,⟨cl,by rw[hk,hcl]⟩,by rw[hk];exact h.new,h.up,h.lens,fun p hp=>by
    obtain⟨t1,t2,c,E,t3,t4⟩:=h.tab p hp
    exact⟨t1,t2,c,E,by rw[hk];exact t3,t4⟩,h.one,fun no hno hi=>h.free no hno (by rw[← hk];exact hi)⟩
  unfold Sto.entered
  rcases aMU h.calm hg hcn (gY E) with ⟨l1,l2,l3⟩ | ⟨l1,l2,l3⟩
  ·rw[l1]
   dsimp only
   rw[if_neg (show ¬ (92:Int)=0 by decide),if_pos rfl,if_pos rfl]
   obtain⟨b1,b2⟩:=back _ _ l2 l3
   exact .inl ⟨by show (92:Int)≠0;decide,refused _ 92 b1 b2,rfl,rfl,rfl,b2⟩
  ·rw[l1]
   dsimp only
   rw[if_pos rfl]
   have hcl2:cont (lay s.d (path no) (gY E)).1 bT=some cl:=by rw[l3,if_neg (fun e=>hpl e.symm),hcl]
   rcases aN2 l2 hcl2 s.count 1 no (aU E) hcode with ⟨a1,a2,a3⟩ | ⟨a1,a2,a3⟩
   ·rw[a1]
    dsimp only
    rw[if_pos rfl,if_pos rfl]
    obtain⟨b1,b2⟩:=back _ _ a2 (fun x=>(a3 x).trans (l3 x))
    exact .inl ⟨by show (92:Int)≠0;decide,refused _ 92 b1 b2,rfl,rfl,rfl,b2⟩
   ·rw[a1]
    dsimp only
    rw[if_neg (by omega)]
    generalize (add (lay s.d (path no) (gY E)).1 s.count 1 no (aU E)).1=d1 at a2 a3 ⊢
    have k1:∀ x,x≠bT→cont d1 x=if x=path no then some (gY E) else cont s.d x:=fun x hx=>by rw[a3,if_neg hx,l3]
    have hnew1:cont d1 dE=none:=by rw[k1 _ jM,if_neg (fun e=>kR hn4 e.symm)];exact h.new
    have hlog1:∃ c,cont d1 bT=some c:=⟨_,by rw[a3,if_pos rfl]⟩
    have hnot:∀ p∈s.tab,p.2≠no:=fun p hp e=>by
     have:=(h.tab p hp).2.1
     rw[e,hnv]at this
     cases this
    -- behind the freeing of the old number
    have key:∀ s2:Sto,s2.tab=s.tab→s2.count=s.count+1→s2.used.length=s.used.length→Clm s2.d→(∃ c,cont s2.d bT=some c)→cont s2.d dE=none→cont s2.d (path no)=some (gY E) →
      (∀ p∈s.tab,p.1≠aU E→s2.used.getD p.2 false=true∧cont s2.d (path p.2)=cont s.d (path p.2)) →
      (∀ i,i < 4096→i≠no→(cont s2.d (path i)).isSome=true→s2.used.getD i false=true) →
      Inv (({ s2 with tab:=D.put s2.tab (aU E) no,used:=s2.used.set no true }:Sto)):=by
     intro s2 e1 e2 e3 c1 c2 c3 c4 c5 c6
     refine⟨c1,c2,c3,?_,by show (s2.used.set no true).length≤_;rw[List.length_set,e3];exact h.lens,fun p hp=>?_,?_,fun i hi hs=>?_⟩
     ·show D.Up (D.put s2.tab (aU E) no)
      rw[e1]
      exact D.qA h.up _ _
     ·change p∈D.put s2.tab (aU E) no at hp
      rw[e1]at hp
      show p.2 < (s2.used.set no true).length∧(s2.used.set no true).getD p.2 false=true∧_
      rw[List.length_set,fB,e3]
      rcases D.aX.1 hp with rfl | ⟨hp,hne⟩
      ·exact⟨hnl,if_pos ⟨rfl,hnl⟩,_,_,c4,hdec⟩
      ·obtain⟨t1,t2,c,E2,t3,t4⟩:=h.tab p hp
       obtain⟨u1,u2⟩:=c5 p hp hne
       exact⟨t1,by rw[if_neg (fun h9=>hnot p hp h9.1.symm)];exact u1,c,E2,u2.trans t3,t4⟩
     ·show ∀ p∈D.put s2.tab (aU E) no,∀ q∈D.put s2.tab (aU E) no,p.2=q.2→p=q
      rw[e1]
      exact D.lU h.one hnot
     ·show (s2.used.set no true).getD i false=true
      rw[fB,e3]
      by_cases hin:no=i
      ·rw[if_pos ⟨hin,hnl⟩]
      ·rw[if_neg (fun h9=>hin h9.1)]
       exact c6 i hi (fun e=>hin e.symm) hs
    have fin:∀ s2:Sto,s2.tab=s.tab→s2.count=s.count+1→s2.used.length=s.used.length→Inv (({ s2 with tab:=D.put s2.tab (aU E) no,used:=s2.used.set no true }:Sto)) →
      (0:Int)=0∧Inv (({ s2 with tab:=D.put s2.tab (aU E) no,used:=s2.used.set no true }:Sto)).tidy∧(({ s2 with tab:=D.put s2.tab (aU E) no,used:=s2.used.set no true }:Sto)).tidy.used.length=s.used.length ∧
      (({ s2 with tab:=D.put s2.tab (aU E) no,used:=s2.used.set no true }:Sto)).tidy.tab.length≤s.tab.length+1 ∧
      ((({ s2 with tab:=D.put s2.tab (aU E) no,used:=s2.used.set no true }:Sto)).tidy.count=s.count+1∨(({ s2 with tab:=D.put s2.tab (aU E) no,used:=s2.used.set no true }:Sto)).tidy.count=(({ s2 with tab:=D.put s2.tab (aU E) no,used:=s2.used.set no true }:Sto)).tidy.tab.length):=by
     intro s2 e1 e2 e3 hI
     obtain⟨t1,t2,t3,t4⟩:=hI.tidy
     refine⟨rfl,t1,by rw[t3];show (s2.used.set no true).length=_;rw[List.length_set,e3],by rw[t2];show (D.put s2.tab _ _).length≤_;rw[e1];exact D.eH _ _ _,?_⟩
     rcases t4 with t4 | t4
     ·exact .inl (t4.trans e2)
     ·exact .inr (by rw[t4,t2])
    unfold Sto.freed Sto.took
    dsimp only
    cases hold:D.find s.tab (aU E) with
    | none =>
     dsimp only
     exact .inr (fin { s with d:=d1,count:=s.count+1 } rfl rfl rfl (key _ rfl rfl rfl a2 hlog1 hnew1 (by rw[k1 _ hpl,if_pos rfl])
      (fun p hp _=>⟨(h.tab p hp).2.1,by
       have t1:p.2 < 4096:=Nat.lt_of_lt_of_le (h.tab p hp).1 h.lens
       show cont d1 _=_
       rw[k1 _ (aY t1),if_neg (fun e=>hnot p hp (cO t1 hn4 e))]⟩)
      (fun i hi hin hs=>h.free i hi (by
       change (cont d1 _).isSome=true at hs
       rw[k1 _ (aY hi),if_neg (fun e=>hin (cO hi hn4 e))]at hs
       exact hs))))
    | some old =>
     dsimp only
     have hmem:=D.aI hold
     obtain⟨o1,o2,oc,oE,o3,o4⟩:=h.tab _ hmem
     have ho4:old < 4096:=Nat.lt_of_lt_of_le o1 h.lens
     have hon:old≠no:=hnot _ hmem
     have hco:cont d1 (path old)=some oc:=by rw[k1 _ (aY ho4),if_neg (fun e=>hon (cO ho4 hn4 e))];exact o3
     obtain⟨_,m2,m3⟩:=a2.remove (fA ho4) hco
     refine .inr (fin (({ s with d:=d1,count:=s.count+1 }:Sto).free old) rfl rfl (by show (s.used.set old false).length=_;rw[List.length_set]) (key _ rfl rfl (by show (s.used.set old false).length=_;rw[List.length_set]) m2 ?_ ?_ ?_ ?_ ?_))
     ·obtain⟨c,hc⟩:=hlog1
      exact⟨c,by show cont (d1.remove (path old)).1 _=_;rw[m3,if_neg (fun e=>aY ho4 e.symm),hc]⟩
     ·show cont (d1.remove (path old)).1 _=_
      rw[m3,if_neg (fun e=>kR ho4 e.symm),hnew1]
     ·show cont (d1.remove (path old)).1 _=_
      rw[m3,if_neg (fun e=>hon (cO hn4 ho4 e).symm),k1 _ hpl,if_pos rfl]
     ·intro p hp hne
      obtain⟨t1,t2,_⟩:=h.tab p hp
      have t4:p.2 < 4096:=Nat.lt_of_lt_of_le t1 h.lens
      have hpo:p.2≠old:=fun e=>hne (congrArg Prod.fst (h.one p hp _ hmem e))
      refine⟨?_,?_⟩
      ·show (s.used.set old false).getD p.2 false=true
       rw[fB,if_neg (fun h9=>hpo h9.1.symm)]
       exact t2
      ·show cont (d1.remove (path old)).1 _=_
       rw[m3,if_neg (fun e=>hpo (cO t4 ho4 e)),k1 _ (aY t4),if_neg (fun e=>hnot p hp (cO t4 hn4 e))]
     ·intro i hi hin hs
      change (cont (d1.remove (path old)).1 _).isSome=true at hs
      show (s.used.set old false).getD i false=true
      rw[m3]at hs
      by_cases hio:i=old
      ·rw[if_pos (by rw[hio])]at hs
       cases hs
      ·rw[if_neg (fun e=>hio (cO hi ho4 e)),k1 _ (aY hi),if_neg (fun e=>hin (cO hi hn4 e))]at hs
       rw[fB,if_neg (fun h9=>hio h9.1.symm)]
       exact h.free i hi hs
theorem Inv.get {s:Sto} (h:Inv s) {id:ByteArray} (hi:id∈s.ids):∃ E,s.get id=some E:=by
 unfold Sto.ids at hi
 obtain⟨p,hp,rfl⟩:=List.mem_map.1 hi
 obtain⟨t1,t2,c,E,t3,t4⟩:=h.tab p hp
 refine⟨E,?_⟩
 unfold Sto.get
 rw[D.dM h.up hp]
 dsimp only
 unfold read
 rw[h.calm.read (fA (Nat.lt_of_lt_of_le t1 h.lens)),t3]
 exact t4
theorem aM5 {s s':Sto} (h:Inv s) (h':Inv s') (ht:s'.tab=s.tab) (hk:∀ x,cont s'.d x=cont s.d x) {id:ByteArray} (hi:id∈s.ids):s'.get id=s.get id:=by
 unfold Sto.ids at hi
 obtain⟨p,hp,rfl⟩:=List.mem_map.1 hi
 have hg:=fA (Nat.lt_of_lt_of_le (h.tab p hp).1 h.lens)
 unfold Sto.get
 rw[ht,D.dM h.up hp]
 dsimp only
 unfold read
 rw[h.calm.read hg,h'.calm.read hg,hk]
end S
end Go.Proofs.YthjeglnkgdpijaaGreatDoor
