/- A disk without faults: what is safe of its files, what they take of the room, what a loss of power leaves of it, and a disk that holds given files. No program here. What the laws' first script answers; the room of a disk stays; what a script of Puts keeps. No program here. Rows of tries in memory, and the walks of must and could (printed by gen/try.py). Condition: at most 2^40 tries. -/
import Derived.Test.YtkempjcphpnocaaGreatDoorZ15
namespace Go.Proofs.YtkempjcphpnocaaGreatDoor
namespace D
def Hard (ex:Option ByteArray) (d:Dsk):Prop:=∀ p∈d.now,ex=some p.1∨d.firm.getD p.2 0=d.size p.2
structure Cl (ex:Option ByteArray) (u:Nat) (d:Dsk):Prop where
 calm:Clm d
 hard:Hard ex d
 used:d.used≤u
 room:d.room=1073741824
section
variable {d:Dsk} {nm:ByteArray} {c:List UInt8} {ex:Option ByteArray} {u:Nat}
theorem Clm.tight (h:Clm d) (r:Nat) (hr:d.used≤r):Clm { d with room:=r } :=
 ⟨h.power,h.fails,⟨h.ok.lens,h.ok.upN,h.ok.upS,h.ok.inN,h.ok.inS,h.ok.inP,h.ok.fold,h.ok.firms⟩,h.one,Int.ofNat_le.2 hr⟩
theorem Clm.create_eq (h:Clm d) (hg:good nm=true) (hn:cont d nm=none):d.create nm=(({ D.tick d with data:=d.data++[[]],firm:=d.firm++[0] }:Dsk).alter (.put nm d.data.length),0):=by
 unfold Dsk.create
 rw[h.begin (all_one hg)]
 show (if (0:Int)≠0 then _ else if (find d.now nm).isSome then _ else _)=_
 rw[if_neg (by decide),cont_none hn]
 rfl
theorem Clm.append_eq (h:Clm d) (hg:good nm=true) {no:Nat} (hf:find d.now nm=some no) (b:List UInt8) (hr:(d.used:Int)+b.length≤d.room):d.append nm b=({ D.tick d with data:=d.data.set no (d.data.getD no []++b) },0):=by
 have hne:¬ (0 < b.length∧d.room < (d.used:Int)+b.length):=fun h2=>by omega
 exact (h.on (more:=[]) (all_one hg) _ hf).trans (if_neg hne)
theorem Clm.sync_eq (h:Clm d) (hg:good nm=true) {no:Nat} (hf:find d.now nm=some no):d.sync nm=({ D.tick d with firm:=d.firm.set no (d.size no) },0):=h.on (more:=[]) (all_one hg) _ hf
theorem Clm.syncNames_eq (h:Clm d):d.syncNames=({ D.tick d with safe:=d.now,pend:=[] },0):=by
 unfold Dsk.syncNames
 rw[h.begin (ns:=[]) rfl]
 rfl
theorem Clm.remove_eq (h:Clm d) (hg:good nm=true) {no:Nat} (hf:find d.now nm=some no):d.remove nm=((D.tick d).alter (.del nm),0):=h.on (more:=[]) (all_one hg) _ hf
theorem Clm.rename_eq (h:Clm d) {to_:ByteArray} (hg:good nm=true) (hg2:good to_=true) (hne:nm≠to_) {no:Nat} (hf:find d.now nm=some no):d.rename nm to_=((D.tick d).alter (.ren nm to_ no),0):=by
 refine (h.on (more:=[to_]) (by simp [hg,hg2]) _ hf).trans ?_
 rw[if_neg hne]
theorem Cl.create (h:Cl ex u d) (hg:good nm=true) (hn:cont d nm=none):(d.create nm).2=0∧Cl ex u (d.create nm).1∧∀ x,cont (d.create nm).1 x=if x=nm then some [] else cont d x:=by
 obtain⟨e1,c1,k1⟩:=h.calm.create hg hn
 refine⟨e1,⟨c1,?_,?_,?_⟩,k1⟩
 ·rw[h.calm.create_eq hg hn]
  intro p hp
  rcases mem_put.1 hp with rfl | ⟨hp,_⟩
  ·right
   show (d.firm++[0]).getD d.data.length 0=((d.data++[([]:List UInt8)]).getD d.data.length []).length
   rw[← h.calm.ok.lens]
   simp [List.getD,h.calm.ok.lens]
  ·have hi:=h.calm.ok.inN p hp
   have hi2:p.2 < d.firm.length:=by rw[h.calm.ok.lens];exact hi
   have e1:(d.firm++[(0:Nat)]).getD p.2 0=d.firm.getD p.2 0:=by simp [List.getD,List.getElem?_append_left hi2]
   have e2:(d.data++[([]:List UInt8)]).getD p.2 []=d.data.getD p.2 []:=by simp [List.getD,List.getElem?_append_left hi]
   show _∨(d.firm++[(0:Nat)]).getD p.2 0=((d.data++[([]:List UInt8)]).getD p.2 []).length
   rw[e1,e2]
   exact h.hard p hp
 ·have ht:=h.calm.tight d.used (Nat.le_refl _)
  have:=(ht.create hg (show cont _ nm=none from hn)).2.1.room
  rw[ht.create_eq hg hn]at this
  rw[h.calm.create_eq hg hn]
  exact Nat.le_trans (Int.ofNat_le.1 this) h.used
 ·rw[h.calm.create_eq hg hn]
  exact h.room
theorem Cl.append (h:Cl none u d) (hg:good nm=true) (hc:cont d nm=some c) (b:List UInt8) (hr:u+b.length≤1073741824) :
  (d.append nm b).2=0∧Cl (some nm) (u+b.length) (d.append nm b).1∧∀ x,cont (d.append nm b).1 x=if x=nm then some (c++b) else cont d x:=by
 obtain⟨no,hf,hd⟩:=cont_some hc
 have hu:=h.used
 have hroom:=h.room
 have e:=h.calm.append_eq hg hf b (by omega)
 rcases h.calm.append hg hc b with ⟨e1,_,_⟩ | ⟨e1,c1,k1⟩
 ·rw[e]at e1
  exact absurd e1 (by show ¬ (0:Int)=92;decide)
 refine⟨e1,⟨c1,?_,?_,?_⟩,k1⟩
 ·rw[e]
  intro p hp
  by_cases hx:p.1=nm
  ·left;rw[hx]
  ·right
   have hne:no≠p.2:=fun e=>hx (congrArg Prod.fst (h.calm.one _ (find_mem hf) p hp e)).symm
   show d.firm.getD p.2 0=((d.data.set no (d.data.getD no []++b)).getD p.2 []).length
   rw[show (d.data.set no (d.data.getD no []++b)).getD p.2 []=d.data.getD p.2 [] by simp [List.getD,List.getElem?_set_ne hne]]
   rcases h.hard p hp with h1 | h1
   ·cases h1
   ·exact h1
 ·have ht:=h.calm.tight (d.used+b.length) (Nat.le_add_right _ _)
  have e2:=ht.append_eq hg hf b (show (d.used:Int)+b.length≤((d.used+b.length:Nat):Int) by omega)
  rcases ht.append hg (show cont _ nm=some c from hc) b with ⟨e3,_,_⟩ | ⟨_,c3,_⟩
  ·rw[e2]at e3
   exact absurd e3 (by show ¬ (0:Int)=92;decide)
  ·have:=c3.room
   rw[e2]at this
   rw[e]
   have:=Int.ofNat_le.1 this
   exact Nat.le_trans this (Nat.add_le_add_right hu _)
 ·rw[e]
  exact hroom
theorem Cl.sync (h:Cl ex u d) (hg:good nm=true) (hc:cont d nm=some c) (hx:ex=none∨ex=some nm):(d.sync nm).2=0∧Cl none u (d.sync nm).1∧∀ x,cont (d.sync nm).1 x=cont d x:=by
 obtain⟨no,hf,hd⟩:=cont_some hc
 obtain⟨e1,c1,k1⟩:=h.calm.sync hg hc
 have e:=h.calm.sync_eq hg hf
 refine⟨e1,⟨c1,?_,?_,?_⟩,k1⟩
 ·rw[e]
  intro p hp
  right
  show (d.firm.set no (d.size no)).getD p.2 0=d.size p.2
  have hi:no < d.firm.length:=by rw[h.calm.ok.lens];exact h.calm.ok.inN _ (find_mem hf)
  by_cases hpn:no=p.2
  ·rw[← hpn]
   simp [List.getD,hi]
  ·rw[show (d.firm.set no (d.size no)).getD p.2 0=d.firm.getD p.2 0 by simp [List.getD,List.getElem?_set_ne hpn]]
   rcases h.hard p hp with h1 | h1
   ·rcases hx with hx | hx
    ·rw[hx]at h1;cases h1
    ·rw[hx]at h1
     have h2:nm=p.1:=Option.some.inj h1
     have h3:=mem_find h.calm.ok.upN hp
     rw[← h2,hf]at h3
     exact absurd (Option.some.inj h3) hpn
   ·exact h1
 ·rw[e];exact h.used
 ·rw[e];exact h.room
theorem Cl.syncNames (h:Cl ex u d):d.syncNames.2=0∧Cl ex u d.syncNames.1∧∀ x,cont d.syncNames.1 x=cont d x:=by
 obtain⟨e1,c1,k1⟩:=h.calm.syncNames
 refine⟨e1,⟨c1,?_,?_,?_⟩,k1⟩
 ·rw[h.calm.syncNames_eq];exact h.hard
 ·rw[h.calm.syncNames_eq];exact h.used
 ·rw[h.calm.syncNames_eq];exact h.room
theorem Cl.remove (h:Cl ex u d) (hg:good nm=true) (hc:cont d nm=some c):(d.remove nm).2=0∧Cl ex u (d.remove nm).1∧∀ x,cont (d.remove nm).1 x=if x=nm then none else cont d x:=by
 obtain⟨no,hf,hd⟩:=cont_some hc
 obtain⟨e1,c1,k1⟩:=h.calm.remove hg hc
 have e:=h.calm.remove_eq hg hf
 refine⟨e1,⟨c1,?_,?_,?_⟩,k1⟩
 ·rw[e]
  exact fun p hp=>h.hard p (mem_del.1 hp).1
 ·have:=sum_del (fun p=>d.size p.2) nm d.now
  rw[e]
  exact Nat.le_trans this h.used
 ·rw[e];exact h.room
theorem Cl.rename (h:Cl none u d) {to_:ByteArray} (hg:good nm=true) (hg2:good to_=true) (hne:nm≠to_) (hc:cont d nm=some c):(d.rename nm to_).2=0∧Cl none u (d.rename nm to_).1∧∀ x,cont (d.rename nm to_).1 x=if x=to_ then some c else if x=nm then none else cont d x:=by
 obtain⟨no,hf,hd⟩:=cont_some hc
 obtain⟨e1,c1,k1⟩:=h.calm.rename hg hg2 hne hc
 have e:=h.calm.rename_eq hg hg2 hne hf
 refine⟨e1,⟨c1,?_,?_,?_⟩,k1⟩
 ·rw[e]
  intro p hp
  rcases mem_put.1 hp with rfl | ⟨hp,_⟩
  ·rcases h.hard _ (find_mem hf) with h1 | h1
   ·cases h1
   ·exact .inr h1
  ·exact h.hard p (mem_del.1 hp).1
 ·have ht:=h.calm.tight d.used (Nat.le_refl _)
  have:=(ht.rename hg hg2 hne (show cont _ nm=some c from hc)).2.1.room
  rw[ht.rename_eq hg hg2 hne hf]at this
  rw[e]
  exact Nat.le_trans (Int.ofNat_le.1 this) h.used
 ·rw[e];exact h.room
theorem Cl.mono {v:Nat} (h:Cl ex u d) (hv:u≤v):Cl ex v d:=⟨h.calm,h.hard,Nat.le_trans h.used hv,h.room⟩
end
def numb:Nat→List ByteArray→NM
 | _,[]=>[]
 | k,x::r=>(x,k)::numb (k+1) r
def ofFiles (fs:List (ByteArray × List UInt8)) (room:Int) (fails:List Int) (power:Int):Dsk :=
 ⟨numb 0 (fs.map (·.1)),numb 0 (fs.map (·.1)),[],fs.map (·.2),fs.map (·.2.length),room,fails,power,0⟩
def rise:ByteArray→List ByteArray→Bool
 | _,[]=>true
 | last,x::r=>good x&&ltB last x&&rise x r
theorem numb_len:∀ (l:List ByteArray) (k:Nat),(numb k l).length=l.length
 | [],_=>rfl
 | _::r,k=>congrArg (·+1) (numb_len r (k+1))
theorem numb_mem:∀ {l:List ByteArray} {k:Nat} {p:ByteArray × Nat},p∈numb k l→p.1∈l∧k≤p.2∧p.2 < k+l.length
 | [],_,_,h=>by cases h
 | x::r,k,p,h=>by
  rcases List.mem_cons.1 h with rfl | h
  ·exact⟨by simp,Nat.le_refl _,by simp only[List.length_cons];omega⟩
  ·obtain⟨h1,h2,h3⟩:=numb_mem h
   exact⟨List.mem_cons_of_mem _ h1,by omega,by simp only[List.length_cons];omega⟩
theorem numb_up:∀ {l:List ByteArray} {k:Nat},l.Pairwise (fun a b=>ltB a b=true)→Up (numb k l)
 | [],_,_=>List.Pairwise.nil
 | x::r,k,h=>by
  obtain⟨h1,h2⟩:=List.pairwise_cons.1 h
  exact List.pairwise_cons.2 ⟨fun p hp=>h1 _ (numb_mem hp).1,numb_up h2⟩
theorem numb_one:∀ {l:List ByteArray} {k:Nat},∀ p∈numb k l,∀ q∈numb k l,p.2=q.2→p=q
 | [],_,p,hp,_,_,_=>by cases hp
 | x::r,k,p,hp,q,hq,e=>by
  rcases List.mem_cons.1 hp with rfl | hp
  ·rcases List.mem_cons.1 hq with rfl | hq
   ·rfl
   ·have:=(numb_mem hq).2.1
    change k=q.2 at e
    omega
  ·rcases List.mem_cons.1 hq with rfl | hq
   ·have:=(numb_mem hp).2.1
    change p.2=k at e
    omega
   ·exact numb_one p hp q hq e
theorem numb_find (x:ByteArray):∀ (l:List (ByteArray × List UInt8)) (pre:List (List UInt8)),(find (numb pre.length (l.map (·.1))) x).map (fun no=>(pre++l.map (·.2)).getD no [])=(l.find? fun p=>decide (p.1=x)).map (·.2)
 | [],_=>rfl
 | p::r,pre=>by
  unfold find
  rw[List.map_cons,List.map_cons,numb,List.find?_cons,List.find?_cons]
  cases h:decide (p.1=x) with
  | true=>simp [List.getD]
  | false =>
   have ih:=numb_find x r (pre++[p.2])
   unfold find at ih
   rw[List.length_append,List.length_singleton,List.append_assoc,List.singleton_append]at ih
   exact ih
theorem numb_sum:∀ (l:List (ByteArray × List UInt8)) (pre:List (List UInt8)),((numb pre.length (l.map (·.1))).map fun p=>((pre++l.map (·.2)).getD p.2 []).length).sum=(l.map (·.2.length)).sum
 | [],_=>rfl
 | p::r,pre=>by
  have ih:=numb_sum r (pre++[p.2])
  rw[List.length_append,List.length_singleton,List.append_assoc,List.singleton_append]at ih
  rw[List.map_cons,List.map_cons,numb,List.map_cons,List.sum_cons,ih,List.map_cons,List.sum_cons]
  congr 1
  simp [List.getD]
theorem Cl.left {u:Nat} {d:Dsk} (h:Cl none u d) {k:Int} (hp:(d.pend.length:Int)≤k):d.left k []=d.now.map fun p=>(p.1,d.data.getD p.2 []):=by
 unfold Dsk.left
 have h1:d.namesLeft k=d.now:=by
  unfold Dsk.namesLeft
  rw[List.take_of_length_le (by omega),← h.calm.ok.fold]
 rw[h1]
 apply List.map_congr_left
 intro p hp
 have:d.keepN [] p.2=d.size p.2:=by
  unfold Dsk.keepN
  rcases h.hard p hp with h2 | h2
  ·cases h2
  ·rw[h2];simp
 rw[this]
 unfold Dsk.size
 rw[List.take_length]
theorem map_find (f:Nat→List UInt8) (x:ByteArray) (l:NM):((l.map fun p=>(p.1,f p.2)).find? fun p=>decide (p.1=x)).map (·.2)=(find l x).map f:=by
 unfold find
 induction l with
 | nil=>rfl
 | cons p r ih =>
  rw[List.map_cons,List.find?_cons,List.find?_cons]
  cases h:decide (p.1=x) with
  | true=>rfl
  | false=>exact ih
theorem Cl.again {u:Nat} {d:Dsk} (h:Cl none u d) (hu:u≤1073741824) {k:Int} (hp:(d.pend.length:Int)≤k):Cl none u (ofFiles (d.left k []) 1073741824 [] (-1))∧∀ x,cont (ofFiles (d.left k []) 1073741824 [] (-1)) x=cont d x:=by
 rw[h.left hp]
 have hn:((d.now.map fun p=>(p.1,d.data.getD p.2 [])).map (·.1))=d.now.map (·.1):=by rw[List.map_map];rfl
 have hc:∀ x,cont (ofFiles (d.now.map fun p=>(p.1,d.data.getD p.2 [])) 1073741824 [] (-1)) x=cont d x:=fun x =>
  (numb_find x (d.now.map fun p:ByteArray × Nat=>(p.1,d.data.getD p.2 [])) []).trans (map_find (fun no=>d.data.getD no []) x d.now)
 have hup:Up (numb 0 ((d.now.map fun p=>(p.1,d.data.getD p.2 [])).map (·.1))):=by
  rw[hn]
  exact numb_up (List.pairwise_map.2 h.calm.ok.upN)
 have hin:∀ p∈numb 0 ((d.now.map fun p=>(p.1,d.data.getD p.2 [])).map (·.1)),p.2 < ((d.now.map fun p=>(p.1,d.data.getD p.2 [])).map (·.2)).length:=fun p hp=>by
  have:=(numb_mem hp).2.2
  simp only[List.length_map]at this ⊢
  omega
 have hfs:∀ no,no < ((d.now.map fun p=>(p.1,d.data.getD p.2 [])).map (·.2)).length→((d.now.map fun p=>(p.1,d.data.getD p.2 [])).map (·.2.length)).getD no 0=(((d.now.map fun p=>(p.1,d.data.getD p.2 [])).map (·.2)).getD no []).length:=fun no hno=>by
  simp only[List.length_map]at hno
  simp [List.getD,hno]
 have hus:(ofFiles (d.now.map fun p=>(p.1,d.data.getD p.2 [])) 1073741824 [] (-1)).used=d.used:=by
  refine (numb_sum (d.now.map fun p:ByteArray × Nat=>(p.1,d.data.getD p.2 [])) []).trans ?_
  rw[List.map_map]
  rfl
 refine⟨⟨⟨rfl,rfl,⟨by simp [ofFiles],hup,hup,hin,hin,(fun _ h=>by cases h),rfl,fun no hno=>Nat.le_of_eq (hfs no hno)⟩,numb_one,?_⟩,fun p hp=>.inr (hfs p.2 (hin p hp)),by rw[hus];exact h.used,rfl⟩,hc⟩
 have:=h.used
 rw[hus]
 show (d.used:Int)≤1073741824
 omega
theorem rise_up:∀ {l:List ByteArray} {last:ByteArray},(∀ x∈l,good x=true)→(last::l).Pairwise (fun a b=>ltB a b=true)→rise last l=true
 | [],_,_,_=>rfl
 | x::r,last,hg,h=>by
  obtain⟨h1,h2⟩:=List.pairwise_cons.1 h
  unfold rise
  rw[hg x (by simp),h1 x (by simp),rise_up (fun y hy=>hg y (List.mem_cons_of_mem _ hy)) h2]
  rfl
end D
end Go.Proofs.YtkempjcphpnocaaGreatDoor
namespace Go.Proofs.YtkempjcphpnocaaGreatDoor
namespace D
theorem begin_room (s:Dsk) (names:List ByteArray):(s.begin names).1.room=s.room:=by
 unfold Dsk.begin
 split<;>rfl
theorem create_room (s:Dsk) (nm:ByteArray):(s.create nm).1.room=s.room:=by
 have h:=begin_room s [nm]
 unfold Dsk.create
 generalize s.begin [nm]=y at *
 obtain⟨s1,e⟩:=y
 dsimp only at h ⊢
 split
 ·exact h
 ·split
  ·exact h
  ·exact h
theorem on_room (s:Dsk) (nm:ByteArray) (more:List ByteArray) (f:Dsk→Nat→Dsk × Int) (hf:∀ s no,(f s no).1.room=s.room):(s.on nm more f).1.room=s.room:=by
 have h:=begin_room s (more++[nm])
 unfold Dsk.on
 generalize s.begin (more++[nm])=y at *
 obtain⟨s1,e⟩:=y
 dsimp only at h ⊢
 split
 ·exact h
 ·split
  ·exact h
  ·exact (hf _ _).trans h
theorem append_room (s:Dsk) (nm:ByteArray) (b:List UInt8):(s.append nm b).1.room=s.room:=on_room _ _ _ _ fun s no=>by
 split<;>rfl
theorem sync_room (s:Dsk) (nm:ByteArray):(s.sync nm).1.room=s.room:=on_room _ _ _ _ fun _ _=>rfl
theorem rename_room (s:Dsk) (a b:ByteArray):(s.rename a b).1.room=s.room:=on_room _ _ _ _ fun s no=>by
 split<;>rfl
theorem remove_room (s:Dsk) (nm:ByteArray):(s.remove nm).1.room=s.room:=on_room _ _ _ _ fun _ _=>rfl
theorem syncNames_room (s:Dsk):s.syncNames.1.room=s.room:=by
 have h:=begin_room s []
 unfold Dsk.syncNames
 generalize s.begin []=y at *
 obtain⟨s1,e⟩:=y
 dsimp only at h ⊢
 split
 ·exact h
 ·exact h
end D
namespace S
theorem steps_room:∀ (l:List (D.Dsk→D.Dsk × Int)) (d:D.Dsk),(∀ f∈l,∀ d:D.Dsk,(f d).1.room=d.room)→(steps d l).1.room=d.room
 | [],_,_=>rfl
 | f::r,d,hf=>by
  have h1:=hf f (by simp) d
  unfold steps
  split
  ·exact h1
  ·exact (steps_room r (f d).1 (fun g hg=>hf g (List.mem_cons_of_mem _ hg))).trans h1
theorem moves_room (b:List UInt8):∀ f∈moves b,∀ d:D.Dsk,(f d).1.room=d.room:=by
 intro f hf d
 unfold moves at hf
 simp only[List.mem_cons,List.not_mem_nil,or_false]at hf
 rcases hf with rfl | rfl | rfl | rfl
 ·exact D.create_room _ _
 ·exact D.append_room _ _ _
 ·exact D.sync_room _ _
 ·exact D.rename_room _ _ _
theorem rewrite_room (d:D.Dsk) (count:Nat) (list:List R.Rc):(rewrite d count list).1.room=d.room:=by
 have h1:=steps_room _ d (moves_room (R.encAll list 0 []).1)
 unfold rewrite
 split
 ·rfl
 ·split
  ·exact (D.syncNames_room _).trans h1
  ·split
   ·exact h1
   ·exact (D.remove_room _ _).trans h1
theorem add_room (d:D.Dsk) (count:Nat) (op no:Int) (id:ByteArray):(add d count op no id).1.room=d.room:=by
 unfold add
 split
 ·rfl
 ·split
  ·exact D.append_room _ _ _
  ·exact (D.sync_room _ _).trans (D.append_room _ _ _)
theorem lay_room (d:D.Dsk) (p:ByteArray) (b:List UInt8):(lay d p b).1.room=d.room:=by
 unfold lay
 have hx:(if has d.list p then d.remove p else (d,0)).1.room=d.room:=by
  split
  ·exact D.remove_room _ _
  ·rfl
 generalize (if has d.list p then d.remove p else (d,0))=x at *
 dsimp only
 split
 ·exact hx
 ·have hy:=(D.create_room x.1 p).trans hx
  generalize x.1.create p=y at *
  split
  ·exact hy
  ·have hz:=(D.append_room y.1 p b).trans hy
   generalize y.1.append p b=z at *
   split
   ·exact hz
   ·have hu:=(D.sync_room z.1 p).trans hz
    generalize z.1.sync p=u at *
    split
    ·exact hu
    ·exact (D.syncNames_room _).trans hu
theorem tidy_room (s:Sto):s.tidy.d.room=s.d.room:=by
 unfold Sto.tidy
 split
 ·rfl
 ·exact rewrite_room _ _ _
theorem tidy_tab (s:Sto):s.tidy.tab=s.tab:=by
 unfold Sto.tidy
 split<;>rfl
theorem freed_room (s:Sto) (id:ByteArray):(s.freed id).d.room=s.d.room:=by
 unfold Sto.freed
 split
 ·exact D.remove_room _ _
 ·rfl
theorem freed_tab (s:Sto) (id:ByteArray):(s.freed id).tab=s.tab:=by
 unfold Sto.freed
 split<;>rfl
theorem entered_keeps (s:Sto) (no:Nat) (id:ByteArray) (x:D.Dsk × Bool × Int):(s.entered no id x).1.d.room=x.1.room∧((s.entered no id x).1.tab=s.tab∨(s.entered no id x).1.tab=D.put s.tab id no):=by
 unfold Sto.entered
 have hy:(if x.2.2=0 then add x.1 s.count 1 no id else (x.1,s.count,x.2.2):D.Dsk × Nat × Int).1.room=x.1.room:=by
  split
  ·exact add_room _ _ _ _ _
  ·rfl
 generalize (if x.2.2=0 then add x.1 s.count 1 no id else (x.1,s.count,x.2.2):D.Dsk × Nat × Int)=y at *
 dsimp only
 split
 ·refine⟨?_,.inl rfl⟩
  split
  ·exact (D.remove_room _ _).trans hy
  ·exact hy
 ·refine⟨?_,.inr ?_⟩
  ·rw[tidy_room]
   exact (freed_room _ _).trans hy
  ·rw[tidy_tab]
   show D.put (({ s with d:=y.1,count:=y.2.1 }:Sto).freed id).tab id no=_
   rw[freed_tab]
theorem put_keeps (s:Sto) (E:O.Ent):(s.put E).1.d.room=s.d.room∧((s.put E).1.tab=s.tab∨(idOf E).size≤4096∧∃ no,(s.put E).1.tab=D.put s.tab (idOf E) no):=by
 unfold Sto.put
 split
 ·exact⟨rfl,.inl rfl⟩
 ·split
  ·exact⟨rfl,.inl rfl⟩
  ·rename_i hs
   split
   ·exact⟨rfl,.inl rfl⟩
   ·rename_i no _
    obtain⟨h1,h2⟩:=entered_keeps s no (idOf E) (lay s.d (path no) (encB E))
    exact⟨h1.trans (lay_room _ _ _),h2.imp id fun h=>⟨by omega,no,h⟩⟩
structure Kept (room:Int) (i:Nat) (s:Sto):Prop where
 inv:Inv s
 fit:D.Fit (3+13 * i) s.d
 ids:∀ p∈s.tab,p.1.size≤4096
 len:s.tab.length≤i
 count:s.count≤i
 room:s.d.room=room
theorem Kept.put {room:Int} {i:Nat} {s:Sto} (h:Kept room i s) (E:O.Ent) (hi:i≤100):Kept room (i+1) (s.put E).1:=by
 obtain⟨k1,k2⟩:=put_keeps s E
 have hf:D.Fit (3+13 * (i+1)) (s.put E).1.d:=by
  have:=put_fit h.fit E
  rw[show 3+13 * (i+1)=3+13 * i+13 by omega]
  exact this
 have hid:∀ p∈(s.put E).1.tab,p.1.size≤4096:=by
  intro p hp
  rcases k2 with k2 | ⟨hz,no,k2⟩
  ·rw[k2]at hp;exact h.ids p hp
  ·rw[k2]at hp
   rcases D.mem_put.1 hp with rfl | hp
   ·exact hz
   ·exact h.ids p hp.1
 have hc:=h.count
 have hl:=h.len
 rcases put_ways h.inv E (by omega) with ⟨_,w2,w3,w4,w5,_⟩ | ⟨_,w2,w3,w4,w5⟩
 ·exact⟨w2,hf,hid,by rw[w3];omega,by rw[w5];omega,k1.trans h.room⟩
 ·exact⟨w2,hf,hid,by omega,by rcases w5 with w5 | w5<;>omega,k1.trans h.room⟩
theorem Kept.start {room:Int} (h:0≤room∧room≤1073741824) {n:Nat} (hn:n≤4096):Kept room 0 ⟨born room,0,[],marks n []⟩ :=
 ⟨(born_facts h.1).2.2.2.2 n hn,born_fit h,(fun _ h=>by cases h),Nat.le_refl _,Nat.le_refl _,by
  show (born room).room=room
  unfold S.born
  rw[D.syncNames_room,D.sync_room,D.create_room]
  rfl⟩
theorem Kept.refused {room:Int} {i:Nat} {s:Sto} (h:Kept room i s) (E:O.Ent) (hi:i≤100) (hE:(s.put E).2≠0):(s.put E).1.ids=s.ids∧(s.put E).1.d.list=s.d.list∧((s.put E).1.d.used:Int)≤room∧∀ id∈s.ids,(s.put E).1.get id=s.get id:=by
 have hc:=h.count
 have hk:=(h.put E hi)
 rcases put_ways h.inv E (by omega) with ⟨_,w2,w3,w4,w5,w6⟩ | ⟨w1,_⟩
 ·refine⟨by unfold Sto.ids;rw[w3],h.inv.calm.names w2.calm (fun x=>by rw[w6]),?_,fun id hid=>get_same h.inv w2 w3 w6 hid⟩
  have:=w2.calm.room
  rw[hk.room]at this
  exact this
 ·exact absurd w1 hE
def aliveX:O.Ent:=⟨⟨#[107]⟩,⟨#[]⟩,200,⟨#[]⟩,1,[],[],0,0⟩
def aliveY:O.Ent:=⟨⟨#[109]⟩,⟨#[]⟩,200,⟨#[]⟩,1,[],[],0,0⟩
def alive0:Sto:=⟨born 9999,0,[],marks 1 []⟩
theorem alive_n0:alive0.d.n=3:=by decide +kernel
theorem alive_x:(alive0.put aliveX).2=0:=by decide +kernel
theorem alive_n1:(alive0.put aliveX).1.d.n=9:=by decide +kernel
theorem alive_y:((alive0.put aliveX).1.put aliveY).2=130:=by decide +kernel
theorem alive_g:∃ E,((alive0.put aliveX).1.put aliveY).1.get ⟨#[107,10]⟩=some E∧E.k.data.toList=[107]∧E.s=200:=by
 have h:(((alive0.put aliveX).1.put aliveY).1.get ⟨#[107,10]⟩).map (fun E=>(E.k.data.toList,E.s))=some ([107],200):=by decide +kernel
 cases hg:((alive0.put aliveX).1.put aliveY).1.get ⟨#[107,10]⟩ with
 | none=>rw[hg]at h;cases h
 | some E =>
  rw[hg]at h
  simp only[Option.map_some,Option.some.injEq,Prod.mk.injEq]at h
  exact⟨E,rfl,h.1,h.2⟩
theorem alive_path:path 4095=⟨#[111,47,51,102,47,51,102]⟩:=by decide +kernel
end S
end Go.Proofs.YtkempjcphpnocaaGreatDoor
namespace Go.Proofs.YtkempjcphpnocaaGreatDoor
open Go Go.RowKit Go.Maps
structure TP where
 id:ByteArray
 p:EP
 drop:Bool
 done:Bool
def tpcells:List TP→List Value
 | []=>[]
 | t::r=>.string t.id::.string t.p.E.k::.string t.p.E.v::.int .i64 t.p.E.s::.string t.p.E.r::.int .i64 t.p.E.m::.slice t.p.A t.p.E.fs.length t.p.c::.slice t.p.X t.p.E.body.length t.p.d::.int .i64 t.p.E.asked::.int .i64 t.p.E.got::.bool t.drop::.bool t.done::tpcells r
theorem tpcells_append:∀ l m:List TP,tpcells (l++m)=tpcells l++tpcells m
 | [],m=>rfl
 | t::r,m=>by simp [tpcells,tpcells_append r m]
theorem tpcells_one:∀ l:List TP,∀ u∈tpcells l,u.oneCell'=true
 | [],u,h=>by cases h
 | t::r,u,h=>by
  simp only[tpcells,List.mem_cons]at h
  rcases h with rfl | rfl | rfl | rfl | rfl | rfl | rfl | rfl | rfl | rfl | rfl | rfl | h
  iterate 12 rfl
  exact tpcells_one r u h
theorem tpcells_at:∀ (l:List TP) (k:Nat) (h:k < l.length),(tpcells l)[k * 12]?=some (.string l[k].id)∧(tpcells l)[k * 12+1]?=some (.string l[k].p.E.k)∧(tpcells l)[k * 12+2]?=some (.string l[k].p.E.v)∧(tpcells l)[k * 12+3]?=some (.int .i64 l[k].p.E.s)∧(tpcells l)[k * 12+4]?=some (.string l[k].p.E.r)∧(tpcells l)[k * 12+5]?=some (.int .i64 l[k].p.E.m)∧(tpcells l)[k * 12+6]?=some (.slice l[k].p.A l[k].p.E.fs.length l[k].p.c)∧(tpcells l)[k * 12+7]?=some (.slice l[k].p.X l[k].p.E.body.length l[k].p.d)∧(tpcells l)[k * 12+8]?=some (.int .i64 l[k].p.E.asked)∧(tpcells l)[k * 12+9]?=some (.int .i64 l[k].p.E.got)∧(tpcells l)[k * 12+10]?=some (.bool l[k].drop)∧(tpcells l)[k * 12+11]?=some (.bool l[k].done)
 | t::r,0,_=>by simp [tpcells]
 | t::r,k+1,h=>by
  have:=tpcells_at r k (by simpa using h)
  have e:(k+1) * 12=k * 12+12:=by omega
  simp only[tpcells,e,List.getElem_cons_succ]
  exact this
def TAt (w:World) (b o:Nat) (t:TP):Prop:=w.cell? ⟨b,o,none⟩=some (.string t.id)∧w.cell? ⟨b,o+1,none⟩=some (.string t.p.E.k)∧w.cell? ⟨b,o+2,none⟩=some (.string t.p.E.v)∧w.cell? ⟨b,o+3,none⟩=some (.int .i64 t.p.E.s)∧w.cell? ⟨b,o+4,none⟩=some (.string t.p.E.r)∧w.cell? ⟨b,o+5,none⟩=some (.int .i64 t.p.E.m)∧w.cell? ⟨b,o+6,none⟩=some (.slice t.p.A t.p.E.fs.length t.p.c)∧w.cell? ⟨b,o+7,none⟩=some (.slice t.p.X t.p.E.body.length t.p.d)∧w.cell? ⟨b,o+8,none⟩=some (.int .i64 t.p.E.asked)∧w.cell? ⟨b,o+9,none⟩=some (.int .i64 t.p.E.got)∧w.cell? ⟨b,o+10,none⟩=some (.bool t.drop)∧w.cell? ⟨b,o+11,none⟩=some (.bool t.done)
theorem rd_try {w:World} {A:Option Addr} {n k:Nat} {l:List TP} (h:Rd w A n 12 (tpcells l)) (hk:k < n) (hl:l.length=n):∃ b o,A=some ⟨b,o,none⟩∧b < w.heap.size∧TAt w b (o+k * 12) (l[k]'(by omega)):=by
 obtain⟨b,o,rfl,hb,hc⟩:=h.2 (by omega)
 obtain⟨h0,h1,h2,h3,h4,h5,h6,h7,h8,h9,h10,h11⟩:=tpcells_at l k (by omega)
 refine⟨b,o,rfl,hb,hc _ _ h0,?_,?_,?_,?_,?_,?_,?_,?_,?_,?_,?_⟩
 all_goals rw[Nat.add_assoc]
 ·exact hc _ _ h1
 ·exact hc _ _ h2
 ·exact hc _ _ h3
 ·exact hc _ _ h4
 ·exact hc _ _ h5
 ·exact hc _ _ h6
 ·exact hc _ _ h7
 ·exact hc _ _ h8
 ·exact hc _ _ h9
 ·exact hc _ _ h10
 ·exact hc _ _ h11
theorem Tryz.infoTry:(Tryz.prog.info? 57).map (fun i=>(i.zero,i.size,i.bytes))=some (some (.agg #[.string ⟨#[]⟩,.string ⟨#[]⟩,.string ⟨#[]⟩,.int .i64 0,.string ⟨#[]⟩,.int .i64 0,.slice none 0 0,.slice none 0 0,.int .i64 0,.int .i64 0,.bool false,.bool false]),12,152):=by kernel_rfl
section
variable (w:World) {ops:Array Oper} {rest:List Oper} {o:Oper} {a:Act} {K:Act→World→Prop} {Q:Exit→Act→World→Prop}
theorem appTry (hgd:o.guard=none) (s x:Operand) (ho:o.op=.call { callee:=.builtin .append,args:=#[s,x],argTypes:=#[54,54] })
  (base:Nat) (A:Option Addr) (n c:Nat) (xs:List TP) (hs:a.eval s=.slice A n c) (hown:Row w base 57 12 A n c (tpcells xs))
  (S:Option Addr) (m d:Nat) (news:List TP) (hx:a.eval x=.slice S m d) (hr:Rd w S m 12 (tpcells news)) (h63:n+m≤549755813888) (hbase:base≤w.heap.size)
  (h:∀ A' c' w',Row w' base 57 12 A' (n+m) c' (tpcells (xs++news))→App w w' A c A' c'→wpList Tryz.prog ops Q rest (a.put o.dst (.slice A' (n+m) c')) w'):wpList Tryz.prog ops Q (o::rest) a w:=by
 refine wpList_plain hgd fun _ hK=>?_
 obtain⟨i0,hi0,hz0,hz1,hz2⟩:=info_parts Tryz.infoTry
 exact wp_app w s x _ ho _ i0 _ 12 152 Tryz.underlying54 hi0 hz0 hz1 hz2 rfl (by omega) base A n c _ hs hown S m d _ hx hr (tpcells_one news) (by simp only[maxLen];omega) (by omega) hbase (fun A' c' w' h2 h3=>hK _ _ (h A' c' w' (by rw[tpcells_append];exact h2) h3))
end
namespace T
def mustR (id:ByteArray):List TP→Bool
 | []=>false
 | t::r=>if t.id=id then t.done&&!t.drop else mustR id r
def must (l:List TP) (id:ByteArray):Bool:=mustR id l.reverse
def laidR (id:ByteArray) (E:O.Ent):List TP→Prop
 | []=>False
 | t::r=>if t.id=id then t.drop=false∧t.p.E=E else laidR id E r
def laid (l:List TP) (id:ByteArray) (E:O.Ent):Prop:=laidR id E l.reverse
theorem take_rev {l:List TP} {j:Nat} (h:j < l.length):(l.take (j+1)).reverse=l[j]::(l.take j).reverse:=by
 rw[List.take_succ_eq_append_getElem h,List.reverse_append]
 rfl
end T
set_option maxRecDepth 100000 in
set_option maxHeartbeats 2000000 in
theorem must_any (A:Option Addr) (n c:Nat) (l:List TP) (id:ByteArray) (w:World) (hl:l.length=n) (hn:n≤1099511627776) (hx:Rd w A n 12 (tpcells l)):Calls Tryz.prog 23 #[.slice A n c,.string id] w (RetB w (T.must l id)):=by
 subst hl
 have HX:=Lib.hid hx
 obtain⟨G,hG⟩:∃ G,T.must l id=G:=⟨_,rfl⟩
 have HG:Hid (T.mustR id l.reverse=G):=Lib.hid hG
 rw[hG]
 clear hx hG
 go_enter Tryz.func23,Tryz.ntmps23
 go_wp2
 go_loopw [5] (fun i wr=>∃ k:Nat,k≤l.length∧i=.int .i64 ((k:Int) - 1)∧T.mustR id (l.take k).reverse=G∧Below w.heap.size w wr) (fun i _=>(intOf i+1).toNat)
 case atStart=>exact⟨l.length,Nat.le_refl _,by go_num,by rw[List.take_length];exact HG.out,Below.refl _ _⟩
 case round =>
  obtain⟨k,hk,rfl,hm,hb⟩:=hrel
  have HB:=Lib.hid hb
  have HM:=Lib.hid hm
  obtain⟨wo,rfl⟩:∃ wo:World,wo=wr:=⟨_,rfl⟩
  cases k with
  | zero =>
   clear hb hm
   go_wp2
   go_ret
   exact⟨ret_bool HM.out,HB.out⟩
  | succ j =>
   have hj:j < l.length:=by omega
   obtain⟨b,o,rfl,hb1,x0,x1,x2,x3,x4,x5,x6,x7,x8,x9,x10,x11⟩:=rd_try (HX.out.below hb) hj rfl
   rw[T.take_rev hj]at hm
   generalize l[j]'hj=t at *
   have e1:(((j+1:Nat):Int) - 1)=j:=by omega
   rw[e1]
   have hj0:(j:Int)≥0:=by omega
   have HM2:=Lib.hid hm
   clear hb hm HM
   by_cases hid:t.id=id
   ·have hib:(t.id.toList==id.toList)=true:=by rw[beq_bytes];exact decide_eq_true hid
    have HF:Hid ((t.done&&!t.drop)=G):=Lib.hid ((if_pos hid).symm.trans HM2.out)
    generalize t.done=dn at *
    generalize t.drop=dr at *
    cases dn<;>cases dr
    all_goals
     go_wp2
     go_ret
     exact⟨ret_bool HF.out,HB.out⟩
   ·have hib:(t.id.toList==id.toList)=false:=by rw[beq_bytes];exact decide_eq_false hid
    have HF:Hid (T.mustR id (l.take j).reverse=G):=Lib.hid ((if_neg hid).symm.trans HM2.out)
    go_wp2
    go_roundw
    case rel=>exact⟨j,by omega,by go_num,HF.out,HB.out⟩
    case measure=>simp [intOf]
end Go.Proofs.YtkempjcphpnocaaGreatDoor
