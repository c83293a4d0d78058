/- A disk without faults: what is safe of its files, what they take of the room, what a loss of power leaves of it, and a disk that holds given files. No program here. The walks of the store's hexPair and Path. Condition: a number below 4096. How far a store's steps take its disk. No program here. -/
import Derived.Test.YthjeglnkgdpijaaGreatDoorStoreR
import Derived.Laws.BitsAllLaws
import Derived.Laws.BitsLemmas
import Derived.Laws.IdiomStrings
set_option maxHeartbeats 400000
namespace Go.Proofs.YthjeglnkgdpijaaGreatDoor
namespace D
def Hard (ex:Option ByteArray) (d:Dsk):Prop:=∀ p∈d.now,ex=some p.1∨d.firm.getD p.2 0=d.size p.2
structure Cl (ex:Option ByteArray) (u:Nat) (d:Dsk):Prop where
 calm:Clm d
 hard:Hard ex d
 used:d.used≤u
 room:d.room=1073741824
section
variable {d:Dsk} {nm:ByteArray} {c:List UInt8} {ex:Option ByteArray} {u:Nat}
theorem Clm.tight (h:Clm d) (r:Nat) (hr:d.used≤r):Clm { d with room:=r } :=
 ⟨h.power,h.fails,⟨h.ok.lens,h.ok.upN,h.ok.upS,h.ok.inN,h.ok.inS,h.ok.inP,h.ok.fold,h.ok.firms⟩,h.one,Int.ofNat_le.2 hr⟩
theorem Clm.create_eq (h:Clm d) (hg:good nm=true) (hn:cont d nm=none):d.create nm=(({ D.tick d with data:=d.data++[[]],firm:=d.firm++[0] }:Dsk).alter (.put nm d.data.length),0):=by
 unfold Dsk.create
 rw[h.begin (all_one hg)]
 show (if (0:Int)≠0 then _ else if (find d.now nm).isSome then _ else _)=_
 rw[if_neg (by decide),cont_none hn]
 rfl
theorem Clm.append_eq (h:Clm d) (hg:good nm=true) {no:Nat} (hf:find d.now nm=some no) (b:List UInt8) (hr:(d.used:Int)+b.length≤d.room):d.append nm b=({ D.tick d with data:=d.data.set no (d.data.getD no []++b) },0):=by
 have hne:¬ (0 < b.length∧d.room < (d.used:Int)+b.length):=fun h2=>by omega
 exact (h.on (more:=[]) (all_one hg) _ hf).trans (if_neg hne)
theorem Clm.sync_eq (h:Clm d) (hg:good nm=true) {no:Nat} (hf:find d.now nm=some no):d.sync nm=({ D.tick d with firm:=d.firm.set no (d.size no) },0):=h.on (more:=[]) (all_one hg) _ hf
theorem Clm.syncNames_eq (h:Clm d):d.syncNames=({ D.tick d with safe:=d.now,pend:=[] },0):=by
 unfold Dsk.syncNames
 rw[h.begin (ns:=[]) rfl]
 rfl
theorem Clm.remove_eq (h:Clm d) (hg:good nm=true) {no:Nat} (hf:find d.now nm=some no):d.remove nm=((D.tick d).alter (.del nm),0):=h.on (more:=[]) (all_one hg) _ hf
theorem Clm.rename_eq (h:Clm d) {to_:ByteArray} (hg:good nm=true) (hg2:good to_=true) (hne:nm≠to_) {no:Nat} (hf:find d.now nm=some no):d.rename nm to_=((D.tick d).alter (.ren nm to_ no),0):=by
 refine (h.on (more:=[to_]) (by simp [hg,hg2]) _ hf).trans ?_
 rw[if_neg hne]
theorem Cl.create (h:Cl ex u d) (hg:good nm=true) (hn:cont d nm=none):(d.create nm).2=0∧Cl ex u (d.create nm).1∧∀ x,cont (d.create nm).1 x=if x=nm then some [] else cont d x:=by
 obtain⟨e1,c1,k1⟩:=h.calm.create hg hn
 refine⟨e1,⟨c1,?_,?_,?_⟩,k1⟩
 ·rw[h.calm.create_eq hg hn]
  intro p hp
  rcases mem_put.1 hp with rfl | ⟨hp,_⟩
  ·right
   show (d.firm++[0]).getD d.data.length 0=((d.data++[([]:List UInt8)]).getD d.data.length []).length
   rw[← h.calm.ok.lens]
   simp [List.getD,h.calm.ok.lens]
  ·have hi:=h.calm.ok.inN p hp
   have hi2:p.2 < d.firm.length:=by rw[h.calm.ok.lens];exact hi
   have e1:(d.firm++[(0:Nat)]).getD p.2 0=d.firm.getD p.2 0:=by simp [List.getD,List.getElem?_append_left hi2]
   have e2:(d.data++[([]:List UInt8)]).getD p.2 []=d.data.getD p.2 []:=by simp [List.getD,List.getElem?_append_left hi]
   show _∨(d.firm++[(0:Nat)]).getD p.2 0=((d.data++[([]:List UInt8)]).getD p.2 []).length
   rw[e1,e2]
   exact h.hard p hp
 ·have ht:=h.calm.tight d.used (Nat.le_refl _)
  have:=(ht.create hg (show cont _ nm=none from hn)).2.1.room
  rw[ht.create_eq hg hn]at this
  rw[h.calm.create_eq hg hn]
  exact Nat.le_trans (Int.ofNat_le.1 this) h.used
 ·rw[h.calm.create_eq hg hn]
  exact h.room
theorem Cl.append (h:Cl none u d) (hg:good nm=true) (hc:cont d nm=some c) (b:List UInt8) (hr:u+b.length≤1073741824) :
  (d.append nm b).2=0∧Cl (some nm) (u+b.length) (d.append nm b).1∧∀ x,cont (d.append nm b).1 x=if x=nm then some (c++b) else cont d x:=by
 obtain⟨no,hf,hd⟩:=cont_some hc
 have hu:=h.used
 have hroom:=h.room
 have e:=h.calm.append_eq hg hf b (by omega)
 rcases h.calm.append hg hc b with ⟨e1,_,_⟩ | ⟨e1,c1,k1⟩
 ·rw[e]at e1
  exact absurd e1 (by show ¬ (0:Int)=92;decide)
 refine⟨e1,⟨c1,?_,?_,?_⟩,k1⟩
 ·rw[e]
  intro p hp
  by_cases hx:p.1=nm
  ·left;rw[hx]
  ·right
   have hne:no≠p.2:=fun e=>hx (congrArg Prod.fst (h.calm.one _ (find_mem hf) p hp e)).symm
   show d.firm.getD p.2 0=((d.data.set no (d.data.getD no []++b)).getD p.2 []).length
   rw[show (d.data.set no (d.data.getD no []++b)).getD p.2 []=d.data.getD p.2 [] by simp [List.getD,List.getElem?_set_ne hne]]
   rcases h.hard p hp with h1 | h1
   ·cases h1
   ·exact h1
 ·have ht:=h.calm.tight (d.used+b.length) (Nat.le_add_right _ _)
  have e2:=ht.append_eq hg hf b (show (d.used:Int)+b.length≤((d.used+b.length:Nat):Int) by omega)
  rcases ht.append hg (show cont _ nm=some c from hc) b with ⟨e3,_,_⟩ | ⟨_,c3,_⟩
  ·rw[e2]at e3
   exact absurd e3 (by show ¬ (0:Int)=92;decide)
  ·have:=c3.room
   rw[e2]at this
   rw[e]
   have:=Int.ofNat_le.1 this
   exact Nat.le_trans this (Nat.add_le_add_right hu _)
 ·rw[e]
  exact hroom
theorem Cl.sync (h:Cl ex u d) (hg:good nm=true) (hc:cont d nm=some c) (hx:ex=none∨ex=some nm):(d.sync nm).2=0∧Cl none u (d.sync nm).1∧∀ x,cont (d.sync nm).1 x=cont d x:=by
 obtain⟨no,hf,hd⟩:=cont_some hc
 obtain⟨e1,c1,k1⟩:=h.calm.sync hg hc
 have e:=h.calm.sync_eq hg hf
 refine⟨e1,⟨c1,?_,?_,?_⟩,k1⟩
 ·rw[e]
  intro p hp
  right
  show (d.firm.set no (d.size no)).getD p.2 0=d.size p.2
  have hi:no < d.firm.length:=by rw[h.calm.ok.lens];exact h.calm.ok.inN _ (find_mem hf)
  by_cases hpn:no=p.2
  ·rw[← hpn]
   simp [List.getD,hi]
  ·rw[show (d.firm.set no (d.size no)).getD p.2 0=d.firm.getD p.2 0 by simp [List.getD,List.getElem?_set_ne hpn]]
   rcases h.hard p hp with h1 | h1
   ·rcases hx with hx | hx
    ·rw[hx]at h1;cases h1
    ·rw[hx]at h1
     have h2:nm=p.1:=Option.some.inj h1
     have h3:=mem_find h.calm.ok.upN hp
     rw[← h2,hf]at h3
     exact absurd (Option.some.inj h3) hpn
   ·exact h1
 ·rw[e];exact h.used
 ·rw[e];exact h.room
theorem Cl.syncNames (h:Cl ex u d):d.syncNames.2=0∧Cl ex u d.syncNames.1∧∀ x,cont d.syncNames.1 x=cont d x:=by
 obtain⟨e1,c1,k1⟩:=h.calm.syncNames
 refine⟨e1,⟨c1,?_,?_,?_⟩,k1⟩
 ·rw[h.calm.syncNames_eq];exact h.hard
 ·rw[h.calm.syncNames_eq];exact h.used
 ·rw[h.calm.syncNames_eq];exact h.room
theorem Cl.remove (h:Cl ex u d) (hg:good nm=true) (hc:cont d nm=some c):(d.remove nm).2=0∧Cl ex u (d.remove nm).1∧∀ x,cont (d.remove nm).1 x=if x=nm then none else cont d x:=by
 obtain⟨no,hf,hd⟩:=cont_some hc
 obtain⟨e1,c1,k1⟩:=h.calm.remove hg hc
 have e:=h.calm.remove_eq hg hf
 refine⟨e1,⟨c1,?_,?_,?_⟩,k1⟩
 ·rw[e]
  exact fun p hp=>h.hard p (mem_del.1 hp).1
 ·have:=sum_del (fun p=>d.size p.2) nm d.now
  rw[e]
  exact Nat.le_trans this h.used
 ·rw[e];exact h.room
theorem Cl.rename (h:Cl none u d) {to_:ByteArray} (hg:good nm=true) (hg2:good to_=true) (hne:nm≠to_) (hc:cont d nm=some c):(d.rename nm to_).2=0∧Cl none u (d.rename nm to_).1∧∀ x,cont (d.rename nm to_).1 x=if x=to_ then some c else if x=nm then none else cont d x:=by
 obtain⟨no,hf,hd⟩:=cont_some hc
 obtain⟨e1,c1,k1⟩:=h.calm.rename hg hg2 hne hc
 have e:=h.calm.rename_eq hg hg2 hne hf
 refine⟨e1,⟨c1,?_,?_,?_⟩,k1⟩
 ·rw[e]
  intro p hp
  rcases mem_put.1 hp with rfl | ⟨hp,_⟩
  ·rcases h.hard _ (find_mem hf) with h1 | h1
   ·cases h1
   ·exact .inr h1
  ·exact h.hard p (mem_del.1 hp).1
 ·have ht:=h.calm.tight d.used (Nat.le_refl _)
  have:=(ht.rename hg hg2 hne (show cont _ nm=some c from hc)).2.1.room
  rw[ht.rename_eq hg hg2 hne hf]at this
  rw[e]
  exact Nat.le_trans (Int.ofNat_le.1 this) h.used
 ·rw[e];exact h.room
theorem Cl.mono {v:Nat} (h:Cl ex u d) (hv:u≤v):Cl ex v d:=⟨h.calm,h.hard,Nat.le_trans h.used hv,h.room⟩
end
def numb:Nat→List ByteArray→NM
 | _,[]=>[]
 | k,x::r=>(x,k)::numb (k+1) r
def ofFiles (fs:List (ByteArray × List UInt8)) (room:Int) (fails:List Int) (power:Int):Dsk :=
 ⟨numb 0 (fs.map (·.1)),numb 0 (fs.map (·.1)),[],fs.map (·.2),fs.map (·.2.length),room,fails,power,0⟩
theorem numb_mem:∀ {l:List ByteArray} {k:Nat} {p:ByteArray × Nat},p∈numb k l→p.1∈l∧k≤p.2∧p.2 < k+l.length
 | [],_,_,h=>by cases h
 | x::r,k,p,h=>by
  rcases List.mem_cons.1 h with rfl | h
  ·exact⟨by simp,Nat.le_refl _,by simp only[List.length_cons];omega⟩
  ·obtain⟨h1,h2,h3⟩:=numb_mem h
   exact⟨List.mem_cons_of_mem _ h1,by omega,by simp only[List.length_cons];omega⟩
theorem numb_up:∀ {l:List ByteArray} {k:Nat},l.Pairwise (fun a b=>ltB a b=true)→Up (numb k l)
 | [],_,_=>List.Pairwise.nil
 | x::r,k,h=>by
  obtain⟨h1,h2⟩:=List.pairwise_cons.1 h
  exact List.pairwise_cons.2 ⟨fun p hp=>h1 _ (numb_mem hp).1,numb_up h2⟩
theorem numb_one:∀ {l:List ByteArray} {k:Nat},∀ p∈numb k l,∀ q∈numb k l,p.2=q.2→p=q
 | [],_,p,hp,_,_,_=>by cases hp
 | x::r,k,p,hp,q,hq,e=>by
  rcases List.mem_cons.1 hp with rfl | hp
  ·rcases List.mem_cons.1 hq with rfl | hq
   ·rfl
   ·have:=(numb_mem hq).2.1
    change k=q.2 at e
    omega
  ·rcases List.mem_cons.1 hq with rfl | hq
   ·have:=(numb_mem hp).2.1
    change p.2=k at e
    omega
   ·exact numb_one p hp q hq e
theorem numb_find (x:ByteArray):∀ (l:List (ByteArray × List UInt8)) (pre:List (List UInt8)),(find (numb pre.length (l.map (·.1))) x).map (fun no=>(pre++l.map (·.2)).getD no [])=(l.find? fun p=>decide (p.1=x)).map (·.2)
 | [],_=>rfl
 | p::r,pre=>by
  unfold find
  rw[List.map_cons,List.map_cons,numb,List.find?_cons,List.find?_cons]
  cases h:decide (p.1=x) with
  | true=>simp [List.getD]
  | false =>
   have ih:=numb_find x r (pre++[p.2])
   unfold find at ih
   rw[List.length_append,List.length_singleton,List.append_assoc,List.singleton_append]at ih
   exact ih
theorem numb_sum:∀ (l:List (ByteArray × List UInt8)) (pre:List (List UInt8)),((numb pre.length (l.map (·.1))).map fun p=>((pre++l.map (·.2)).getD p.2 []).length).sum=(l.map (·.2.length)).sum
 | [],_=>rfl
 | p::r,pre=>by
  have ih:=numb_sum r (pre++[p.2])
  rw[List.length_append,List.length_singleton,List.append_assoc,List.singleton_append]at ih
  rw[List.map_cons,List.map_cons,numb,List.map_cons,List.sum_cons,ih,List.map_cons,List.sum_cons]
  congr 1
  simp [List.getD]
theorem Cl.left {u:Nat} {d:Dsk} (h:Cl none u d) {k:Int} (hp:(d.pend.length:Int)≤k):d.left k []=d.now.map fun p=>(p.1,d.data.getD p.2 []):=by
 unfold Dsk.left
 have h1:d.namesLeft k=d.now:=by
  unfold Dsk.namesLeft
  rw[List.take_of_length_le (by omega),← h.calm.ok.fold]
 rw[h1]
 apply List.map_congr_left
 intro p hp
 have:d.keepN [] p.2=d.size p.2:=by
  unfold Dsk.keepN
  rcases h.hard p hp with h2 | h2
  ·cases h2
  ·rw[h2];simp
 rw[this]
 unfold Dsk.size
 rw[List.take_length]
theorem map_find (f:Nat→List UInt8) (x:ByteArray) (l:NM):((l.map fun p=>(p.1,f p.2)).find? fun p=>decide (p.1=x)).map (·.2)=(find l x).map f:=by
 unfold find
 induction l with
 | nil=>rfl
 | cons p r ih =>
  rw[List.map_cons,List.find?_cons,List.find?_cons]
  cases h:decide (p.1=x) with
  | true=>rfl
  | false=>exact ih
theorem Cl.again {u:Nat} {d:Dsk} (h:Cl none u d) (hu:u≤1073741824) {k:Int} (hp:(d.pend.length:Int)≤k):Cl none u (ofFiles (d.left k []) 1073741824 [] (-1))∧∀ x,cont (ofFiles (d.left k []) 1073741824 [] (-1)) x=cont d x:=by
 rw[h.left hp]
 have hn:((d.now.map fun p=>(p.1,d.data.getD p.2 [])).map (·.1))=d.now.map (·.1):=by rw[List.map_map];rfl
 have hc:∀ x,cont (ofFiles (d.now.map fun p=>(p.1,d.data.getD p.2 [])) 1073741824 [] (-1)) x=cont d x:=fun x =>
  (numb_find x (d.now.map fun p:ByteArray × Nat=>(p.1,d.data.getD p.2 [])) []).trans (map_find (fun no=>d.data.getD no []) x d.now)
 have hup:Up (numb 0 ((d.now.map fun p=>(p.1,d.data.getD p.2 [])).map (·.1))):=by
  rw[hn]
  exact numb_up (List.pairwise_map.2 h.calm.ok.upN)
 have hin:∀ p∈numb 0 ((d.now.map fun p=>(p.1,d.data.getD p.2 [])).map (·.1)),p.2 < ((d.now.map fun p=>(p.1,d.data.getD p.2 [])).map (·.2)).length:=fun p hp=>by
  have:=(numb_mem hp).2.2
  simp only[List.length_map]at this ⊢
  omega
 have hfs:∀ no,no < ((d.now.map fun p=>(p.1,d.data.getD p.2 [])).map (·.2)).length→((d.now.map fun p=>(p.1,d.data.getD p.2 [])).map (·.2.length)).getD no 0=(((d.now.map fun p=>(p.1,d.data.getD p.2 [])).map (·.2)).getD no []).length:=fun no hno=>by
  simp only[List.length_map]at hno
  simp [List.getD,hno]
 have hus:(ofFiles (d.now.map fun p=>(p.1,d.data.getD p.2 [])) 1073741824 [] (-1)).used=d.used:=by
  refine (numb_sum (d.now.map fun p:ByteArray × Nat=>(p.1,d.data.getD p.2 [])) []).trans ?_
  rw[List.map_map]
  rfl
 refine⟨⟨⟨rfl,rfl,⟨by simp [ofFiles],hup,hup,hin,hin,(fun _ h=>by cases h),rfl,fun no hno=>Nat.le_of_eq (hfs no hno)⟩,numb_one,?_⟩,fun p hp=>.inr (hfs p.2 (hin p hp)),by rw[hus];exact h.used,rfl⟩,hc⟩
 have:=h.used
 rw[hus]
 show (d.used:Int)≤1073741824
 omega
end D
open Go.RowKit
theorem i64_and15 (v:Int) (h0:0≤v) (h1:v < 64):bits .and .i64 v 15=v % 16:=by
 obtain⟨n,rfl⟩:=Int.eq_ofNat_of_zero_le h0
 have h:∀ m:Fin 64,bits .and .i64 (m.1:Int) 15=(m.1:Int) % 16:=by decide
 exact h ⟨n,by omega⟩
def hexD (i:Int):UInt8:=(#[48,49,50,51,52,53,54,55,56,57,97,98,99,100,101,102]:Array UInt8).getD i.toNat 0
theorem hexD_at (i:Int) (h:i.toNat < ({ data:=#[48,49,50,51,52,53,54,55,56,57,97,98,99,100,101,102] }:ByteArray).size):({ data:=#[48,49,50,51,52,53,54,55,56,57,97,98,99,100,101,102] }:ByteArray)[i.toNat]'h=hexD i:=by
 have e:({ data:=#[48,49,50,51,52,53,54,55,56,57,97,98,99,100,101,102] }:ByteArray).data[i.toNat]?=some (({ data:=#[48,49,50,51,52,53,54,55,56,57,97,98,99,100,101,102] }:ByteArray)[i.toNat]'h):=Array.getElem?_eq_getElem h
 unfold hexD
 rw[Array.getD_eq_getD_getElem?,e]
 rfl
theorem hexD_hx (n:Nat) (h:n < 16):hexD n=S.hx n:=by
 have:∀ m:Fin 16,hexD (m.1:Int)=S.hx m.1:=by decide
 exact this ⟨n,h⟩
def hexT (v:Int):ByteArray:=⟨#[hexD (v / 16),hexD (v % 16)]⟩
theorem conv2_any (w:World) (x y:UInt8):(convert 39 9 (.slice (some ⟨w.heap.size,0,none⟩) 2 2)).run Tryz.prog ((w.alloc (.cells #[.int .u8 x.toNat,.int .u8 y.toNat] 5)).drew) =
  .ok (.string ⟨#[x,y]⟩) ((w.alloc (.cells #[.int .u8 x.toNat,.int .u8 y.toNat] 5)).drew):=by
 refine run_convert_bytes_back _ 39 9 5 ⟨w.heap.size,0,none⟩ 2 [x,y] Tryz.underlying39 Tryz.underlying5 Tryz.underlying9 ?_
 intro j hj
 match j,hj with
 | 0,_=>simp [Addr.add]
 | 1,_=>simp [Addr.add]
theorem hexPair_any (v:Int) (w:World) (h0:0≤v) (h1:v < 64):Calls Tryz.prog 101 #[.int .i64 v] w (RetS w (hexT v)):=by
 have ha:=i64_and15 v h0 h1
 have h2:0≤v / 16:=by omega
 have h3:v / 16 < 16:=by omega
 have h4:0≤v % 16:=by omega
 have h5:v % 16 < 16:=by omega
 have hcv:=conv2_any w
 have e1:(({ data:=#[48,49,50,51,52,53,54,55,56,57,97,98,99,100,101,102] }:ByteArray)[(v / 16).toNat]'(by show (v / 16).toNat < 16;omega))=hexD (v / 16):=hexD_at _ _
 have e2:(({ data:=#[48,49,50,51,52,53,54,55,56,57,97,98,99,100,101,102] }:ByteArray)[(v % 16).toNat]'(by show (v % 16).toNat < 16;omega))=hexD (v % 16):=hexD_at _ _
 go_enter Tryz.func101,Tryz.ntmps101
 go_wp2
 go_region
 go_wp2
 go_ret
 exact⟨rfl,(((Below.refl _ _).alloc (Nat.le_refl _) _).drew)⟩
theorem path_any (no:Nat) (w:World) (h:no < 4096):Calls Tryz.prog 54 #[.int .i64 no] w (RetS w (S.path no)):=by
 obtain⟨v,hv⟩:∃ v:Int,v=no:=⟨_,rfl⟩
 have h0:0≤v:=by omega
 have h1:v < 4096:=by omega
 have h0i:¬ v < 0:=by omega
 have h1i:¬ v≥4096:=by omega
 have h2:0≤v / 64:=by omega
 have h3:v / 64 < 64:=by omega
 have h4:0≤v % 64:=by omega
 have h5:v % 64 < 64:=by omega
 have z1:(hexT (v / 64)).size≤2:=Nat.le_refl 2
 have z2:(hexT (v % 64)).size≤2:=Nat.le_refl 2
 have HP1:=Lib.hid (fun u:World=>hexPair_any (v / 64) u (by omega) (by omega))
 have HP2:=Lib.hid (fun u:World=>hexPair_any (v % 64) u (by omega) (by omega))
 have HV:Hid (S.path no=⟨#[111,47]⟩++hexT (v / 64)++⟨#[47]⟩++hexT (v % 64)):=Lib.hid (by
  rw[S.path_at h]
  have a1:hexD (v / 64 / 16)=S.hx (no / 1024):=by rw[show v / 64 / 16=((no / 1024:Nat):Int) by omega];exact hexD_hx _ (by omega)
  have a2:hexD (v / 64 % 16)=S.hx (no / 64 % 16):=by rw[show v / 64 % 16=((no / 64 % 16:Nat):Int) by omega];exact hexD_hx _ (by omega)
  have a3:hexD (v % 64 / 16)=S.hx (no % 64 / 16):=by rw[show v % 64 / 16=((no % 64 / 16:Nat):Int) by omega];exact hexD_hx _ (by omega)
  have a4:hexD (v % 64 % 16)=S.hx (no % 16):=by rw[show v % 64 % 16=((no % 16:Nat):Int) by omega];exact hexD_hx _ (by omega)
  unfold hexT
  rw[a1,a2,a3,a4]
  rfl)
 rw[← hv,HV.out]
 generalize hexT (v / 64)=t1 at *
 generalize hexT (v % 64)=t2 at *
 clear hv HV h
 go_enter Tryz.func54,Tryz.ntmps54
 go_wp2_with fail
 refine (HP1.out _).mono ?_
 rintro e w1 ⟨rfl,hb1⟩
 go_wp2_with fail
 refine (HP2.out _).mono ?_
 rintro e w2 ⟨rfl,hb2⟩
 go_wp2
 go_ret
 exact⟨rfl,below_then hb1.size hb1 hb2⟩
end Go.Proofs.YthjeglnkgdpijaaGreatDoor
namespace Go.Proofs.YthjeglnkgdpijaaGreatDoor
namespace S
open D (Fit)
variable {k:Nat} {d:D.Dsk} {s:Sto}
theorem steps_fit:∀ (l:List (D.Dsk→D.Dsk × Int)) {k:Nat} {d:D.Dsk},(∀ f∈l,∀ (k:Nat) (d:D.Dsk),Fit k d→Fit (k+1) (f d).1)→Fit k d→Fit (k+l.length) (steps d l).1
 | [],_,_,_,h=>h
 | f::r,k,d,hf,h=>by
  have h1:=hf f (by simp) k d h
  unfold steps
  rw[List.length_cons]
  split
  ·exact h1.mono (by omega)
  ·exact (steps_fit r (fun g hg=>hf g (List.mem_cons_of_mem _ hg)) h1).mono (by omega)
theorem moves_fit (b:List UInt8):∀ f∈moves b,∀ (k:Nat) (d:D.Dsk),Fit k d→Fit (k+1) (f d).1:=by
 intro f hf k d h
 unfold moves at hf
 simp only[List.mem_cons,List.not_mem_nil,or_false]at hf
 rcases hf with rfl | rfl | rfl | rfl
 ·exact h.create _
 ·exact h.append _ _
 ·exact h.sync _
 ·exact h.rename _ _
theorem firsts_fit:∀ f∈firsts,∀ (k:Nat) (d:D.Dsk),Fit k d→Fit (k+1) (f d).1:=by
 intro f hf k d h
 unfold firsts at hf
 simp only[List.mem_cons,List.not_mem_nil,or_false]at hf
 rcases hf with rfl | rfl | rfl
 ·exact h.create _
 ·exact h.sync _
 ·exact h.syncNames
theorem rewrite_fit (h:Fit k d) (count:Nat) (list:List R.Rc):Fit (k+5) (rewrite d count list).1:=by
 have h1:=steps_fit (moves (R.encAll list 0 []).1) (moves_fit _) h
 have h2:(moves (R.encAll list 0 []).1).length=4:=rfl
 rw[h2]at h1
 unfold rewrite
 split
 ·exact h.mono (by omega)
 ·split
  ·exact h1.syncNames
  ·split
   ·exact h1.mono (by omega)
   ·exact h1.remove _
theorem add_fit (h:Fit k d) (count:Nat) (op no:Int) (id:ByteArray):Fit (k+2) (add d count op no id).1:=by
 unfold add
 split
 ·exact h.mono (by omega)
 ·split
  ·exact (h.append _ _).mono (by omega)
  ·exact (h.append _ _).sync _
theorem tidy_fit (h:Fit k s.d):Fit (k+5) s.tidy.d:=by
 unfold Sto.tidy
 split
 ·exact h.mono (by omega)
 ·exact rewrite_fit h _ _
theorem lay_fit (h:Fit k d) (p:ByteArray) (b:List UInt8):Fit (k+5) (lay d p b).1:=by
 unfold lay
 have hx:Fit (k+1) (if has d.list p then d.remove p else (d,0)).1:=by
  split
  ·exact h.remove _
  ·exact h.mono (by omega)
 generalize (if has d.list p then d.remove p else (d,0))=x at *
 dsimp only
 split
 ·exact hx.mono (by omega)
 ·split
  ·exact (hx.create _).mono (by omega)
  ·split
   ·exact ((hx.create _).append _ _).mono (by omega)
   ·split
    ·exact (((hx.create _).append _ _).sync _).mono (by omega)
    ·exact (((hx.create _).append _ _).sync _).syncNames
theorem free_fit (h:Fit k s.d) (no:Nat):Fit (k+1) (s.free no).d:=h.remove _
theorem entered_fit (no:Nat) (id:ByteArray) (x:D.Dsk × Bool × Int) (h:Fit k x.1):Fit (k+8) (s.entered no id x).1.d:=by
 unfold Sto.entered
 have hy:Fit (k+2) (if x.2.2=0 then add x.1 s.count 1 no id else (x.1,s.count,x.2.2):D.Dsk × Nat × Int).1:=by
  split
  ·exact add_fit h _ _ _ _
  ·exact h.mono (by omega)
 generalize (if x.2.2=0 then add x.1 s.count 1 no id else (x.1,s.count,x.2.2):D.Dsk × Nat × Int)=y at *
 dsimp only
 split
 ·split
  ·exact (hy.remove _).mono (by omega)
  ·exact hy.mono (by omega)
 ·refine tidy_fit (k:=k+3) ?_
  show Fit (k+3) (({ s with d:=y.1,count:=y.2.1 }:Sto).freed id).d
  unfold Sto.freed
  split
  ·exact free_fit (s:={ s with d:=y.1,count:=y.2.1 }) hy _
  ·exact hy.mono (by omega)
theorem put_fit (h:Fit k s.d) (E:O.Ent):Fit (k+13) (s.put E).1.d:=by
 unfold Sto.put
 split
 ·exact h.mono (by omega)
 ·split
  ·exact h.mono (by omega)
  ·split
   ·exact h.mono (by omega)
   ·exact entered_fit _ _ _ (lay_fit h _ _)
theorem drop_fit (h:Fit k s.d) (id:ByteArray):Fit (k+8) (s.drop id).1.d:=by
 unfold Sto.drop
 split
 ·exact h.mono (by omega)
 ·rename_i no _
  have hy:=add_fit h s.count 2 no id
  dsimp only
  split
  ·exact hy.mono (by omega)
  ·exact tidy_fit (k:=k+3) (free_fit (s:={ s with d:=_,count:=_,tab:=_ }) hy _)
end S
end Go.Proofs.YthjeglnkgdpijaaGreatDoor
