/- The stand-in disk as a plain state: its steps, what is read of it, what a loss of power leaves; and the document's disk over the same. No program here. A map from names to files in memory, told by a rising list of names and numbers. No condition: plain lemmas over the kit's words on maps. The stand-in disk in memory: which blocks it has, what they hold, what a step may turn. No condition: plain lemmas. The walks of the disk's small functions: Down, Steps, good, slices.Contains at numbers, begin. Conditions: texts of at most 2^40 bytes, at most 2^40 steps that fail. The walks of frame.OfResponse and the document's Bare and OfResponse (printed by gen/rframe.py). Conditions: a list of bulk at most 2^30, a status of 64 bits. A response's message as a plain function on bytes; the walks of inbox.response and inbox.Response (printed by gen/iresp.py). Conditions: a row of at most 2^28 bytes; the library's two tables of UTF-8; internal/bytealg.MaxLen; strconv's two error variables. The walk of the document's Response (printed by gen/irespr.py). Conditions: a row of at most 2^28 bytes. -/
import Derived.Maps.OwnSet
import Derived.Maps.OwnOps
import Derived.Maps.Range
import Derived.Maps.RangeWalk
import Derived.Sort.KeysCollected
import Derived.IntWalk
import Derived.Deep.QuietTactic
import Derived.BigQuiet
import Derived.Deep.CutBlock
import Derived.Deep.DeepCutAuto
import Derived.Test.YtkempjcphpnocaaGreatDoorZ01
import Derived.Test.YtkempjcphpnocaaGreatDoorHeadResp
namespace Go.Proofs.YtkempjcphpnocaaGreatDoor
namespace D
abbrev NM:=List (ByteArray × Nat)
def ltB (a b:ByteArray):Bool:=decide (L a < L b)
def okB (c:UInt8):Bool:=(decide (97≤c.toNat)&&decide (c.toNat≤122))||(decide (48≤c.toNat)&&decide (c.toNat≤57))||decide (c=46)||decide (c=45)||decide (c=95)||decide (c=47)
def good (s:ByteArray):Bool:=(L s).all okB&&decide (1≤s.size)&&decide (s.size≤64)
def find (l:NM) (nm:ByteArray):Option Nat:=(l.find? fun p=>decide (p.1=nm)).map (·.2)
def del (l:NM) (nm:ByteArray):NM:=l.filter fun p=>decide (p.1≠nm)
def ins:NM→ByteArray→Nat→NM
 | [],nm,no=>[(nm,no)]
 | p::r,nm,no=>if ltB nm p.1 then (nm,no)::p::r else p::ins r nm no
def put (l:NM) (nm:ByteArray) (no:Nat):NM:=ins (del l nm) nm no
inductive Chg where
 | put (nm:ByteArray) (no:Nat)
 | del (nm:ByteArray)
 | ren (a b:ByteArray) (no:Nat)
def Chg.app (l:NM):Chg→NM
 | .put nm no=>D.put l nm no
 | .del nm=>D.del l nm
 | .ren a b no=>D.put (D.del l a) b no
def Chg.within (n:Nat):Chg→Prop
 | .put _ no=>no < n
 | .del _=>True
 | .ren _ _ no=>no < n
structure Dsk where
 now:NM
 safe:NM
 pend:List Chg
 data:List (List UInt8)
 firm:List Nat
 room:Int
 fails:List Int
 power:Int
 n:Int
def Dsk.down (s:Dsk):Bool:=decide (0≤s.power)&&decide (s.n=s.power)
def Dsk.size (s:Dsk) (no:Nat):Nat:=(s.data.getD no []).length
def Dsk.used (s:Dsk):Nat:=(s.now.map fun p=>s.size p.2).sum
def Dsk.begin (s:Dsk) (names:List ByteArray):Dsk × Int :=
 if s.down then (s,93)
 else ({ s with n:=s.n+1 },if decide (s.n+1∈s.fails) then 94 else if names.all good then 0 else 95)
def Dsk.alter (s:Dsk) (c:Chg):Dsk:={ s with now:=c.app s.now,pend:=s.pend++[c] }
def Dsk.create (s:Dsk) (nm:ByteArray):Dsk × Int :=
 match s.begin [nm] with
 | (s1,e)=>if e≠0 then (s1,e) else if (find s1.now nm).isSome then (s1,91)
  else (({ s1 with data:=s1.data++[[]],firm:=s1.firm++[0] }:Dsk).alter (.put nm s1.data.length),0)
def Dsk.on (s:Dsk) (nm:ByteArray) (more:List ByteArray) (f:Dsk→Nat→Dsk × Int):Dsk × Int :=
 match s.begin (more++[nm]) with
 | (s1,e)=>if e≠0 then (s1,e) else match find s1.now nm with
  | none=>(s1,90)
  | some no=>f s1 no
def Dsk.append (s:Dsk) (nm:ByteArray) (d:List UInt8):Dsk × Int :=
 s.on nm [] fun s no=>if 0 < d.length∧s.room < (s.used:Int)+d.length then (s,92) else ({ s with data:=s.data.set no (s.data.getD no []++d) },0)
def Dsk.sync (s:Dsk) (nm:ByteArray):Dsk × Int:=s.on nm [] fun s no=>({ s with firm:=s.firm.set no (s.size no) },0)
def Dsk.syncNames (s:Dsk):Dsk × Int :=
 match s.begin [] with
 | (s1,e)=>if e≠0 then (s1,e) else ({ s1 with safe:=s1.now,pend:=[] },0)
def Dsk.rename (s:Dsk) (a b:ByteArray):Dsk × Int:=s.on a [b] fun s no=>if a=b then (s,0) else (s.alter (.ren a b no),0)
def Dsk.remove (s:Dsk) (nm:ByteArray):Dsk × Int:=s.on nm [] fun s _=>(s.alter (.del nm),0)
def Dsk.read (s:Dsk) (nm:ByteArray):List UInt8 × Int :=
 if s.down then ([],93) else if good nm=false then ([],95) else match find s.now nm with
 | none=>([],90)
 | some no=>(s.data.getD no [],0)
def Dsk.list (s:Dsk):List ByteArray:=if s.down then [] else s.now.map (·.1)
def Dsk.keepN (s:Dsk) (keep:List Int) (no:Nat):Nat:=s.firm.getD no 0+(if no < keep.length then max 0 (min (keep.getD no 0) ((s.size no:Int) - s.firm.getD no 0)) else 0).toNat
def Dsk.namesLeft (s:Dsk) (k:Int):NM:=(s.pend.take k.toNat).foldl Chg.app s.safe
def Dsk.left (s:Dsk) (k:Int) (keep:List Int):List (ByteArray × List UInt8):=(s.namesLeft k).map fun p=>(p.1,(s.data.getD p.2 []).take (s.keepN keep p.2))
def Up (l:NM):Prop:=l.Pairwise fun p q=>ltB p.1 q.1=true
structure Dsk.Ok (s:Dsk):Prop where
 lens:s.firm.length=s.data.length
 upN:Up s.now
 upS:Up s.safe
 inN:∀ p∈s.now,p.2 < s.data.length
 inS:∀ p∈s.safe,p.2 < s.data.length
 inP:∀ c∈s.pend,c.within s.data.length
 fold:s.now=s.pend.foldl Chg.app s.safe
 firms:∀ no,no < s.data.length→s.firm.getD no 0≤s.size no
theorem lt_irrefl (a:ByteArray):ltB a a=false:=by
 unfold ltB
 exact decide_eq_false (List.lt_irrefl _)
theorem lt_trans {a b c:ByteArray} (h1:ltB a b=true) (h2:ltB b c=true):ltB a c=true:=by
 unfold ltB at *
 exact decide_eq_true (List.lt_trans (of_decide_eq_true h1) (of_decide_eq_true h2))
theorem L_inj {a b:ByteArray} (h:L a=L b):a=b:=by
 obtain⟨a⟩:=a
 obtain⟨b⟩:=b
 have:a=b:=Array.toList_inj.1 h
 rw[this]
theorem lt_or {a b:ByteArray} (h:a≠b):ltB a b=true∨ltB b a=true:=by
 unfold ltB
 by_cases h1:L a < L b
 ·exact .inl (decide_eq_true h1)
 ·by_cases h2:L b < L a
  ·exact .inr (decide_eq_true h2)
  ·have:=List.le_antisymm (show L a≤L b from h2) (show L b≤L a from h1)
   exact absurd (L_inj this) h
theorem mem_del {l:NM} {nm:ByteArray} {p:ByteArray × Nat}:p∈del l nm↔p∈l∧p.1≠nm:=by
 unfold del
 rw[List.mem_filter]
 simp
theorem up_del {l:NM} (h:Up l) (nm:ByteArray):Up (del l nm):=List.Pairwise.sublist List.filter_sublist h
theorem mem_ins:∀ {l:NM} {nm:ByteArray} {no:Nat} {p:ByteArray × Nat},p∈ins l nm no↔p=(nm,no)∨p∈l
 | [],nm,no,p=>by simp [ins]
 | q::r,nm,no,p=>by
  unfold ins
  split
  ·simp
  ·rw[List.mem_cons,List.mem_cons,mem_ins (l:=r)]
   constructor
   ·rintro (h | h | h)
    ·exact .inr (.inl h)
    ·exact .inl h
    ·exact .inr (.inr h)
   ·rintro (h | h | h)
    ·exact .inr (.inl h)
    ·exact .inl h
    ·exact .inr (.inr h)
theorem up_ins:∀ {l:NM} {nm:ByteArray} {no:Nat},Up l→(∀ p∈l,p.1≠nm)→Up (ins l nm no)
 | [],nm,no,_,_=>by unfold ins Up;exact List.pairwise_singleton _ _
 | q::r,nm,no,h,hn=>by
  have hq:=List.pairwise_cons.1 h
  unfold ins
  split
  ·rename_i hlt
   refine List.pairwise_cons.2 ⟨fun p hp=>?_,h⟩
   rcases List.mem_cons.1 hp with rfl | hp
   ·exact hlt
   ·exact lt_trans hlt (hq.1 p hp)
  ·rename_i hlt
   refine List.pairwise_cons.2 ⟨fun p hp=>?_,up_ins hq.2 (fun p hp=>hn p (List.mem_cons_of_mem _ hp))⟩
   rcases mem_ins.1 hp with rfl | hp
   ·rcases lt_or (hn q (by simp)) with h1 | h1
    ·exact h1
    ·exact absurd h1 hlt
   ·exact hq.1 p hp
theorem up_put {l:NM} (h:Up l) (nm:ByteArray) (no:Nat):Up (put l nm no):=up_ins (up_del h nm) (fun _ hp=>(mem_del.1 hp).2)
theorem mem_put {l:NM} {nm:ByteArray} {no:Nat} {p:ByteArray × Nat}:p∈put l nm no↔p=(nm,no)∨(p∈l∧p.1≠nm):=by
 unfold put
 rw[mem_ins,mem_del]
theorem find_mem {l:NM} {nm:ByteArray} {no:Nat} (h:find l nm=some no):(nm,no)∈l:=by
 unfold find at h
 rw[Option.map_eq_some_iff]at h
 obtain⟨p,hp,rfl⟩:=h
 have h1:=List.mem_of_find?_eq_some hp
 have h2:p.1=nm:=by simpa using List.find?_some hp
 rw[← h2]
 exact h1
theorem find_none {l:NM} {nm:ByteArray} (h:find l nm=none):∀ p∈l,p.1≠nm:=by
 unfold find at h
 rw[Option.map_eq_none_iff,List.find?_eq_none]at h
 intro p hp
 simpa using h p hp
theorem up_app {l:NM} (h:Up l) (c:Chg):Up (c.app l):=by
 cases c with
 | put nm no=>exact up_put h nm no
 | del nm=>exact up_del h nm
 | ren a b no=>exact up_put (up_del h a) b no
theorem up_left {s:Dsk} (h:s.Ok) (k:Int):Up (s.namesLeft k):=by
 have:∀ (cs:List Chg) (l:NM),Up l→Up (cs.foldl Chg.app l):=by
  intro cs
  induction cs with
  | nil=>exact fun _ h=>h
  | cons c cs ih=>exact fun l hl=>ih _ (up_app hl c)
 exact this _ _ h.upS
def Dsk.look (s:Dsk) (nm:ByteArray) (more:List ByteArray):Dsk × Int × Option Nat :=
 match s.begin (more++[nm]) with
 | (s1,e)=>if e≠0 then (s1,e,none) else match find s1.now nm with
  | none=>(s1,90,none)
  | some no=>(s1,0,some no)
theorem Dsk.on_look (s:Dsk) (nm:ByteArray) (more:List ByteArray) (f:Dsk→Nat→Dsk × Int) :
  s.on nm more f=match s.look nm more with | (s1,_,some no)=>f s1 no | (s1,e,none)=>(s1,e):=by
 unfold Dsk.on Dsk.look
 cases s.begin (more++[nm]) with
 | mk s1 e =>
  dsimp only
  split
  ·rfl
  ·cases find s1.now nm<;>rfl
structure Dsk.Sml (s:Dsk):Prop where
 n0:0≤s.n
 n:s.n≤1099511627776
 fails:s.fails.length≤1099511627776
 now:s.now.length≤1099511627776
 pend:s.pend.length≤1099511627776
 data:s.data.length≤1099511627776
 size:∀ no,s.size no≤1099511627776
theorem Dsk.begin_or (s:Dsk) (ns:List ByteArray):(s.begin ns).1=s∨(s.begin ns).1={ s with n:=s.n+1 }:=by
 unfold Dsk.begin
 split
 ·exact .inl rfl
 ·exact .inr rfl
theorem Dsk.begin_as (s:Dsk) (ns:List ByteArray):∃ n,(s.begin ns).1={ s with n:=n }:=by
 rcases s.begin_or ns with h | h
 ·exact⟨s.n,h⟩
 ·exact⟨_,h⟩
theorem Dsk.look_or (s:Dsk) (nm:ByteArray) (more:List ByteArray):(∃ n e,s.look nm more=({ s with n:=n },e,none)∧e≠0)∨∃ n no,s.look nm more=({ s with n:=n },0,some no)∧find s.now nm=some no:=by
 obtain⟨n,hn⟩:=s.begin_as (more++[nm])
 unfold Dsk.look
 cases hb:s.begin (more++[nm]) with
 | mk s1 e =>
  rw[hb]at hn
  dsimp only at hn ⊢
  subst hn
  by_cases he:e=0
  ·rw[if_neg (by simpa using he)]
   dsimp only
   cases hf:find s.now nm with
   | none=>exact .inl ⟨n,90,rfl,by decide⟩
   | some no=>exact .inr ⟨n,no,rfl,rfl⟩
  ·rw[if_pos he]
   exact .inl ⟨n,e,rfl,he⟩
end D
end Go.Proofs.YtkempjcphpnocaaGreatDoor
namespace Go.Proofs.YtkempjcphpnocaaGreatDoor
open Go Go.RowKit Go.Maps
namespace D
theorem before_lt:∀ a b:List UInt8,bytesBefore a b=decide (a < b)
 | [],[]=>by simp [bytesBefore]
 | [],_::_=>by simp [bytesBefore]
 | _::_,[]=>by simp [bytesBefore]
 | a::r,b::s=>by
  unfold bytesBefore
  rw[before_lt r s,Bool.eq_iff_iff]
  simp only[Bool.or_eq_true,decide_eq_true_eq,Bool.and_eq_true,beq_iff_eq,List.cons_lt_cons_iff]
theorem ltB_before (a b:ByteArray):bytesBefore (L a) (L b)=ltB a b:=before_lt _ _
def ptrR:Value→Option (DataW Unit × List MemPlace)
 | .pointer (some ⟨b,0,none⟩)=>some (.lit (.int .i64 b),[])
 | .pointer none=>some (.nil,[])
 | _=>none
theorem ptrR_inv {v:Value} {b:Nat} {ps:List MemPlace} (h:ptrR v=some (.lit (.int .i64 b),ps)):v=.pointer (some ⟨b,0,none⟩):=by
 unfold ptrR at h
 split at h
 ·simp only[Option.some.injEq,Prod.mk.injEq,DataW.lit.injEq,Lit.int.injEq,true_and]at h
  have:(_:Nat)=b:=Int.ofNat.inj h.1
  rw[this]
 ·cases h
 ·cases h
theorem ptrR_nil {v:Value} {ps:List MemPlace} (h:ptrR v=some (.nil,ps)):v=.pointer none:=by
 unfold ptrR at h
 split at h
 ·cases h
 ·rfl
 ·cases h
def key (nm:ByteArray):Lit:=.string (L nm)
def ent (fa:Nat→Nat) (p:ByteArray × Nat):Lit × DataW Unit:=(key p.1,.lit (.int .i64 (fa p.2)))
def datum (fa:Nat→Nat) (l:NM):DataW Unit:=.map (l.map (ent fa))
theorem same_key (a b:ByteArray):(key a).sameKey (key b)=decide (a=b):=by
 unfold key Lit.sameKey
 rw[Bool.eq_iff_iff]
 simp only[beq_iff_eq,decide_eq_true_eq]
 exact⟨L_inj,fun h=>by rw[h]⟩
theorem datum_del (fa:Nat→Nat) (l:NM) (nm:ByteArray):(datum fa l).del (key nm)=datum fa (del l nm):=by
 unfold datum DataW.del D.del
 dsimp only
 congr 1
 rw[List.filter_map]
 congr 1
 apply List.filter_congr
 intro p _
 show (!((ent fa p).1.sameKey (key nm)))=_
 unfold ent
 dsimp only
 rw[same_key]
 simp
theorem insert_map (fa:Nat→Nat) (nm:ByteArray) (no:Nat):∀ l:NM,DataW.insert (ent fa (nm,no)) (l.map (ent fa))=(ins l nm no).map (ent fa)
 | []=>rfl
 | p::r=>by
  have e:(ent fa (nm,no)).1.before (ent fa p).1=ltB nm p.1:=ltB_before _ _
  rw[List.map_cons]
  unfold DataW.insert ins
  rw[e]
  split
  ·rfl
  ·rw[List.map_cons,insert_map fa nm no r]
theorem datum_put (fa:Nat→Nat) (l:NM) (nm:ByteArray) (no:Nat):(datum fa l).put (key nm) (.lit (.int .i64 (fa no)))=datum fa (put l nm no):=by
 have h:=datum_del fa l nm
 unfold datum DataW.del at h
 dsimp only at h
 have h2:(l.map (ent fa)).filter (fun p=>!p.1.sameKey (key nm))=(del l nm).map (ent fa):=by injection h
 unfold datum DataW.put
 dsimp only
 rw[h2]
 exact congrArg DataW.map (insert_map fa nm no (del l nm))
theorem datum_at (fa:Nat→Nat) (l:NM) (nm:ByteArray) (z:DataW Unit):(datum fa l).atKey (key nm) z=match find l nm with | some no=>.lit (.int .i64 (fa no)) | none=>z:=by
 unfold datum DataW.atKey find
 dsimp only
 induction l with
 | nil=>rfl
 | cons p r ih =>
  rw[List.map_cons,List.find?_cons,List.find?_cons]
  have e:(ent fa p).1.sameKey (key nm)=decide (p.1=nm):=same_key _ _
  rw[e]
  cases h:decide (p.1=nm) with
  | true=>rfl
  | false=>exact ih
theorem keys_datum (fa:Nat→Nat) (l:NM):Go.strKeys (datum fa l)=l.map fun p=>L p.1:=by
 unfold datum Go.strKeys
 dsimp only
 rw[List.map_map]
 rfl
theorem keys_sorted {fa:Nat→Nat} {l:NM} (h:Up l) {ss:List (List UInt8)} (hp:ss.Perm (Go.strKeys (datum fa l))):ss.mergeSort (fun x y=>decide (x≤y))=l.map fun p=>L p.1:=by
 rw[keys_datum]at hp
 have h1:ss.mergeSort (fun x y=>decide (x≤y))=(l.map fun p=>L p.1).mergeSort (fun x y=>decide (x≤y)):=Go.mergeSort_of_perm hp
 rw[h1]
 apply List.mergeSort_of_pairwise
 rw[List.pairwise_map]
 refine h.imp fun {a b} hab=>?_
 exact decide_eq_true (List.le_of_lt (of_decide_eq_true hab))
end D
end Go.Proofs.YtkempjcphpnocaaGreatDoor
namespace Go.Proofs.YtkempjcphpnocaaGreatDoor
open Go Go.RowKit Go.Maps
def Tag (w:World) (k:Nat) (t:TypeId):Prop:=∃ cs l,w.heap[k]?=some (.cells cs t l)
def MapB (w:World) (k:Nat):Prop:=∃ es cl,w.heap[k]?=some (.map es cl)
section
variable {w w':World} {b k m:Nat} {cs:Array Value} {t t' e:TypeId} {r:Option Nat} {A:Option Addr} {base s n c:Nat} {xs:List Value}
theorem Tag.ne (h:Tag w k t) (h':Tag w m t') (hn:t≠t'):k≠m:=by
 rintro rfl
 obtain⟨c1,l1,e1⟩:=h
 obtain⟨c2,l2,e2⟩:=h'
 rw[e1]at e2
 injection e2 with e2
 injection e2 with _ e3
 exact hn e3
theorem Tag.map (h:Tag w k t) (h':MapB w m):k≠m:=by
 rintro rfl
 obtain⟨c1,l1,e1⟩:=h
 obtain⟨c2,l2,e2⟩:=h'
 rw[e1]at e2
 cases e2
theorem Blk.tag (h:Blk w b cs t):Tag w b t:=⟨_,_,h⟩
theorem ownsMap_tag {K:TypeId} {R:Value→Option (DataW Unit × List MemPlace)} {D:DataW Unit} (h:w.ownsMap Tryz.prog K R b n D):MapB w b:=by
 obtain⟨es,cl,hb,_⟩:=h
 exact⟨es,cl,hb⟩
theorem Row.tag (h:Row w base e s A n c xs) (hk:ownB A c=some k):Tag w k e:=by
 unfold ownB at hk
 split at hk
 ·cases hk
 ·rename_i hc
  rcases h with h | h
  ·rcases h.2 with ⟨hv,_⟩ | ⟨g,cap,cur,hv,_,hg,_⟩
   ·injection hv with hA
    rw[hA]at hk
    cases hk
   ·injection hv with hA
    rw[hA]at hk
    obtain rfl:g=k:=by simpa using hk
    exact⟨_,_,hg⟩
  ·exact absurd h.2.1 hc
theorem Blk.keptG (h:Blk w b cs t) (hg:w.grownBy w' r) (hne:r≠some b):Blk w' b cs t:=(hg.block b h.lt (fun e=>hne e.symm)).trans h
theorem Row.keptG (h:Row w base e s A n c xs) (hg:w.grownBy w' r) (hne:∀ k,ownB A c=some k→r≠some k):Row w' base e s A n c xs:=by
 by_cases hc:c=0
 ·have hn:=h.cap.1
  have hn0:n=0:=by omega
  subst hn0
  exact .inr ⟨rfl,hc,List.eq_nil_of_length_eq_zero (by have:=h.len;simpa using this)⟩
 ·rcases h with h | h
  ·refine .inl (h.kept (row:=r) hg ?_)
   cases A with
   | none=>exact .inl rfl
   | some a =>
    refine .inr fun e=>hne a.block (by unfold ownB;rw[if_neg hc];rfl) ?_
    rw[← e]
    rfl
  ·exact .inr h
end
def All2 {α β:Type} (R:α→β→Prop):List α→List β→Prop
 | [],[]=>True
 | a::l,b::m=>R a b∧All2 R l m
 | _,_=>False
theorem All2.imp {α β:Type} {R S:α→β→Prop}:∀ {l:List α} {m:List β},All2 R l m→(∀ a b,R a b→S a b)→All2 S l m
 | [],[],_,_=>trivial
 | _::_,_::_,h,hi=>⟨hi _ _ h.1,h.2.imp hi⟩
theorem All2.len {α β:Type} {R:α→β→Prop}:∀ {l:List α} {m:List β},All2 R l m→l.length=m.length
 | [],[],_=>rfl
 | _::_,_::_,h=>by rw[List.length_cons,List.length_cons,All2.len h.2]
theorem All2.snoc {α β:Type} {R:α→β→Prop}:∀ {l:List α} {m:List β} {a:α} {b:β},All2 R l m→R a b→All2 R (l++[a]) (m++[b])
 | [],[],_,_,_,h=>⟨h,trivial⟩
 | _::_,_::_,_,_,h,hr=>⟨h.1,h.2.snoc hr⟩
structure DM where
 d:Nat
 mN:Nat
 mS:Nat
 PA:Option Addr
 pc:Nat
 pv:List Value
 fa:Nat→Nat
 da:Nat→Option Addr
 dc:Nat→Nat
 FA:Option Addr
 fc:Nat
def ChgV (w:World) (B:Nat) (fa:Nat→Nat):D.Chg→Value→Prop
 | .put nm no,v=>∃ bf bn,v=.func (.func 96) #[] #[.pointer (some ⟨bf,0,none⟩),.pointer (some ⟨bn,0,none⟩)]∧B≤bf∧B≤bn ∧
   Blk w bf #[.pointer (some ⟨fa no,0,none⟩)] 75∧Blk w bn #[.string nm] 9
 | .del nm,v=>∃ bn,v=.func (.func 75) #[] #[.pointer (some ⟨bn,0,none⟩)]∧B≤bn∧Blk w bn #[.string nm] 9
 | .ren a b no,v=>∃ ba bf bb,v=.func (.func 99) #[] #[.pointer (some ⟨ba,0,none⟩),.pointer (some ⟨bf,0,none⟩),.pointer (some ⟨bb,0,none⟩)]∧B≤ba∧B≤bf∧B≤bb ∧
   Blk w ba #[.string a] 9∧Blk w bf #[.pointer (some ⟨fa no,0,none⟩)] 75∧Blk w bb #[.string b] 9
def icells (l:List Int):List Value:=l.map fun z=>.int .i64 z
structure FileAt (B:Nat) (M:DM) (s:D.Dsk) (no:Nat) (w:World):Prop where
 blk:Blk w (M.fa no) #[.int .i64 no,.slice (M.da no) (s.size no) (M.dc no),.int .i64 (s.firm.getD no 0:Nat)] 78
 row:Row w B 5 1 (M.da no) (s.size no) (M.dc no) (bcells (s.data.getD no []))
 ge:B≤M.fa no
structure DkAt (B:Nat) (M:DM) (s:D.Dsk) (w:World):Prop where
 blk:Blk w M.d #[.map (some M.mN),.map (some M.mS),.slice M.PA s.pend.length M.pc,.int .i64 s.data.length,.int .i64 s.room,.slice M.FA s.fails.length M.fc,.int .i64 s.power,.int .i64 s.n] 71
 now:w.ownsMap Tryz.prog 9 D.ptrR M.mN s.now.length (D.datum M.fa s.now)
 safe:w.ownsMap Tryz.prog 9 D.ptrR M.mS s.safe.length (D.datum M.fa s.safe)
 ne:M.mN≠M.mS
 pend:Row w B 115 1 M.PA s.pend.length M.pc M.pv
 chg:All2 (ChgV w B M.fa) s.pend M.pv
 fails:Row w B 3 1 M.FA s.fails.length M.fc (icells s.fails)
 files:∀ no,no < s.data.length→FileAt B M s no w
 apart:∀ i j,i < s.data.length→j < s.data.length→i≠j→M.fa i≠M.fa j∧∀ k,ownB (M.da i) (M.dc i)=some k→ownB (M.da j) (M.dc j)≠some k
 ge:B≤M.d∧B≤M.mN∧B≤M.mS
def DM.foot (M:DM) (s:D.Dsk) (k:Nat):Prop:=k=M.d∨k=M.mN∨k=M.mS∨ownB M.PA M.pc=some k∨∃ no,no < s.data.length∧(k=M.fa no∨ownB (M.da no) (M.dc no)=some k)
structure Stepped (M:DM) (s:D.Dsk) (w:World) (M':DM) (s':D.Dsk) (w':World):Prop where
 os:w'.os=w.os
 tape:w'.tape=w.tape
 output:w'.output=w.output
 size:w.heap.size≤w'.heap.size
 block:∀ k,k < w.heap.size→¬ M.foot s k→w'.heap[k]?=w.heap[k]?
 foot:∀ k,M'.foot s' k→M.foot s k∨w.heap.size≤k
 same:M'.d=M.d
theorem Stepped.refl (M:DM) (s:D.Dsk) (w:World):Stepped M s w M s w:=⟨rfl,rfl,rfl,Nat.le_refl _,fun _ _ _=>rfl,fun _ h=>.inl h,rfl⟩
theorem Stepped.trans {M1 M2 M3:DM} {s1 s2 s3:D.Dsk} {w1 w2 w3:World} (h:Stepped M1 s1 w1 M2 s2 w2) (k:Stepped M2 s2 w2 M3 s3 w3):Stepped M1 s1 w1 M3 s3 w3 :=
 ⟨k.os.trans h.os,k.tape.trans h.tape,k.output.trans h.output,Nat.le_trans h.size k.size,fun i hi hn=>(k.block i (Nat.lt_of_lt_of_le hi h.size) (fun hf=>by
  rcases h.foot i hf with h1 | h1
  ·exact hn h1
  ·omega)).trans (h.block i hi hn),fun i hf=>by
  rcases k.foot i hf with h1 | h1
  ·exact h.foot i h1
  ·exact .inr (Nat.le_trans h.size h1),k.same.trans h.same⟩
theorem Stepped.below {M:DM} {s:D.Dsk} {w w':World} (h:Below w.heap.size w w'):Stepped M s w M s w':=⟨h.os,h.tape,h.output,h.size,fun k hk _=>h.block k hk,fun _ h=>.inl h,rfl⟩
section
variable {B:Nat} {M:DM} {s:D.Dsk} {w w':World} {r:Option Nat}
theorem ChgV.kept {fa:Nat→Nat} {c:D.Chg} {v:Value} (h:ChgV w B fa c v) (hg:w.grownBy w' r) (hne:∀ k t,r=some k→Tag w k t→t≠75∧t≠9):ChgV w' B fa c v:=by
 have hb:∀ {b:Nat} {cs:Array Value} {t:TypeId},(t=75∨t=9)→Blk w b cs t→Blk w' b cs t:=fun ht hb=>hb.keptG hg (fun e=>by
  have:=hne _ _ e hb.tag
  rcases ht with rfl | rfl
  ·exact this.1 rfl
  ·exact this.2 rfl)
 cases c with
 | put nm no =>
  obtain⟨bf,bn,h1,h2,h3,h4,h5⟩:=h
  exact⟨bf,bn,h1,h2,h3,hb (.inl rfl) h4,hb (.inr rfl) h5⟩
 | del nm =>
  obtain⟨bn,h1,h2,h3⟩:=h
  exact⟨bn,h1,h2,hb (.inr rfl) h3⟩
 | ren a b no =>
  obtain⟨ba,bf,bb,h1,h2,h3,h4,h5,h6,h7⟩:=h
  exact⟨ba,bf,bb,h1,h2,h3,h4,hb (.inr rfl) h5,hb (.inl rfl) h6,hb (.inr rfl) h7⟩
theorem DkAt.below (h:DkAt B M s w) (hb:Below w.heap.size w w'):DkAt B M s w':=by
 have hg:w.grownBy w' none:=⟨hb.os,hb.tape,hb.output,hb.size,fun k hk _=>hb.block k hk⟩
 exact⟨h.blk.below hb,h.now.kept hg (by simp),h.safe.kept hg (by simp),h.ne,h.pend.below hb,h.chg.imp (fun c v hc=>hc.kept hg (fun k t e=>by cases e)),h.fails.below hb,
  fun no hn=>⟨(h.files no hn).blk.below hb,(h.files no hn).row.below hb,(h.files no hn).ge⟩,h.apart,h.ge⟩
theorem DkAt.cells (h:DkAt B M s w):w.cell? ⟨M.d,0,none⟩=some (.map (some M.mN))∧w.cell? ⟨M.d,1,none⟩=some (.map (some M.mS))∧w.cell? ⟨M.d,2,none⟩=some (.slice M.PA s.pend.length M.pc)∧w.cell? ⟨M.d,3,none⟩=some (.int .i64 s.data.length) ∧
  w.cell? ⟨M.d,4,none⟩=some (.int .i64 s.room)∧w.cell? ⟨M.d,5,none⟩=some (.slice M.FA s.fails.length M.fc)∧w.cell? ⟨M.d,6,none⟩=some (.int .i64 s.power)∧w.cell? ⟨M.d,7,none⟩=some (.int .i64 s.n) :=
 ⟨h.blk.cell 0 rfl,h.blk.cell 1 rfl,h.blk.cell 2 rfl,h.blk.cell 3 rfl,h.blk.cell 4 rfl,h.blk.cell 5 rfl,h.blk.cell 6 rfl,h.blk.cell 7 rfl⟩
theorem DkAt.count (h:DkAt B M s w) (n:Int):DkAt B M { s with n:=n } (w.setCell ⟨M.d,7,none⟩ (.int .i64 n)):=by
 have hg:=grown_set w M.d 7 (.int .i64 n)
 have hT:=h.blk.tag
 have hne:∀ k t,some M.d=some k→Tag w k t→t≠75∧t≠9:=fun k t e ht=>by
  cases e
  obtain⟨c1,l1,e1⟩:=hT
  obtain⟨c2,l2,e2⟩:=ht
  rw[e1]at e2
  injection e2 with e2
  injection e2 with _ e3
  subst e3
  decide
 refine⟨h.blk.set 7 _,h.now.kept hg (fun e=>hT.map (ownsMap_tag h.now) (by simpa using e.symm)),h.safe.kept hg (fun e=>hT.map (ownsMap_tag h.safe) (by simpa using e.symm)),h.ne,
  h.pend.keptG hg (fun k hk e=>(hT.ne (h.pend.tag hk) (by decide)) (by simpa using e)),h.chg.imp (fun c v hc=>hc.kept hg hne),h.fails.keptG hg (fun k hk e=>(hT.ne (h.fails.tag hk) (by decide)) (by simpa using e)),
  fun no hn=>⟨(h.files no hn).blk.keptG hg (fun e=>(hT.ne (h.files no hn).blk.tag (by decide)) (by simpa using e)),(h.files no hn).row.keptG hg (fun k hk e=>(hT.ne ((h.files no hn).row.tag hk) (by decide)) (by simpa using e)),(h.files no hn).ge⟩,
  h.apart,h.ge⟩
theorem Stepped.set {M:DM} {s s':D.Dsk} {w:World} {i:Nat} {x:Value} (hs:s'.data.length=s.data.length):Stepped M s w M s' (w.setCell ⟨M.d,i,none⟩ x) :=
 ⟨rfl,rfl,rfl,by rw[World.size_setCell];exact Nat.le_refl _,fun k _ hn=>by
  unfold World.setCell
  simp only[Array.getElem?_modify]
  rw[if_neg (fun e=>hn (.inl e.symm))],fun k hf=>.inl (by unfold DM.foot at *;rw[hs]at hf;exact hf),rfl⟩
end
end Go.Proofs.YtkempjcphpnocaaGreatDoor
namespace Go.Proofs.YtkempjcphpnocaaGreatDoor
open Go Go.RowKit Go.Maps
namespace D
def okS:List UInt8:=[97,98,99,100,101,102,103,104,105,106,107,108,109,110,111,112,113,114,115,116,117,118,119,120,121,122,48,49,50,51,52,53,54,55,56,57,46,45,95,47]
theorem okB_in (c:UInt8):okB c=okS.contains c:=by
 have h:∀ n:Fin 256,okB (UInt8.ofNat n.1)=okS.contains (UInt8.ofNat n.1):=by decide +kernel
 have:=h ⟨c.toNat,c.toNat_lt⟩
 simpa using this
theorem trim_set (S l:List UInt8):Lib.trimS l S=[]↔l.all (fun c=>S.contains c)=true:=by
 unfold Lib.trimS Lib.trimLeftS Lib.trimRightS
 rw[List.all_eq_true]
 constructor
 ·intro h
  rw[drop_nil]at h
  have h2:l.reverse.dropWhile (fun c=>S.contains c)=[]:=by
   cases h3:l.reverse.dropWhile (fun c=>S.contains c) with
   | nil=>rfl
   | cons x r =>
    have h4:=List.head_dropWhile_not (fun c=>S.contains c) (l:=l.reverse) (by rw[h3];simp)
    simp only[h3,List.head_cons]at h4
    have h5:=h x (by rw[h3];simp)
    rw[h4]at h5
    cases h5
  rw[drop_nil]at h2
  exact fun x hx=>h2 x (by simpa using hx)
 ·intro h
  have h2:l.reverse.dropWhile (fun c=>S.contains c)=[]:=by
   rw[drop_nil]
   exact fun x hx=>h x (by simpa using hx)
  rw[h2]
  rfl
end D
set_option maxRecDepth 100000 in
theorem okTrim (s:ByteArray) (w:World) (hs:s.size≤1099511627776):Calls Tryz.prog 54 #[.string s,.string ⟨#[97,98,99,100,101,102,103,104,105,106,107,108,109,110,111,112,113,114,115,116,117,118,119,120,121,122,48,49,50,51,52,53,54,55,56,57,46,45,95,47]⟩] w (RetS w (B (Lib.trimS (L s) D.okS))):=by
 refine (Any.strings_Trim_laid Tryz.lays160 (by kernel_rfl) s ⟨#[97,98,99,100,101,102,103,104,105,106,107,108,109,110,111,112,113,114,115,116,117,118,119,120,121,122,48,49,50,51,52,53,54,55,56,57,46,45,95,47]⟩ w (by omega) (by decide) (ascii_of_all (by decide))).mono ?_
 rintro e w' ⟨rfl,hb⟩
 exact⟨rfl,hb⟩
set_option maxHeartbeats 1000000 in
theorem down_any (B:Nat) (M:DM) (s:D.Dsk) (w:World) (h:DkAt B M s w):Calls Tryz.prog 49 #[.pointer (some ⟨M.d,0,none⟩)] w (RetB w s.down):=by
 obtain⟨y0,y1,y2,y3,y4,y5,y6,y7⟩:=h.cells
 obtain⟨G,hG⟩:∃ G,s.down=G:=⟨_,rfl⟩
 have HG:Hid (G=(decide (0≤s.power)&&decide (s.n=s.power))):=Lib.hid hG.symm
 rw[hG]
 generalize s.power=pw at *
 generalize s.n=nn at *
 clear h hG y0 y1 y2 y3 y4 y5
 go_enter Tryz.func49,Tryz.ntmps49
 by_cases h0:0≤pw
 ·have h0i:pw≥0:=h0
  by_cases h1:nn=pw
  ·have h1b:(nn==pw)=true:=beq_iff_eq.2 h1
   go_upto_region 1 with fail
   go_region
   go_wp2
   go_ret
   exact⟨ret_bool (by rw[HG.out];simp [h0,h1]),(Below.refl _ _).drew⟩
  ·have h1b:(nn==pw)=false:=beq_eq_false_iff_ne.2 h1
   go_upto_region 1 with fail
   go_region
   go_wp2
   go_ret
   exact⟨ret_bool (by rw[HG.out];simp [h0,h1]),(Below.refl _ _).drew⟩
 ·have h0i:¬ pw≥0:=h0
  go_upto_region 1 with fail
  go_region
  go_wp2
  go_ret
  exact⟨ret_bool (by rw[HG.out,decide_eq_false (show ¬ 0≤pw by omega)];rfl),(Below.refl _ _).drew⟩
theorem steps_any (B:Nat) (M:DM) (s:D.Dsk) (w:World) (h:DkAt B M s w):Calls Tryz.prog 24 #[.pointer (some ⟨M.d,0,none⟩)] w (RetP w (.int .i64 s.n)):=by
 obtain⟨y0,y1,y2,y3,y4,y5,y6,y7⟩:=h.cells
 clear h y0 y1 y2 y3 y4 y5 y6
 go_enter Tryz.func24,Tryz.ntmps24
 go_wp2
 go_ret
 exact⟨rfl,rfl⟩
set_option maxRecDepth 100000 in
set_option maxHeartbeats 1000000 in
theorem goodName_any (s:ByteArray) (w:World) (hs:s.size≤1099511627776):Calls Tryz.prog 27 #[.string s] w (RetB w (D.good s)):=by
 have HT:=Lib.hid (okTrim s w hs)
 obtain⟨G,hG⟩:∃ G,D.good s=G:=⟨_,rfl⟩
 have HG:Hid (G=((L s).all D.okB&&decide (1≤s.size)&&decide (s.size≤64))):=Lib.hid hG.symm
 have HA:Hid (Lib.trimS (L s) D.okS=[]↔(L s).all D.okB=true):=Lib.hid (by rw[D.trim_set,show (fun c=>D.okS.contains c)=D.okB from funext fun c=>(D.okB_in c).symm])
 rw[hG]
 clear hG
 have hls:s.toList.length=s.size:=by rw[L_toList];exact L_size s
 by_cases h0:s.size=0
 ·have he:s.toList=[]:=List.eq_nil_of_length_eq_zero (by omega)
  have hs0:s=⟨#[]⟩:=toList_inj.1 (he.trans (by simp))
  subst hs0
  go_enter Tryz.func27,Tryz.ntmps27
  go_wp2
  go_ret
  exact⟨ret_bool (by rw[HG.out];rfl),Below.refl _ _⟩
 ·have hn:¬ s.toList=[]:=fun e=>h0 (by rw[← hls,e];rfl)
  have hnb:s.toList.isEmpty=false:=by cases h:s.toList<;>simp_all
  by_cases h64:s.size≤64
  ·have h64i:(s.size:Int)≤64:=by omega
   clear hls
   by_cases hall:(L s).all D.okB=true
   ·have HT2:Hid (Calls Tryz.prog 54 #[.string s,.string ⟨#[97,98,99,100,101,102,103,104,105,106,107,108,109,110,111,112,113,114,115,116,117,118,119,120,121,122,48,49,50,51,52,53,54,55,56,57,46,45,95,47]⟩] w (RetS w ⟨#[]⟩)):=by
     have:=HT.out
     rw[HA.out.2 hall]at this
     exact Lib.hid this
    clear HT HA
    go_enter Tryz.func27,Tryz.ntmps27
    go_wp2_with fail
    refine HT2.out.mono ?_
    rintro e w1 ⟨rfl,hb1⟩
    go_wp2
    go_ret
    exact⟨ret_bool (by rw[HG.out,hall,decide_eq_true (show 1≤s.size by omega),decide_eq_true h64];rfl),hb1⟩
   ·have hne:¬ Lib.trimS (L s) D.okS=[]:=fun e=>hall (HA.out.1 e)
    obtain⟨T,hT⟩:∃ T,B (Lib.trimS (L s) D.okS)=T:=⟨_,rfl⟩
    have hTn:¬ T.toList=[]:=fun e=>hne (by rw[← hT,L_toList,L_B]at e;exact e)
    have hTb:T.toList.isEmpty=false:=by cases h:T.toList<;>simp_all
    rw[hT]at HT
    clear hT hne HA
    go_enter Tryz.func27,Tryz.ntmps27
    go_wp2_with fail
    refine HT.out.mono ?_
    rintro e w1 ⟨rfl,hb1⟩
    go_wp2
    go_ret
    exact⟨ret_bool (by rw[HG.out,Bool.not_eq_true _ |>.mp hall];rfl),hb1⟩
  ·have h64i:¬ (s.size:Int)≤64:=by omega
   clear hls HT HA
   go_enter Tryz.func27,Tryz.ntmps27
   go_wp2
   go_ret
   exact⟨ret_bool (by rw[HG.out,decide_eq_false h64,Bool.and_false]),Below.refl _ _⟩
set_option maxHeartbeats 1000000 in
theorem indexI_any (A:Option Addr) (n c:Nat) (zs:List Int) (x:Int) (w:World) (hn:n≤1099511627776) (hl:zs.length=n) (hx:Rd w A n 1 (icells zs)) :
  Calls Tryz.prog 145 #[.slice A n c,.int .i64 x] w (fun e w'=>∃ z:Int,e=.returned (.int .i64 z)∧w'=w∧(0≤z↔x∈zs)):=by
 have HX:=Lib.hid hx
 have HL:=Lib.hid hl
 clear hx hl
 go_enter Tryz.func145,Tryz.ntmps145
 go_wp2
 go_loopw [8] (fun i wr=>∃ k:Nat,k≤n∧i=.int .i64 k∧wr=w∧x ∉ zs.take k) (fun i _=>n - (intOf i).toNat)
 case atStart=>exact⟨0,Nat.zero_le _,rfl,rfl,by simp⟩
 case round =>
  obtain⟨k,hk,rfl,rfl,hno⟩:=hrel
  have HNO:=Lib.hid hno
  clear hno
  by_cases hlt:k < n
  ·obtain⟨b,o,u,rfl,hb,hu,hc⟩:=HX.out.at1 hlt
   have hkl:k < zs.length:=by rw[HL.out];exact hlt
   have hu2:u=.int .i64 (zs[k]'hkl):=by
    unfold icells at hu
    rw[List.getElem?_map,List.getElem?_eq_getElem hkl]at hu
    exact (Option.some.inj hu).symm
   subst hu2
   have HTK:=Lib.hid (List.take_succ_eq_append_getElem hkl)
   have HMEM:=Lib.hid (List.getElem_mem hkl)
   generalize zs[k]'hkl=y at *
   clear hu hkl
   by_cases hxy:x=y
   ·have hxb:(x==y)=true:=beq_iff_eq.2 hxy
    go_wp2
    go_ret
    exact⟨k,rfl,rfl,fun _=>by rw[hxy];exact HMEM.out,fun _=>by omega⟩
   ·have hxb:(x==y)=false:=beq_eq_false_iff_ne.2 hxy
    go_wp2
    go_roundw
    case rel=>exact⟨k+1,by omega,by go_num,trivial,by rw[HTK.out,List.mem_append];rintro (h | h);exact HNO.out h;exact hxy (List.mem_singleton.1 h)⟩
    case measure=>simp [intOf];omega
  ·have hkn:k=n:=by omega
   have hall:x ∉ zs:=by
    have:=HNO.out
    rwa [List.take_of_length_le (by have:=HL.out;omega)]at this
   have HALL:=Lib.hid hall
   clear hkn hall HNO
   go_wp2
   go_ret
   exact⟨-1,rfl,rfl,fun h=>absurd h (by decide),fun h=>absurd h HALL.out⟩
theorem containsI_any (A:Option Addr) (n c:Nat) (zs:List Int) (x:Int) (w:World) (hn:n≤1099511627776) (hl:zs.length=n) (hx:Rd w A n 1 (icells zs)) :
  Calls Tryz.prog 116 #[.slice A n c,.int .i64 x] w (RetP w (.bool (decide (x∈zs)))):=by
 have HI:=Lib.hid (indexI_any A n c zs x w hn hl hx)
 clear hx hl
 go_enter Tryz.func116,Tryz.ntmps116
 go_wp2_with fail
 refine HI.out.mono ?_
 rintro e w1 ⟨z,rfl,rfl,hz⟩
 by_cases h0:0≤z
 ·have h0i:z≥0:=h0
  have hm:=hz.1 h0
  go_wp2
  go_ret
  exact⟨ret_bool (decide_eq_true hm).symm,rfl⟩
 ·have h0i:¬ z≥0:=h0
  have hm:x ∉ zs:=fun h=>h0 (hz.2 h)
  go_wp2
  go_ret
  exact⟨ret_bool (decide_eq_false hm).symm,rfl⟩
end Go.Proofs.YtkempjcphpnocaaGreatDoor
namespace Go.Proofs.YtkempjcphpnocaaGreatDoor
open Go.RowKit
namespace F
def headW:List UInt8:=[72,69,65,68]
def connW:List UInt8:=[67,79,78,78,69,67,84]
def bareR (s:Int) (method:ByteArray):Bool:=decide (L method=headW∨s=204∨s=304∨(100≤s∧s≤199)∨(L method=connW∧200≤s∧s≤299))
def frameR (s m:Int) (fs:List FD) (method:ByteArray):FR:=if bareR s method=true then ⟨0,0,0⟩ else frame m fs 3
end F
end Go.Proofs.YtkempjcphpnocaaGreatDoor
namespace Go.Proofs.YtkempjcphpnocaaGreatDoor
open Go.RowKit
namespace M
structure MP where
 s:Int
 r:ByteArray
 v:Int
 fs:List FD
 d:List UInt8
 f:List FD
 n:Int
 e:Int
def MP.bad (e:Int):MP:=⟨0,⟨#[]⟩,0,[],[],[],0,e⟩
def cutE (b:Bool):Int:=if b then 80 else 0
def wholeR (q:P.RS) (b:BD) (cut:Int):MP:=if b.e≠0 then .bad b.e else if b.n=0 then .bad cut else ⟨q.s,q.r,q.v,q.fs,b.d,b.f,b.n,0⟩
def closed (bs:List UInt8) (q:P.RS) (ended:Bool):MP:=if (65536:Int) < (bs.length:Int) - q.n then .bad 71 else if ended=true then ⟨q.s,q.r,q.v,q.fs,bs.drop q.n.toNat,[],bs.length,0⟩ else .bad 0
def framedR (bs:List UInt8) (q:P.RS) (f:F.FR) (ended:Bool):MP:=if f.e≠0 then .bad f.e else if f.k=3 then closed bs q ended else wholeR q (body bs q.n.toNat f.k f.n) (cutE ended)
def response (bs:List UInt8) (method:ByteArray) (ended:Bool):MP :=
 if (P.response bs).e≠0 then .bad (P.response bs).e else if (P.response bs).n=0 then .bad (cutE ended) else framedR bs (P.response bs) (F.frameR (P.response bs).s (P.response bs).v (P.response bs).fs method) ended
end M
def RetMsp (w:World) (r:M.MP) (e:Ending) (w':World):Prop :=
 ∃ A c D d T k,e=.returned (.tuple #[.agg #[.string ⟨#[]⟩,.string ⟨#[]⟩,.int .i64 0,.slice none 0 0,.int .i64 r.s,.string r.r,.int .i64 r.v,.slice A r.fs.length c,.slice D r.d.length d,.slice T r.f.length k],.int .i64 r.n,.int .i64 r.e]) ∧
  Row w' w.heap.size 167 2 A r.fs.length c (fcells r.fs)∧CRow w' w.heap.size D r.d.length d r.d∧Row w' w.heap.size 167 2 T r.f.length k (fcells r.f)∧Below w.heap.size w w'
theorem RetMsp.bad {w w':World} {r:M.MP} {code:Int} (hb:Below w.heap.size w w') (h:r=.bad code):RetMsp w r (.returned (.tuple #[.agg #[.string ⟨#[]⟩,.string ⟨#[]⟩,.int .i64 0,.slice none 0 0,.int .i64 0,.string ⟨#[]⟩,.int .i64 0,.slice none 0 0,.slice none 0 0,.slice none 0 0],.int .i64 0,.int .i64 code])) w':=by
 subst h
 exact⟨none,0,none,0,none,0,rfl,Row.none_ _ _ _ _,CRow.none_ _ _,Row.none_ _ _ _ _,hb⟩
end Go.Proofs.YtkempjcphpnocaaGreatDoor
