/- The walks of hop.Ask and of the document's. The walk of the document's Ask. The walk of the law HopAsks. The stand-in disk as a plain state: its steps, what is read of it, what a loss of power leaves; and the document's disk over the same. A map from names to files in memory, told by a rising list of names and numbers. Out of the row's list and the shaped world: the two tables of UTF-8, internal/bytealg.MaxLen. The walks of bytes.IndexByte, bytes.HasSuffix and bytes.Cut at a semicolon; of chunk.size. The walk of the decoder's readSize. The walk of the decoder's readData. The walk of the document's Encode (layer 12). The walks of the law ObjectEncodes: alive, CopyEntry, SameEntry. Conditions: as each theorem states them. -/
import Derived.Test.YthjeglnkgdpijaaGreatDoorZ14
import Derived.Sort.KeysCollected
import Derived.Lib.LaidU8
import Derived.Stop.LaidErr
set_option maxHeartbeats 2000000
set_option maxRecDepth 100000
namespace Go.Proofs.YthjeglnkgdpijaaGreatDoor
open Go.RowKit
namespace F
def plain (s:ByteArray):Bool:=decide (L s=[71,69,84])||decide (L s=[72,69,65,68])||decide (L s=[79,80,84,73,79,78,83])||decide (L s=[84,82,65,67,69])
end F
end Go.Proofs.YthjeglnkgdpijaaGreatDoor
namespace Go.Proofs.YthjeglnkgdpijaaGreatDoor
namespace D
abbrev NM:=List (ByteArray × Nat)
def ltB (a b:ByteArray):Bool:=decide (L a < L b)
def okB (c:UInt8):Bool:=(decide (97≤c.toNat)&&decide (c.toNat≤122))||(decide (48≤c.toNat)&&decide (c.toNat≤57))||decide (c=46)||decide (c=45)||decide (c=95)||decide (c=47)
def good (s:ByteArray):Bool:=(L s).all okB&&decide (1≤s.size)&&decide (s.size≤64)
def find (l:NM) (nm:ByteArray):Option Nat:=(l.find? fun p=>decide (p.1=nm)).map (·.2)
def del (l:NM) (nm:ByteArray):NM:=l.filter fun p=>decide (p.1≠nm)
def ins:NM→ByteArray→Nat→NM
 | [],nm,no=>[(nm,no)]
 | p::r,nm,no=>if ltB nm p.1 then (nm,no)::p::r else p::ins r nm no
def put (l:NM) (nm:ByteArray) (no:Nat):NM:=ins (del l nm) nm no
inductive Chg where
 | put (nm:ByteArray) (no:Nat)
 | del (nm:ByteArray)
 | ren (a b:ByteArray) (no:Nat)
def Chg.app (l:NM):Chg→NM
 | .put nm no=>D.put l nm no
 | .del nm=>D.del l nm
 | .ren a b no=>D.put (D.del l a) b no
def Chg.within (n:Nat):Chg→Prop
 | .put _ no=>no < n
 | .del _=>True
 | .ren _ _ no=>no < n
structure Dsk where
 now:NM
 safe:NM
 pend:List Chg
 data:List (List UInt8)
 firm:List Nat
 room:Int
 fails:List Int
 power:Int
 n:Int
def Dsk.down (s:Dsk):Bool:=decide (0≤s.power)&&decide (s.n=s.power)
def Dsk.size (s:Dsk) (no:Nat):Nat:=(s.data.getD no []).length
def Dsk.used (s:Dsk):Nat:=(s.now.map fun p=>s.size p.2).sum
def Dsk.begin (s:Dsk) (names:List ByteArray):Dsk × Int :=
 if s.down then (s,93)
 else ({ s with n:=s.n+1 },if decide (s.n+1∈s.fails) then 94 else if names.all good then 0 else 95)
def Dsk.alter (s:Dsk) (c:Chg):Dsk:={ s with now:=c.app s.now,pend:=s.pend++[c] }
def Dsk.create (s:Dsk) (nm:ByteArray):Dsk × Int :=
 match s.begin [nm] with
 | (s1,e)=>if e≠0 then (s1,e) else if (find s1.now nm).isSome then (s1,91)
  else (({ s1 with data:=s1.data++[[]],firm:=s1.firm++[0] }:Dsk).alter (.put nm s1.data.length),0)
def Dsk.on (s:Dsk) (nm:ByteArray) (more:List ByteArray) (f:Dsk→Nat→Dsk × Int):Dsk × Int :=
 match s.begin (more++[nm]) with
 | (s1,e)=>if e≠0 then (s1,e) else match find s1.now nm with
  | none=>(s1,90)
  | some no=>f s1 no
def Dsk.append (s:Dsk) (nm:ByteArray) (d:List UInt8):Dsk × Int :=
 s.on nm [] fun s no=>if 0 < d.length∧s.room < (s.used:Int)+d.length then (s,92) else ({ s with data:=s.data.set no (s.data.getD no []++d) },0)
def Dsk.sync (s:Dsk) (nm:ByteArray):Dsk × Int:=s.on nm [] fun s no=>({ s with firm:=s.firm.set no (s.size no) },0)
def Dsk.syncNames (s:Dsk):Dsk × Int :=
 match s.begin [] with
 | (s1,e)=>if e≠0 then (s1,e) else ({ s1 with safe:=s1.now,pend:=[] },0)
def Dsk.rename (s:Dsk) (a b:ByteArray):Dsk × Int:=s.on a [b] fun s no=>if a=b then (s,0) else (s.alter (.ren a b no),0)
def Dsk.remove (s:Dsk) (nm:ByteArray):Dsk × Int:=s.on nm [] fun s _=>(s.alter (.del nm),0)
def Dsk.read (s:Dsk) (nm:ByteArray):List UInt8 × Int :=
 if s.down then ([],93) else if good nm=false then ([],95) else match find s.now nm with
 | none=>([],90)
 | some no=>(s.data.getD no [],0)
def Dsk.list (s:Dsk):List ByteArray:=if s.down then [] else s.now.map (·.1)
def Dsk.keepN (s:Dsk) (keep:List Int) (no:Nat):Nat:=s.firm.getD no 0+(if no < keep.length then max 0 (min (keep.getD no 0) ((s.size no:Int) - s.firm.getD no 0)) else 0).toNat
def Dsk.namesLeft (s:Dsk) (k:Int):NM:=(s.pend.take k.toNat).foldl Chg.app s.safe
def Dsk.left (s:Dsk) (k:Int) (keep:List Int):List (ByteArray × List UInt8):=(s.namesLeft k).map fun p=>(p.1,(s.data.getD p.2 []).take (s.keepN keep p.2))
def Up (l:NM):Prop:=l.Pairwise fun p q=>ltB p.1 q.1=true
structure Dsk.Ok (s:Dsk):Prop where
 lens:s.firm.length=s.data.length
 upN:Up s.now
 upS:Up s.safe
 inN:∀ p∈s.now,p.2 < s.data.length
 inS:∀ p∈s.safe,p.2 < s.data.length
 inP:∀ c∈s.pend,c.within s.data.length
 fold:s.now=s.pend.foldl Chg.app s.safe
 firms:∀ no,no < s.data.length→s.firm.getD no 0≤s.size no
theorem lt_irrefl (a:ByteArray):ltB a a=false:=by
 unfold ltB
 exact decide_eq_false (List.lt_irrefl _)
theorem lt_trans {a b c:ByteArray} (h1:ltB a b=true) (h2:ltB b c=true):ltB a c=true:=by
 unfold ltB at *
 exact decide_eq_true (List.lt_trans (of_decide_eq_true h1) (of_decide_eq_true h2))
theorem L_inj {a b:ByteArray} (h:L a=L b):a=b:=by
 obtain⟨a⟩:=a
 obtain⟨b⟩:=b
 have:a=b:=Array.toList_inj.1 h
 rw[this]
theorem lt_or {a b:ByteArray} (h:a≠b):ltB a b=true∨ltB b a=true:=by
 unfold ltB
 by_cases h1:L a < L b
 ·exact .inl (decide_eq_true h1)
 ·by_cases h2:L b < L a
  ·exact .inr (decide_eq_true h2)
  ·have:=List.le_antisymm (show L a≤L b from h2) (show L b≤L a from h1)
   exact absurd (L_inj this) h
theorem aW {l:NM} {nm:ByteArray} {p:ByteArray × Nat}:p∈del l nm↔p∈l∧p.1≠nm:=by
 unfold del
 rw[List.mem_filter]
 simp
theorem qB {l:NM} (h:Up l) (nm:ByteArray):Up (del l nm):=List.Pairwise.sublist List.filter_sublist h
theorem aDZ:∀ {l:NM} {nm:ByteArray} {no:Nat} {p:ByteArray × Nat},p∈ins l nm no↔p=(nm,no)∨p∈l
 | [],nm,no,p=>by simp [ins]
 | q::r,nm,no,p=>by
  unfold ins
  split
  ·simp
  ·rw[List.mem_cons,List.mem_cons,aDZ (l:=r)]
   constructor
   ·rintro (h | h | h)
    ·exact .inr (.inl h)
    ·exact .inl h
    ·exact .inr (.inr h)
   ·rintro (h | h | h)
    ·exact .inr (.inl h)
    ·exact .inl h
    ·exact .inr (.inr h)
theorem aOF:∀ {l:NM} {nm:ByteArray} {no:Nat},Up l→(∀ p∈l,p.1≠nm)→Up (ins l nm no)
 | [],nm,no,_,_=>by unfold ins Up;exact List.pairwise_singleton _ _
 | q::r,nm,no,h,hn=>by
  have hq:=List.pairwise_cons.1 h
  unfold ins
  split
  ·rename_i hlt
   refine List.pairwise_cons.2 ⟨fun p hp=>?_,h⟩
   rcases List.mem_cons.1 hp with rfl | hp
   ·exact hlt
   ·exact lt_trans hlt (hq.1 p hp)
  ·rename_i hlt
   refine List.pairwise_cons.2 ⟨fun p hp=>?_,aOF hq.2 (fun p hp=>hn p (List.mem_cons_of_mem _ hp))⟩
   rcases aDZ.1 hp with rfl | hp
   ·rcases lt_or (hn q (by simp)) with h1 | h1
    ·exact h1
    ·exact absurd h1 hlt
   ·exact hq.1 p hp
theorem qA {l:NM} (h:Up l) (nm:ByteArray) (no:Nat):Up (put l nm no):=aOF (qB h nm) (fun _ hp=>(aW.1 hp).2)
theorem aX {l:NM} {nm:ByteArray} {no:Nat} {p:ByteArray × Nat}:p∈put l nm no↔p=(nm,no)∨(p∈l∧p.1≠nm):=by
 unfold put
 rw[aDZ,aW]
theorem aI {l:NM} {nm:ByteArray} {no:Nat} (h:find l nm=some no):(nm,no)∈l:=by
 unfold find at h
 rw[Option.map_eq_some_iff]at h
 obtain⟨p,hp,rfl⟩:=h
 have h1:=List.mem_of_find?_eq_some hp
 have h2:p.1=nm:=by simpa using List.find?_some hp
 rw[← h2]
 exact h1
theorem kG {l:NM} {nm:ByteArray} (h:find l nm=none):∀ p∈l,p.1≠nm:=by
 unfold find at h
 rw[Option.map_eq_none_iff,List.find?_eq_none]at h
 intro p hp
 simpa using h p hp
theorem aQ5 {l:NM} (h:Up l) (c:Chg):Up (c.app l):=by
 cases c with
 | put nm no=>exact qA h nm no
 | del nm=>exact qB h nm
 | ren a b no=>exact qA (qB h a) b no
def Dsk.look (s:Dsk) (nm:ByteArray) (more:List ByteArray):Dsk × Int × Option Nat :=
 match s.begin (more++[nm]) with
 | (s1,e)=>if e≠0 then (s1,e,none) else match find s1.now nm with
  | none=>(s1,90,none)
  | some no=>(s1,0,some no)
theorem Dsk.on_look (s:Dsk) (nm:ByteArray) (more:List ByteArray) (f:Dsk→Nat→Dsk × Int) :
  s.on nm more f=match s.look nm more with | (s1,_,some no)=>f s1 no | (s1,e,none)=>(s1,e):=by
 unfold Dsk.on Dsk.look
 cases s.begin (more++[nm]) with
 | mk s1 e =>
  dsimp only
  split
  ·rfl
  ·cases find s1.now nm<;>rfl
structure Dsk.Sml (s:Dsk):Prop where
 n0:0≤s.n
 n:s.n≤1099511627776
 fails:s.fails.length≤1099511627776
 now:s.now.length≤1099511627776
 pend:s.pend.length≤1099511627776
 data:s.data.length≤1099511627776
 size:∀ no,s.size no≤1099511627776
theorem Dsk.begin_or (s:Dsk) (ns:List ByteArray):(s.begin ns).1=s∨(s.begin ns).1={ s with n:=s.n+1 }:=by
 unfold Dsk.begin
 split
 ·exact .inl rfl
 ·exact .inr rfl
theorem Dsk.begin_as (s:Dsk) (ns:List ByteArray):∃ n,(s.begin ns).1={ s with n:=n }:=by
 rcases s.begin_or ns with h | h
 ·exact⟨s.n,h⟩
 ·exact⟨_,h⟩
theorem Dsk.look_or (s:Dsk) (nm:ByteArray) (more:List ByteArray):(∃ n e,s.look nm more=({ s with n:=n },e,none)∧e≠0)∨∃ n no,s.look nm more=({ s with n:=n },0,some no)∧find s.now nm=some no:=by
 obtain⟨n,hn⟩:=s.begin_as (more++[nm])
 unfold Dsk.look
 cases hb:s.begin (more++[nm]) with
 | mk s1 e =>
  rw[hb]at hn
  dsimp only at hn ⊢
  subst hn
  by_cases he:e=0
  ·rw[if_neg (by simpa using he)]
   dsimp only
   cases hf:find s.now nm with
   | none=>exact .inl ⟨n,90,rfl,by decide⟩
   | some no=>exact .inr ⟨n,no,rfl,rfl⟩
  ·rw[if_pos he]
   exact .inl ⟨n,e,rfl,he⟩
end D
open Go Go.RowKit Go.Maps
namespace D
theorem aCP:∀ a b:List UInt8,bytesBefore a b=decide (a < b)
 | [],[]=>by simp [bytesBefore]
 | [],_::_=>by simp [bytesBefore]
 | _::_,[]=>by simp [bytesBefore]
 | a::r,b::s=>by
  unfold bytesBefore
  rw[aCP r s,Bool.eq_iff_iff]
  simp only[Bool.or_eq_true,decide_eq_true_eq,Bool.and_eq_true,beq_iff_eq,List.cons_lt_cons_iff]
theorem xQ (a b:ByteArray):bytesBefore (L a) (L b)=ltB a b:=aCP _ _
def jA:Value→Option (DataW Unit × List MemPlace)
 | .pointer (some ⟨b,0,none⟩)=>some (.lit (.int .i64 b),[])
 | .pointer none=>some (.nil,[])
 | _=>none
theorem zG {v:Value} {b:Nat} {ps:List MemPlace} (h:jA v=some (.lit (.int .i64 b),ps)):v=.pointer (some ⟨b,0,none⟩):=by
 unfold jA at h
 split at h
 ·simp only[Option.some.injEq,Prod.mk.injEq,DataW.lit.injEq,Lit.int.injEq,true_and]at h
  have:(_:Nat)=b:=Int.ofNat.inj h.1
  rw[this]
 ·cases h
 ·cases h
theorem aE9 {v:Value} {ps:List MemPlace} (h:jA v=some (.nil,ps)):v=.pointer none:=by
 unfold jA at h
 split at h
 ·cases h
 ·rfl
 ·cases h
def key (nm:ByteArray):Lit:=.string (L nm)
def ent (fa:Nat→Nat) (p:ByteArray × Nat):Lit × DataW Unit:=(key p.1,.lit (.int .i64 (fa p.2)))
def datum (fa:Nat→Nat) (l:NM):DataW Unit:=.map (l.map (ent fa))
theorem eY (a b:ByteArray):(key a).sameKey (key b)=decide (a=b):=by
 unfold key Lit.sameKey
 rw[Bool.eq_iff_iff]
 simp only[beq_iff_eq,decide_eq_true_eq]
 exact⟨L_inj,fun h=>by rw[h]⟩
theorem kH (fa:Nat→Nat) (l:NM) (nm:ByteArray):(datum fa l).del (key nm)=datum fa (del l nm):=by
 unfold datum DataW.del D.del
 dsimp only
 congr 1
 rw[List.filter_map]
 congr 1
 apply List.filter_congr
 intro p _
 show (!((ent fa p).1.sameKey (key nm)))=_
 unfold ent
 dsimp only
 rw[eY]
 simp
theorem insert_map (fa:Nat→Nat) (nm:ByteArray) (no:Nat):∀ l:NM,DataW.insert (ent fa (nm,no)) (l.map (ent fa))=(ins l nm no).map (ent fa)
 | []=>rfl
 | p::r=>by
  have e:(ent fa (nm,no)).1.before (ent fa p).1=ltB nm p.1:=xQ _ _
  rw[List.map_cons]
  unfold DataW.insert ins
  rw[e]
  split
  ·rfl
  ·rw[List.map_cons,insert_map fa nm no r]
theorem nN (fa:Nat→Nat) (l:NM) (nm:ByteArray) (no:Nat):(datum fa l).put (key nm) (.lit (.int .i64 (fa no)))=datum fa (put l nm no):=by
 have h:=kH fa l nm
 unfold datum DataW.del at h
 dsimp only at h
 have h2:(l.map (ent fa)).filter (fun p=>!p.1.sameKey (key nm))=(del l nm).map (ent fa):=by injection h
 unfold datum DataW.put
 dsimp only
 rw[h2]
 exact congrArg DataW.map (insert_map fa nm no (del l nm))
theorem lC (fa:Nat→Nat) (l:NM) (nm:ByteArray) (z:DataW Unit):(datum fa l).atKey (key nm) z=match find l nm with | some no=>.lit (.int .i64 (fa no)) | none=>z:=by
 unfold datum DataW.atKey find
 dsimp only
 induction l with
 | nil=>rfl
 | cons p r ih =>
  rw[List.map_cons,List.find?_cons,List.find?_cons]
  have e:(ent fa p).1.sameKey (key nm)=decide (p.1=nm):=eY _ _
  rw[e]
  cases h:decide (p.1=nm) with
  | true=>rfl
  | false=>exact ih
theorem xR (fa:Nat→Nat) (l:NM):Go.strKeys (datum fa l)=l.map fun p=>L p.1:=by
 unfold datum Go.strKeys
 dsimp only
 rw[List.map_map]
 rfl
theorem uM {fa:Nat→Nat} {l:NM} (h:Up l) {ss:List (List UInt8)} (hp:ss.Perm (Go.strKeys (datum fa l))):ss.mergeSort (fun x y=>decide (x≤y))=l.map fun p=>L p.1:=by
 rw[xR]at hp
 have h1:ss.mergeSort (fun x y=>decide (x≤y))=(l.map fun p=>L p.1).mergeSort (fun x y=>decide (x≤y)):=Go.mergeSort_of_perm hp
 rw[h1]
 apply List.mergeSort_of_pairwise
 rw[List.pairwise_map]
 refine h.imp fun {a b} hab=>?_
 exact decide_eq_true (List.le_of_lt (of_decide_eq_true hab))
end D
end Go.Proofs.YthjeglnkgdpijaaGreatDoor
namespace Go.Proofs.YthjeglnkgdpijaaGreatDoor
open Go.Lib
theorem aM8:Rows.laid_unicode_utf8_first=firstData:=by kernel_rfl
theorem aK7:(Rows.laid_unicode_utf8_acceptRanges:DataW Unit)=acceptData:=by kernel_rfl
theorem aLT:U8Extra Tryz.prog Tryz.lays260_ren :=
 ⟨by kernel_rfl,by kernel_rfl,by kernel_rfl,by kernel_rfl,by kernel_rfl,by kernel_rfl,by kernel_rfl⟩
theorem u8_of {W:World} {laid:List (String × DataW Unit)} (h:laidMetH Tryz.prog laid W)
  (hm:laid.filter (fun x=>x.1== "unicode/utf8.acceptRanges"||x.1== "unicode/utf8.first")=[("unicode/utf8.acceptRanges",Rows.laid_unicode_utf8_acceptRanges),("unicode/utf8.first",Rows.laid_unicode_utf8_first)]) :
  Lib.Utf8Tabs 1 2 W:=by
 have h1:=h.filter (fun x=>x.1== "unicode/utf8.acceptRanges"||x.1== "unicode/utf8.first")
 rw[hm]at h1
 have h2:laidMet Tryz.prog [("unicode/utf8.acceptRanges",Rows.laid_unicode_utf8_acceptRanges),("unicode/utf8.first",Rows.laid_unicode_utf8_first)] W:=h1
 exact utf8Tabs_of_reads Tryz.lays260 aLT (aM8 ▸ laidMet.reads h2 (by simp)) (aK7 ▸ laidMet.reads h2 (by simp))
theorem aRL {W:World} {laid:List (String × DataW Unit)} (h:laidMetH Tryz.prog laid W) (hs:W.ShapedOpen Tryz.prog)
  (hm:laid.filter (fun x=>x.1== "unicode/utf8.acceptRanges"||x.1== "unicode/utf8.first")=[("unicode/utf8.acceptRanges",Rows.laid_unicode_utf8_acceptRanges),("unicode/utf8.first",Rows.laid_unicode_utf8_first)]):lH W :=
 ⟨u8_of h hm,Tryz.laysM145.s1_3 W hs⟩
end Go.Proofs.YthjeglnkgdpijaaGreatDoor
namespace Go.Proofs.YthjeglnkgdpijaaGreatDoor
open Go.RowKit
def aAQ (w:World):Prop:=(∃ t p,w.cell? ⟨5,0,none⟩=some (.iface t p))∧∃ t p,w.cell? ⟨6,0,none⟩=some (.iface t p)
theorem aAQ.below {w w':World} (h:aAQ w) (hb:Below w.heap.size w w'):aAQ w':=by
 obtain⟨⟨t,p,h1⟩,t2,p2,h2⟩:=h
 exact⟨⟨t,p,(hb.cell (p:=⟨5,0,none⟩) (cell_lt h1)).trans h1⟩,t2,p2,(hb.cell (p:=⟨6,0,none⟩) (cell_lt h2)).trans h2⟩
theorem aIU: "*"++ "errors.errorString"= "*errors.errorString":=by decide
theorem aOG (u:TypeId) (h:Tryz.prog.typeName? 3 u=some "*errors.errorString"):u=304 :=
 typeName_ptr_named (nm:= "errors.errorString") (by rw[aIU];kernel_rfl) (by kernel_rfl) (by decide) u (by rw[aIU];exact h)
theorem gS:Tryz.prog.globalNamed "strconv.ErrSyntax"=some 5:=by kernel_rfl
theorem gST:(Tryz.prog.globals[5]?).map (·.type)=some 142:=by kernel_rfl
theorem gR:Tryz.prog.globalNamed "strconv.ErrRange"=some 6:=by kernel_rfl
theorem gRT:(Tryz.prog.globals[6]?).map (·.type)=some 142:=by kernel_rfl
theorem aFZ:Tryz.prog.cellsOf 306=1:=by kernel_rfl
theorem aFY:Tryz.prog.cellsOf 9=1:=by kernel_rfl
theorem aRU {W:World} {laid:List (String × DataW Unit)} (h:laidMetH Tryz.prog laid W)
  (hm1:laid.filter (fun x=>x.1== "strconv.ErrSyntax")=[("strconv.ErrSyntax",Rows.laid_strconv_ErrSyntax)]) (hm2:laid.filter (fun x=>x.1== "strconv.ErrRange")=[("strconv.ErrRange",Rows.laid_strconv_ErrRange)]):aAQ W:=by
 have h1:=h.filter (fun x=>x.1== "strconv.ErrSyntax")
 have h2:=h.filter (fun x=>x.1== "strconv.ErrRange")
 rw[hm1]at h1
 rw[hm2]at h2
 obtain⟨a0,s0,hv0,_⟩:=laid_sentinel (r:=[]) h1 gS gST Tryz.underlying142 aOG Tryz.underlying304 Tryz.underlying306 rfl rfl Tryz.underlying9 aFZ aFY
 obtain⟨a1,s1,hv1,_⟩:=laid_sentinel (r:=[]) h2 gR gRT Tryz.underlying142 aOG Tryz.underlying304 Tryz.underlying306 rfl rfl Tryz.underlying9 aFZ aFY
 exact⟨⟨_,_,by have h0:=World.var?_cell gS hv0 0;simpa using h0⟩,_,_,by have h0:=World.var?_cell gR hv1 0;simpa using h0⟩
def RetA (w:World) (l:List UInt8) (e:Ending) (w':World):Prop :=
 ∃ v b,e=.returned (.tuple #[.int .i64 v,b])∧((b=.nilIface∧Lib.atoiAll l=.ok v)∨((∃ t p,b=.iface t (.pointer p))∧∀ u,Lib.atoiAll l≠.ok u))∧Below w.heap.size w w'
theorem aNW (s:ByteArray) (w:World) (hs:s.size≤2147483648) (h:aAQ w):Calls Tryz.prog 194 #[.string s] w (RetA w (L s)):=by
 obtain⟨⟨t1,p1,h1⟩,t2,p2,h2⟩:=h
 cases ha:Lib.atoiAll s.data.toList
 case ok v =>
  refine (Tryz.strconv_Atoi_ok s (by omega) v ha w).mono ?_
  rintro e w' ⟨rfl,hw⟩
  refine⟨v,_,rfl,.inl ⟨rfl,ha⟩,?_⟩
  rcases hw with rfl | ⟨t,rfl⟩
  ·exact zB _ _
  ·exact Lib.bytesWorld_below _ _ _
 case range =>
  refine (Tryz.strconv_Atoi_range s (by omega) ha _ w h2 (.inr ⟨_,_,rfl⟩)).mono ?_
  rintro e w' ⟨N,rfl,_,_,hb⟩
  exact⟨_,_,rfl,.inr ⟨⟨_,_,rfl⟩,fun u hu=>by rw[show L s=s.data.toList from rfl,ha]at hu;cases hu⟩,hb⟩
 ·refine (Any.strconv_Atoi_syntax Tryz.laysC172 s (by omega) ha _ w h1 (.inr ⟨_,_,rfl⟩)).mono ?_
  rintro e w' ⟨N,rfl,_,_,hb⟩
  exact⟨_,_,rfl,.inr ⟨⟨_,_,rfl⟩,fun u hu=>by rw[show L s=s.data.toList from rfl,ha]at hu;cases hu⟩,hb⟩
def aNG:List UInt8:=[48,49,50,51,52,53,54,55,56,57]
theorem aNH (c:UInt8):P.dig c=aNG.contains c:=by
 have:∀ n:Fin 256,P.dig (UInt8.ofNat n.1)=aNG.contains (UInt8.ofNat n.1):=by decide +kernel
 have h:=this ⟨c.toNat,c.toNat_lt⟩
 simpa using h
theorem drop_nil {p:UInt8→Bool}:∀ {l:List UInt8},l.dropWhile p=[]↔∀ x∈l,p x=true
 | []=>by simp
 | x::l=>by
  cases hx:p x
  ·simp [hx]
  ·simp [hx,drop_nil (l:=l)]
theorem aAU (l:List UInt8):Lib.trimS l aNG=[]↔l.all P.dig=true:=by
 have e:P.dig=fun c=>aNG.contains c:=funext aNH
 unfold Lib.trimS Lib.trimLeftS Lib.trimRightS
 rw[← e,List.all_eq_true]
 constructor
 ·intro h
  rw[drop_nil]at h
  have h2:l.reverse.dropWhile P.dig=[]:=by
   cases h3:l.reverse.dropWhile P.dig with
   | nil=>rfl
   | cons x r =>
    have h4:=List.head_dropWhile_not P.dig (l:=l.reverse) (by rw[h3];simp)
    simp only[h3,List.head_cons]at h4
    have h5:=h x (by rw[h3];simp)
    rw[h4]at h5
    cases h5
  rw[drop_nil]at h2
  exact fun x hx=>h2 x (by simpa using hx)
 ·intro h
  have h2:l.reverse.dropWhile P.dig=[]:=by
   rw[drop_nil]
   exact fun x hx=>h x (by simpa using hx)
  rw[h2]
  rfl
theorem aQA (s:ByteArray) (w:World) (hs:s.size≤1099511627776):Calls Tryz.prog 88 #[.string s,.string ⟨#[48,49,50,51,52,53,54,55,56,57]⟩] w (aEM w (B (Lib.trimS (L s) aNG))):=by
 refine (Any.strings_Trim_laid Tryz.lays160 (by kernel_rfl) s ⟨#[48,49,50,51,52,53,54,55,56,57]⟩ w (by omega) (by decide) (ascii_of_all (by decide))).mono ?_
 rintro e w' ⟨rfl,hb⟩
 exact⟨rfl,hb⟩
theorem aAX:∀ a b c:Fin 10,(match Lib.atoiAll [UInt8.ofNat (48+a.1),UInt8.ofNat (48+b.1),UInt8.ofNat (48+c.1)] with | .ok v=>decide (v=P.stat [UInt8.ofNat (48+a.1),UInt8.ofNat (48+b.1),UInt8.ofNat (48+c.1)]) | _=>false)=true:=by decide +kernel
theorem aKH {c:UInt8} (h:P.dig c=true):∃ a:Fin 10,c=UInt8.ofNat (48+a.1):=by
 unfold P.dig at h
 rw[Bool.and_eq_true,decide_eq_true_eq,decide_eq_true_eq]at h
 refine⟨⟨c.toNat - 48,by omega⟩,?_⟩
 apply UInt8.toNat_inj.1
 rw[UInt8.toNat_ofNat']
 have:=c.toNat_lt
 show c.toNat=(48+(c.toNat - 48)) % 256
 omega
theorem aCQ {l:List UInt8} (h:P.lY l=true):Lib.atoiAll l=.ok (P.stat l):=by
 unfold P.lY at h
 rw[Bool.and_eq_true,decide_eq_true_eq,List.all_eq_true]at h
 match l,h with
 | [x,y,z],⟨_,h⟩ =>
  obtain⟨a,rfl⟩:=aKH (h x (by simp))
  obtain⟨b,rfl⟩:=aKH (h y (by simp))
  obtain⟨c,rfl⟩:=aKH (h z (by simp))
  have:=aAX a b c
  split at this
  ·rename_i v hv
   rw[hv,of_decide_eq_true this]
  ·cases this
namespace C
theorem val_snoc (l:List UInt8) (c:UInt8):val (l++[c])=val l * 16+hex c:=by
 unfold val
 rw[List.foldl_append]
 rfl
def lw (c:UInt8):Int:=bits .or .u8 c.toNat 32
def kindOf (c:UInt8):Bool :=
 if 48≤c.toNat∧c.toNat≤57 then decide (hex c=(c.toNat:Int) - 48) else
 if 97≤lw c∧lw c≤102 then decide (hex c=lw c - 87)&&c != 95 else
 decide (hex c=-1)&&decide (0≤lw c)&&decide (lw c < 256)&&(c != 95||decide (lw c=127))
theorem aM0:∀ n:Fin 256,kindOf (UInt8.ofNat n.1)=true:=by decide +kernel
theorem kind (c:UInt8):(48≤c.toNat∧c.toNat≤57∧hex c=(c.toNat:Int) - 48)∨(¬ (48≤c.toNat∧c.toNat≤57)∧c.toNat≠95∧97≤lw c∧lw c≤102∧hex c=lw c - 87)∨(¬ (48≤c.toNat∧c.toNat≤57)∧hex c=-1∧0≤lw c∧lw c < 256∧(lw c < 97∨103≤lw c)∧(c.toNat=95→lw c=127)):=by
 have h:=aM0 ⟨c.toNat,c.toNat_lt⟩
 simp only[UInt8.ofNat_toNat]at h
 unfold kindOf at h
 split at h
 ·rename_i h1
  exact .inl ⟨h1.1,h1.2,of_decide_eq_true h⟩
 ·rename_i h1
  split at h
  ·rename_i h2
   rw[Bool.and_eq_true,decide_eq_true_eq]at h
   refine .inr (.inl ⟨h1,fun h3=>?_,h2.1,h2.2,h.1⟩)
   have h4:c=95:=UInt8.toNat_inj.1 h3
   rw[h4]at h
   exact absurd h.2 (by decide)
  ·rename_i h2
   simp only[Bool.and_eq_true,decide_eq_true_eq,Bool.or_eq_true]at h
   refine .inr (.inr ⟨h1,h.1.1.1,h.1.1.2,h.1.2,by omega,fun h3=>?_⟩)
   have h4:c=95:=UInt8.toNat_inj.1 h3
   rcases h.2 with h5 | h5
   ·rw[h4]at h5
    exact absurd h5 (by decide)
   ·exact h5
end C
def aN5 (A:Option Addr) (c k:Nat):Option Addr:=if c=k then A else A.map fun x=>x.add k
theorem Rd.fromA {w:World} {A:Option Addr} {n c k:Nat} {l:List UInt8} (h:Rd w A n 1 (aB l)) (hnc:n≤c) (hk:k≤n):Rd w (aN5 A c k) (n - k) 1 (aB (l.drop k)):=by
 have hl:=eF h
 by_cases hkn:k=n
 ·exact⟨by simp [aB,hl],fun h0=>by omega⟩
 ·obtain⟨b,o,rfl,_,_⟩:=h.2 (by omega)
  have e:aN5 (some ⟨b,o,none⟩) c k=some ⟨b,o+k,none⟩:=by
   unfold aN5
   rw[if_neg (by omega)]
   show some ((⟨b,o,none⟩:Addr).add k)=_
   unfold Addr.add
   split<;>simp_all
  rw[e]
  exact h.from_ hk
theorem sG {A:Option Addr} {c:Nat}:aN5 A c c=A:=if_pos rfl
theorem aEL {b o c k:Nat} (h:k≠c):aN5 (some ⟨b,o,none⟩) c k=some ⟨b,o+k,none⟩:=by
 unfold aN5
 rw[if_neg (by omega)]
 show some ((⟨b,o,none⟩:Addr).add k)=_
 unfold Addr.add
 split<;>simp_all
theorem Sep.apart {g c:Nat} {E:Option Addr} {m:Nat} (h:0 < m→∀ e,E=some e→e.block≠g):Sep (some ⟨g,0,none⟩) c E m:=fun hm kk e hk1 he=>by
 have:=h hm e he
 unfold ownB at hk1
 split at hk1
 ·cases hk1
 ·simp at hk1
  omega
theorem aRC (A B:Option Addr) (n c d:Nat) (xs:List UInt8) (w:World) (hn:n≤1099511627776) (hl:xs.length=n) (hx:Rd w A n 1 (aB xs)) (hy:Rd w B n 1 (aB xs)) :
  Calls Tryz.prog 42 #[.slice A n c,.slice B n d] w (qP w true):=by
 have:=yZ A B n n c d xs xs w hn hn hx hy hl hl
 simpa using this
theorem aRB (m s:Int) (r:ByteArray) (A B:Option Addr) (c d:Nat) (xs:List FD) (w:World) (hn:xs.length≤1099511627776) (hx:Rd w A xs.length 2 (aJ xs)) (hy:Rd w B xs.length 2 (aJ xs)) :
  Calls Tryz.prog 41 #[.agg #[.int .i64 s,.string r,.int .i64 m,.slice A xs.length c],.agg #[.int .i64 s,.string r,.int .i64 m,.slice B xs.length d]] w (qP w true):=by
 have:=qX s m s m r r A B xs.length xs.length c d xs xs w hn hn hx hy rfl rfl
 simpa using this
theorem yY (k v:ByteArray) (s:Int) (r:ByteArray) (m:Int) (A:Option Addr) (cf:Nat) (fs:List FD) (X:Option Addr) (cb:Nat) (body:List UInt8) (asked got:Int) (A1:Option Addr) (c1:Nat) (X1:Option Addr) (d1:Nat) (w:World) (hn:fs.length≤1099511627776) (hbn:body.length≤1099511627776)
  (hx:Rd w A fs.length 2 (aJ fs)) (hy:Rd w A1 fs.length 2 (aJ fs)) (hX:Rd w X body.length 1 (aB body)) (hY:Rd w X1 body.length 1 (aB body)) :
  Calls Tryz.prog 16 #[.agg #[.string k,.string v,.int .i64 s,.string r,.int .i64 m,.slice A fs.length cf,.slice X body.length cb,.int .i64 asked,.int .i64 got],.agg #[.string k,.string v,.int .i64 s,.string r,.int .i64 m,.slice A1 fs.length c1,.slice X1 body.length d1,.int .i64 asked,.int .i64 got]] w (qP w true):=by
 have HSR:=aH (fun (u:World) (hu:Below w.heap.size w u)=>aRB m s r A A1 cf c1 fs u hn (hx.below hu) (hy.below hu))
 have HSB:=aH (fun (u:World) (hu:Below w.heap.size w u)=>aRC X X1 body.length cb d1 body u hbn rfl (hX.below hu) (hY.below hu))
 have HK:=aH ((Blk.new w #[.string k,.string v,.int .i64 s,.string r,.int .i64 m,.slice A fs.length cf,.slice X body.length cb,.int .i64 asked,.int .i64 got] 41).alloc (.cells #[.string k,.string v,.int .i64 s,.string r,.int .i64 m,.slice A1 fs.length c1,.slice X1 body.length d1,.int .i64 asked,.int .i64 got] 41))
 have HL:=aH (Blk.new (w.alloc (.cells #[.string k,.string v,.int .i64 s,.string r,.int .i64 m,.slice A fs.length cf,.slice X body.length cb,.int .i64 asked,.int .i64 got] 41)) #[.string k,.string v,.int .i64 s,.string r,.int .i64 m,.slice A1 fs.length c1,.slice X1 body.length d1,.int .i64 asked,.int .i64 got] 41)
 have HB:=aH (((zB w.heap.size w).alloc (zA _) (.cells #[.string k,.string v,.int .i64 s,.string r,.int .i64 m,.slice A fs.length cf,.slice X body.length cb,.int .i64 asked,.int .i64 got] 41)).alloc (by rw[bJ];omega) (.cells #[.string k,.string v,.int .i64 s,.string r,.int .i64 m,.slice A1 fs.length c1,.slice X1 body.length d1,.int .i64 asked,.int .i64 got] 41))
 rw[bJ]at HL
 clear hx hy hX hY
 go_enter Tryz.func16,Tryz.ntmps16
 obtain⟨x0,x1,x2,x3,x4,x5,x6,x7,x8⟩:=HK.out.cells9
 obtain⟨y0,y1,y2,y3,y4,y5,y6,y7,y8⟩:=HL.out.cells9
 go_wp2_with fail
 clear x0 x1 x2 x3 x4 x5 x6 x7 x8 y0 y1 y2 y3 y4 y5 y6 y7 y8
 refine (HSR.out _ HB.out).mono ?_
 rintro e w1 ⟨rfl,hb1⟩
 have HK1:=aH (HK.out.below hb1)
 have HL1:=aH (HL.out.below hb1)
 have HB1:=aH (aA HB.out.size HB.out hb1)
 clear HK HL HB HSR hb1
 obtain⟨x0,x1,x2,x3,x4,x5,x6,x7,x8⟩:=HK1.out.cells9
 obtain⟨y0,y1,y2,y3,y4,y5,y6,y7,y8⟩:=HL1.out.cells9
 go_wp2_with fail
 clear x0 x1 x2 x3 x4 x5 x6 x7 x8 y0 y1 y2 y3 y4 y5 y6 y7 y8
 refine (HSB.out _ HB1.out).mono ?_
 rintro e w2 ⟨rfl,hb2⟩
 have HK2:=aH (HK1.out.below hb2)
 have HL2:=aH (HL1.out.below hb2)
 have HB2:=aH (aA HB1.out.size HB1.out hb2)
 clear HK1 HL1 HB1 HSB hb2
 obtain⟨x0,x1,x2,x3,x4,x5,x6,x7,x8⟩:=HK2.out.cells9
 obtain⟨y0,y1,y2,y3,y4,y5,y6,y7,y8⟩:=HL2.out.cells9
 go_wp2
 go_ret
 exact⟨rfl,HB2.out⟩
theorem bZ.apartB {w:World} {base:Nat} {A:Option Addr} {n c:Nat} {bs:List UInt8} (h:bZ w base A n c bs) {b:Nat} (hb:b < base):0 < n→∀ a,A=some a→a.block≠b:=fun hn a ha=>by
 rcases h.2.2 with h0 | ⟨g,hg,hB,_⟩
 ·have:=h.2.1;omega
 ·rw[hg]at ha
  cases ha
  show g≠b
  omega
theorem Row.apartB {w:World} {base:Nat} {e:TypeId} {size:Nat} {A:Option Addr} {n c:Nat} {xs:List Value} (h:Row w base e size A n c xs) {b:Nat} (hb:b < base):0 < n→∀ a,A=some a→a.block≠b:=fun hn a ha=>by
 have hc:=h.cap.1
 have:=h.lt a.block (by unfold ownB;rw[if_neg (by omega),ha];rfl)
 omega
end Go.Proofs.YthjeglnkgdpijaaGreatDoor
