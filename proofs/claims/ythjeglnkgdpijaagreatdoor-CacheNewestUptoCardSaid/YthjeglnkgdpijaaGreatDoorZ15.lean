/- What an append to a file leaves of the disk's form in memory. No condition: plain lemmas. The log's records, the log on the disk, and the store over both, as plain states. No program here. A disk where nothing fails, told by what its files hold. No program here. -/
import Derived.Test.YthjeglnkgdpijaaGreatDoorObjA
namespace Go.Proofs.YthjeglnkgdpijaaGreatDoor
open Go Go.RowKit Go.Maps
def DM.grew (M:DM) (no:Nat) (A:Option Addr) (c:Nat):DM:={ M with da:=fun i=>if i=no then A else M.da i,dc:=fun i=>if i=no then c else M.dc i }
def D.Dsk.wrote (s:D.Dsk) (no:Nat) (d:List UInt8):D.Dsk:={ s with data:=s.data.set no (s.data.getD no []++d) }
theorem D.Dsk.wrote_size (s:D.Dsk) {no:Nat} (hn:no < s.data.length) (d:List UInt8):(s.wrote no d).size no=s.size no+d.length:=by
 unfold D.Dsk.wrote D.Dsk.size
 simp [List.getD,hn]
theorem D.Dsk.wrote_same (s:D.Dsk) (no:Nat) (d:List UInt8) {i:Nat} (hi:i≠no):(s.wrote no d).data.getD i []=s.data.getD i []:=by
 unfold D.Dsk.wrote
 simp [List.getD,List.getElem?_set_ne (fun h=>hi h.symm)]
section
variable {B:Nat} {M:DM} {s:D.Dsk} {w w1 w':World} {A A':Option Addr} {c' n:Nat} {d:List UInt8} {no:Nat}
theorem Stepped.rd {M':DM} {s':D.Dsk} {size:Nat} {xs:List Value} (h:Stepped M s w M' s' w') (hx:Rd w A n size xs) (hA:0 < n→∀ a,A=some a→¬ M.foot s a.block):Rd w' A n size xs :=
 ⟨hx.1,fun hn=>by
  obtain⟨b,o,rfl,hlt,hc⟩:=hx.2 hn
  have hbl:w'.heap[b]?=w.heap[b]?:=h.block b hlt (hA hn _ rfl)
  exact⟨b,o,rfl,Nat.lt_of_lt_of_le hlt h.size,fun j u hu=>(World.cell?_of_block (w:=w) (a:=⟨b,o+j,none⟩) hbl).trans (hc j u hu)⟩⟩
theorem DkAt.wrote (h:DkAt B M s w) (hn:no < s.data.length) (ha:App w w1 (M.da no) (M.dc no) A' c') (hrow:Row w1 B 5 1 A' (s.size no+d.length) c' (bcells (s.data.getD no []++d))) :
  DkAt B (M.grew no A' c') (s.wrote no d) (w1.setCell ⟨M.fa no,1,none⟩ (.slice A' (s.size no+d.length) c')):=by
 obtain⟨g1,g2,g3⟩:=h.files no hn
 have hg:=ha.grown
 have hT:∀ k,ownB (M.da no) (M.dc no)=some k→Tag w k 5:=fun k hk=>g2.tag hk
 have hb:∀ {k t},Tag w k t→t≠5→ownB (M.da no) (M.dc no)≠some k:=fun ht hn e=>ht.ne (hT _ e) hn rfl
 have hF1:=g1.keptG hg (hb g1.tag (by decide))
 have hg2:=grown_set w1 (M.fa no) 1 (.slice A' (s.size no+d.length) c')
 have hT2:=hF1.tag
 have hb2:∀ {k t},Tag w1 k t→t≠100→some (M.fa no)≠some k:=fun ht hn e=>ht.ne hT2 hn (by simpa using e.symm)
 have hmap:∀ {K:TypeId} {R:Value→Option (DataW Unit × List MemPlace)} {b n:Nat} {D:DataW Unit},w.ownsMap Tryz.prog K R b n D→(w1.setCell ⟨M.fa no,1,none⟩ (.slice A' (s.size no+d.length) c')).ownsMap Tryz.prog K R b n D:=fun hm=>by
  have h1:=hm.kept hg (fun e=>(hT _ e.symm).map (ownsMap_tag hm) rfl)
  exact h1.kept hg2 (fun e=>hT2.map (ownsMap_tag h1) (by simpa using e.symm))
 have hblk:∀ {k:Nat} {cs:Array Value} {t:TypeId},Blk w k cs t→t≠5→t≠100→Blk (w1.setCell ⟨M.fa no,1,none⟩ (.slice A' (s.size no+d.length) c')) k cs t:=fun hk h1 h2=>by
  have q:=hk.keptG hg (hb hk.tag h1)
  exact q.keptG hg2 (hb2 q.tag h2)
 have hrw:∀ {e:TypeId} {A:Option Addr} {n c:Nat} {xs:List Value},Row w B e 1 A n c xs→e≠5→e≠100→Row (w1.setCell ⟨M.fa no,1,none⟩ (.slice A' (s.size no+d.length) c')) B e 1 A n c xs:=fun hk h1 h2=>by
  have q:=hk.keptG hg (fun k hk2=>hb (hk.tag hk2) h1)
  exact q.keptG hg2 (fun k hk2=>hb2 (q.tag hk2) h2)
 have hlen:(s.wrote no d).data.length=s.data.length:=by unfold D.Dsk.wrote;simp
 refine⟨?_,hmap h.now,hmap h.safe,h.ne,hrw h.pend (by decide) (by decide),h.chg.imp (fun c v hc=>(hc.keptT hg hT (by decide)).keptT hg2 (fun k e=>by cases e;exact hT2) (by decide)),hrw h.fails (by decide) (by decide),fun i hi=>?_,fun i j hi hj hij=>?_,h.ge⟩
 ·show Blk _ _ #[_,_,_,.int .i64 ((s.wrote no d).data.length:Nat),_,_,_,_] _
  rw[hlen]
  exact hblk h.blk (by decide) (by decide)
 ·rw[hlen]at hi
  obtain⟨f1,f2,f3⟩:=h.files i hi
  by_cases e:i=no
  ·subst e
   have q1:(M.grew i A' c').da i=A':=if_pos rfl
   have q2:(M.grew i A' c').dc i=c':=if_pos rfl
   have q3:(s.wrote i d).data.getD i []=s.data.getD i []++d:=by unfold D.Dsk.wrote;simp [List.getD,hn]
   refine⟨?_,?_,f3⟩
   ·rw[q1,q2,s.wrote_size hn d]
    exact hF1.set 1 _
   ·rw[q1,q2,q3,s.wrote_size hn d]
    exact hrow.keptG hg2 (fun k hk=>hb2 (hrow.tag hk) (by decide))
  ·have q1:(M.grew no A' c').da i=M.da i:=if_neg e
   have q2:(M.grew no A' c').dc i=M.dc i:=if_neg e
   have q3:=s.wrote_same no d e
   have q4:(s.wrote no d).size i=s.size i:=by unfold D.Dsk.size;rw[q3]
   refine⟨?_,?_,f3⟩
   ·rw[q1,q2,q4]
    have x:=f1.keptG hg (hb f1.tag (by decide))
    exact x.keptG hg2 (fun e3=>(h.apart no i hn hi (fun h=>e h.symm)).1 (by simpa using e3))
   ·rw[q1,q2,q3,q4]
    have x:=f2.keptG hg (fun k hk e3=>(h.apart no i hn hi (fun h=>e h.symm)).2 k e3 hk)
    exact x.keptG hg2 (fun k hk=>hb2 (x.tag hk) (by decide))
 ·rw[hlen]at hi hj
  refine⟨(h.apart i j hi hj hij).1,?_⟩
  have hnew:∀ i,i < s.data.length→i≠no→∀ k,ownB A' c'=some k→ownB (M.da i) (M.dc i)≠some k:=fun i hi e k hk hk2=>by
   rcases ha.moved with ⟨rfl,rfl⟩ | ⟨g,rfl,hg⟩
   ·exact (h.apart no i hn hi (fun h=>e h.symm)).2 k hk hk2
   ·have:=((h.files i hi).row.lt k hk2).2
    unfold ownB at hk
    split at hk
    ·cases hk
    ·obtain rfl:g=k:=by simpa using hk
     omega
  by_cases e1:i=no
  ·subst e1
   have e2:j≠i:=fun h=>hij h.symm
   show ∀ k,ownB (if i=i then A' else M.da i) (if i=i then c' else M.dc i)=some k→ownB (if j=i then A' else M.da j) (if j=i then c' else M.dc j)≠some k
   rw[if_pos rfl,if_pos rfl,if_neg e2,if_neg e2]
   exact hnew j hj e2
  ·by_cases e2:j=no
   ·subst e2
    show ∀ k,ownB (if i=j then A' else M.da i) (if i=j then c' else M.dc i)=some k→ownB (if j=j then A' else M.da j) (if j=j then c' else M.dc j)≠some k
    rw[if_neg e1,if_neg e1,if_pos rfl,if_pos rfl]
    exact fun k hk hk2=>hnew i hi e1 k hk2 hk
   ·show ∀ k,ownB (if i=no then A' else M.da i) (if i=no then c' else M.dc i)=some k→ownB (if j=no then A' else M.da j) (if j=no then c' else M.dc j)≠some k
    rw[if_neg e1,if_neg e1,if_neg e2,if_neg e2]
    exact (h.apart i j hi hj hij).2
theorem Stepped.wrote (hn:no < s.data.length) (ha:App w w1 (M.da no) (M.dc no) A' c'):Stepped M s w (M.grew no A' c') (s.wrote no d) (w1.setCell ⟨M.fa no,1,none⟩ (.slice A' (s.size no+d.length) c')):=by
 have hlen:(s.wrote no d).data.length=s.data.length:=by unfold D.Dsk.wrote;simp
 have h1:Stepped M s w (M.grew no A' c') (s.wrote no d) w1:=by
  refine Stepped.grown ha.grown (fun k hk=>.inr (.inr (.inr (.inr ⟨no,hn,.inr hk⟩)))) (fun k hf=>?_) rfl
  rcases hf with hf | hf | hf | hf | ⟨i,hi,hf⟩
  ·exact .inl (.inl hf)
  ·exact .inl (.inr (.inl hf))
  ·exact .inl (.inr (.inr (.inl hf)))
  ·exact .inl (.inr (.inr (.inr (.inl hf))))
  ·rw[hlen]at hi
   rcases hf with hf | hf
   ·exact .inl (.inr (.inr (.inr (.inr ⟨i,hi,.inl hf⟩))))
   ·by_cases e:i=no
    ·subst e
     change ownB (if i=i then A' else M.da i) (if i=i then c' else M.dc i)=some k at hf
     rw[if_pos rfl,if_pos rfl]at hf
     rcases ha.moved with ⟨rfl,rfl⟩ | ⟨g,rfl,hg⟩
     ·exact .inl (.inr (.inr (.inr (.inr ⟨i,hi,.inr hf⟩))))
     ·refine .inr ?_
      unfold ownB at hf
      split at hf
      ·cases hf
      ·obtain rfl:g=k:=by simpa using hf
       exact hg
    ·change ownB (if i=no then A' else M.da i) (if i=no then c' else M.dc i)=some k at hf
     rw[if_neg e,if_neg e]at hf
     exact .inl (.inr (.inr (.inr (.inr ⟨i,hi,.inr hf⟩))))
 exact h1.trans (Stepped.file (M:=M.grew no A' c') (by rw[hlen];exact hn) rfl)
end
end Go.Proofs.YthjeglnkgdpijaaGreatDoor
namespace Go.Proofs.YthjeglnkgdpijaaGreatDoor
namespace R
structure Rc where
 seq:Int
 op:Int
 no:Int
 id:ByteArray
def Rc.zero:Rc:=⟨0,0,0,⟨#[]⟩⟩
def word (v:Int):Bool:=decide (0≤v∧v≤4294967295)
def code (r:Rc):Int:=if (decide (r.op=1)||decide (r.op=2))&&word r.seq&&word r.no then (if r.id.size≤4096 then 0 else 101) else 100
def body (r:Rc):List UInt8:=UInt8.ofNat (192+r.op.toNat)::(beN r.id.size 2++(beN r.seq.toNat 4++(beN r.no.toNat 4++L r.id)))
def enc (r:Rc):List UInt8:=if code r=0 then body r++beN (sumN (body r)) 4 else []
def dec (b:List UInt8):Rc × Nat × Int :=
 if b.length=0 then (Rc.zero,0,0)
 else if b.headD 0≠193∧b.headD 0≠194 then (Rc.zero,0,100)
 else if b.length < 3 then (Rc.zero,0,0)
 else if 4096 < O.val ((b.drop 1).take 2) then (Rc.zero,0,100)
 else if b.length < O.val ((b.drop 1).take 2)+15 then (Rc.zero,0,0)
 else if O.val ((b.drop (O.val ((b.drop 1).take 2)+11)).take 4)≠sumN (b.take (O.val ((b.drop 1).take 2)+11)) then (Rc.zero,0,100)
 else (⟨(O.val ((b.drop 3).take 4):Nat),((b.headD 0).toNat:Int) - 192,(O.val ((b.drop 7).take 4):Nat),B ((b.drop 11).take (O.val ((b.drop 1).take 2)))⟩,O.val ((b.drop 1).take 2)+15,0)
def encAll:List Rc→Nat→List UInt8→List UInt8 × Int
 | [],_,b=>(b,0)
 | r::t,i,b=>if code { r with seq:=i }≠0 then ([],code { r with seq:=i }) else encAll t (i+1) (b++enc { r with seq:=i })
end R
namespace S
def has (l:List ByteArray) (x:ByteArray):Bool:=l.any fun y=>decide (y=x)
theorem has_iff {l:List ByteArray} {x:ByteArray}:has l x=true↔x∈l:=by
 unfold has
 rw[List.any_eq_true]
 exact⟨fun⟨y,hy,e⟩=>of_decide_eq_true e ▸ hy,fun h=>⟨x,h,decide_eq_true rfl⟩⟩
def logN:ByteArray:=⟨#[108,111,103]⟩
def newN:ByteArray:=⟨#[108,111,103,46,110,101,119]⟩
def steps:D.Dsk→List (D.Dsk→D.Dsk × Int)→D.Dsk × Nat × Int
 | s,[]=>(s,0,0)
 | s,f::r=>if (f s).2≠0 then ((f s).1,0,(f s).2) else ((steps (f s).1 r).1,(steps (f s).1 r).2.1+1,(steps (f s).1 r).2.2)
def moves (b:List UInt8):List (D.Dsk→D.Dsk × Int):=[fun d=>d.create newN,fun d=>d.append newN b,fun d=>d.sync newN,fun d=>d.rename newN logN]
def rewrite (d:D.Dsk) (count:Nat) (list:List R.Rc):D.Dsk × Nat × Int :=
 if (R.encAll list 0 []).2≠0 then (d,count,(R.encAll list 0 []).2)
 else if (steps d (moves (R.encAll list 0 []).1)).2.1=4 then ((steps d (moves (R.encAll list 0 []).1)).1.syncNames.1,list.length,(steps d (moves (R.encAll list 0 []).1)).1.syncNames.2)
 else if (steps d (moves (R.encAll list 0 []).1)).2.1=0 then ((steps d (moves (R.encAll list 0 []).1)).1,count,(steps d (moves (R.encAll list 0 []).1)).2.2)
 else (((steps d (moves (R.encAll list 0 []).1)).1.remove newN).1,count,(steps d (moves (R.encAll list 0 []).1)).2.2)
def add (d:D.Dsk) (count:Nat) (op no:Int) (id:ByteArray):D.Dsk × Nat × Int :=
 if R.code ⟨count,op,no,id⟩≠0 then (d,count,R.code ⟨count,op,no,id⟩)
 else if (d.append logN (R.enc ⟨count,op,no,id⟩)).2≠0 then ((d.append logN (R.enc ⟨count,op,no,id⟩)).1,count,(d.append logN (R.enc ⟨count,op,no,id⟩)).2)
 else (((d.append logN (R.enc ⟨count,op,no,id⟩)).1.sync logN).1,count+1,((d.append logN (R.enc ⟨count,op,no,id⟩)).1.sync logN).2)
def firsts:List (D.Dsk→D.Dsk × Int):=[fun d=>d.create logN,fun d=>d.sync logN,fun d=>d.syncNames]
def hx (i:Nat):UInt8:=if i < 10 then UInt8.ofNat (48+i) else UInt8.ofNat (87+i)
def path (no:Nat):ByteArray:=if no < 4096 then ⟨#[111,47,hx (no / 1024),hx (no / 64 % 16),47,hx (no % 64 / 16),hx (no % 16)]⟩ else ⟨#[]⟩
def isO (nm:ByteArray):Bool:=decide ((L nm).take 2=[111,47])
structure Sto where
 d:D.Dsk
 count:Nat
 tab:D.NM
 used:List Bool
def read (d:D.Dsk) (no:Nat):Option O.Ent:=if (d.read (path no)).2≠0 then none else O.dec (d.read (path no)).1
def idOf (E:O.Ent):ByteArray:=E.k++⟨#[10]⟩++E.v
def records (t:D.NM):List R.Rc:=t.map fun p=>⟨0,1,p.2,p.1⟩
def Sto.rewrite (s:Sto):Sto × Int:=({ s with d:=(S.rewrite s.d s.count (records s.tab)).1,count:=(S.rewrite s.d s.count (records s.tab)).2.1 },(S.rewrite s.d s.count (records s.tab)).2.2)
def Sto.tidy (s:Sto):Sto:=if s.count≤2 * s.tab.length+16 then s else s.rewrite.1
def tabOf (list:List R.Rc):D.NM:=list.foldl (fun t r=>if r.op=1 then D.put t r.id r.no.toNat else D.del t r.id) []
def marks (slots:Nat) (t:D.NM):List Bool:=(List.range slots).map fun no=>t.any fun p=>decide (p.2=no)
def lay (d:D.Dsk) (p:ByteArray) (b:List UInt8):D.Dsk × Bool × Int :=
 let x:=if has d.list p then d.remove p else (d,0)
 if x.2≠0 then (x.1,false,x.2) else
 let y:=x.1.create p
 if y.2≠0 then (y.1,false,y.2) else
 let z:=y.1.append p b
 if z.2≠0 then (z.1,true,z.2) else
 let u:=z.1.sync p
 if u.2≠0 then (u.1,true,u.2) else (u.1.syncNames.1,true,u.1.syncNames.2)
def Sto.free (s:Sto) (no:Nat):Sto:={ s with d:=(s.d.remove (path no)).1,used:=s.used.set no false }
def encE (E:O.Ent):Int:=objE E.k E.v E.s E.r E.m E.fs E.body.length E.asked E.got
def encB (E:O.Ent):List UInt8:=objB E.k E.v E.s E.r E.m E.fs E.body E.asked E.got
def Sto.freed (s:Sto) (id:ByteArray):Sto:=match D.find s.tab id with
 | some old=>s.free old
 | none=>s
def Sto.took (s:Sto) (no:Nat) (id:ByteArray):Sto:={ s with tab:=D.put s.tab id no,used:=s.used.set no true }
def Sto.entered (s:Sto) (no:Nat) (id:ByteArray) (x:D.Dsk × Bool × Int):Sto × Int :=
 let y:D.Dsk × Nat × Int:=if x.2.2=0 then add x.1 s.count 1 no id else (x.1,s.count,x.2.2)
 if y.2.1=s.count then ({ s with d:=if x.2.1 then (y.1.remove (path no)).1 else y.1 },y.2.2) else
 (((({ s with d:=y.1,count:=y.2.1 }:Sto).freed id).took no id).tidy,y.2.2)
def Sto.put (s:Sto) (E:O.Ent):Sto × Int :=
 if encE E≠0 then (s,encE E) else
 if 4096 < (idOf E).size then (s,101) else
 match s.used.findIdx? (fun x=>x=false) with
 | none=>(s,130)
 | some no=>s.entered no (idOf E) (lay s.d (path no) (encB E))
def Sto.drop (s:Sto) (id:ByteArray):Sto × Int :=
 match D.find s.tab id with
 | none=>(s,90)
 | some no =>
  let y:=add s.d s.count 2 no id
  if y.2.1=s.count then ({ s with d:=y.1 },y.2.2) else
  ((({ s with d:=y.1,count:=y.2.1,tab:=D.del s.tab id }:Sto).free no).tidy,y.2.2)
def Sto.get (s:Sto) (id:ByteArray):Option O.Ent :=
 match D.find s.tab id with
 | none=>none
 | some no=>read s.d no
def Sto.ids (s:Sto):List ByteArray:=s.tab.map (·.1)
end S
namespace D
theorem find_del (l:NM) (nm x:ByteArray):find (del l nm) x=if x=nm then none else find l x:=by
 unfold find del
 induction l with
 | nil=>simp
 | cons p r ih =>
  by_cases h1:p.1=nm
  ·rw[List.filter_cons_of_neg (by simpa using h1),ih]
   by_cases h2:x=nm
   ·rw[if_pos h2,if_pos h2]
   ·rw[if_neg h2,if_neg h2,List.find?_cons]
    have:decide (p.1=x)=false:=decide_eq_false (fun h=>h2 (h ▸ h1))
    rw[this]
  ·rw[List.filter_cons_of_pos (by simpa using h1),List.find?_cons,List.find?_cons]
   by_cases h3:p.1=x
   ·have h4:¬ x=nm:=fun h=>h1 (h3.trans h)
    rw[decide_eq_true h3,if_neg h4]
   ·rw[decide_eq_false h3]
    exact ih
theorem find_ins {l:NM} {nm:ByteArray} {no:Nat} (hn:∀ p∈l,p.1≠nm) (x:ByteArray):find (ins l nm no) x=if x=nm then some no else find l x:=by
 unfold find
 induction l with
 | nil =>
  unfold ins
  by_cases h:x=nm
  ·subst h;simp
  ·have:¬ nm=x:=fun e=>h e.symm
   simp [h,this]
 | cons p r ih =>
  have hp:=hn p (by simp)
  have ih2:=ih (fun q hq=>hn q (List.mem_cons_of_mem _ hq))
  unfold ins
  split
  ·rw[List.find?_cons]
   by_cases h:x=nm
   ·subst h;simp
   ·have:¬ nm=x:=fun e=>h e.symm
    simp [h,this]
  ·rw[List.find?_cons,List.find?_cons]
   by_cases h3:p.1=x
   ·have h4:¬ x=nm:=fun h=>hp (h3.trans h)
    rw[decide_eq_true h3,if_neg h4]
   ·rw[decide_eq_false h3]
    exact ih2
theorem find_put (l:NM) (nm:ByteArray) (no:Nat) (x:ByteArray):find (put l nm no) x=if x=nm then some no else find l x:=by
 unfold put
 rw[find_ins (fun p hp=>(mem_del.1 hp).2),find_del]
 by_cases h:x=nm
 ·rw[if_pos h,if_pos h]
 ·rw[if_neg h,if_neg h,if_neg h]
theorem mem_find {l:NM} (hu:Up l) {p:ByteArray × Nat} (hp:p∈l):find l p.1=some p.2:=by
 unfold find
 induction l with
 | nil=>cases hp
 | cons q r ih =>
  obtain⟨h1,h2⟩:=List.pairwise_cons.1 hu
  rw[List.find?_cons]
  rcases List.mem_cons.1 hp with rfl | hp
  ·simp
  ·have hne:¬ q.1=p.1:=fun e=>by
    have:=h1 p hp
    rw[e,lt_irrefl]at this
    cases this
   rw[decide_eq_false hne]
   exact ih h2 hp
theorem find_isSome {l:NM} {x:ByteArray}:(find l x).isSome=true↔∃ no,(x,no)∈l:=by
 constructor
 ·intro h
  obtain⟨no,hno⟩:=Option.isSome_iff_exists.1 h
  exact⟨no,find_mem hno⟩
 ·rintro⟨no,h⟩
  cases hf:find l x with
  | some _=>rfl
  | none=>exact absurd rfl (find_none hf _ h)
theorem up_names:∀ {l m:NM},Up l→Up m→(∀ x,(find l x).isSome=(find m x).isSome)→l.map (·.1)=m.map (·.1)
 | [],[],_,_,_=>rfl
 | [],q::_,_,_,h=>by
  have:=h q.1
  simp [find]at this
 | p::_,[],_,_,h=>by
  have:=h p.1
  simp [find]at this
 | p::l,q::m,hl,hm,h=>by
  obtain⟨h1,h2⟩:=List.pairwise_cons.1 hl
  obtain⟨h3,h4⟩:=List.pairwise_cons.1 hm
  have ha:∃ no,(p.1,no)∈q::m:=find_isSome.1 (by rw[← h];exact find_isSome.2 ⟨p.2,by simp⟩)
  have hb:∃ no,(q.1,no)∈p::l:=find_isSome.1 (by rw[h];exact find_isSome.2 ⟨q.2,by simp⟩)
  have e:p.1=q.1:=by
   obtain⟨a,ha⟩:=ha
   obtain⟨b,hb⟩:=hb
   rcases List.mem_cons.1 ha with ha | ha
   ·rw[← ha]
   ·rcases List.mem_cons.1 hb with hb | hb
    ·rw[← hb]
    ·have t1:=h3 _ ha
     have t2:=h1 _ hb
     have:=lt_trans t1 t2
     rw[lt_irrefl]at this
     cases this
  rw[List.map_cons,List.map_cons,e]
  congr 1
  refine up_names h2 h4 (fun x=>?_)
  have hx:=h x
  unfold find at hx ⊢
  rw[List.find?_cons,List.find?_cons]at hx
  by_cases e2:p.1=x
  ·have e3:q.1=x:=e.symm.trans e2
   have n1:l.find? (fun p=>decide (p.1=x))=none:=List.find?_eq_none.2 (fun r hr=>by
    have:=h1 r hr
    intro hc
    rw[e2,of_decide_eq_true hc,lt_irrefl]at this
    cases this)
   have n2:m.find? (fun p=>decide (p.1=x))=none:=List.find?_eq_none.2 (fun r hr=>by
    have:=h3 r hr
    intro hc
    rw[e3,of_decide_eq_true hc,lt_irrefl]at this
    cases this)
   rw[n1,n2]
  ·have e3:¬ q.1=x:=fun h=>e2 (e.trans h)
   rw[decide_eq_false e2,decide_eq_false e3]at hx
   exact hx
def cont (d:Dsk) (x:ByteArray):Option (List UInt8):=(find d.now x).map fun no=>d.data.getD no []
structure Clm (d:Dsk):Prop where
 power:d.power=-1
 fails:d.fails=[]
 ok:d.Ok
 one:∀ p∈d.now,∀ q∈d.now,p.2=q.2→p=q
 room:(d.used:Int)≤d.room
def tick (d:Dsk):Dsk:={ d with n:=d.n+1 }
section
variable {d:Dsk} {nm:ByteArray} {c:List UInt8}
theorem Clm.up (h:Clm d):d.down=false:=by
 unfold Dsk.down
 rw[h.power]
 rfl
theorem Clm.begin (h:Clm d) {ns:List ByteArray} (hg:ns.all good=true):d.begin ns=(tick d,0):=by
 unfold Dsk.begin
 rw[h.up,h.fails,hg,if_neg (by decide),if_neg (by simp),if_pos rfl,← h.fails]
 rfl
theorem Clm.tick (h:Clm d):Clm (tick d):=⟨h.power,h.fails,h.ok.count _,h.one,h.room⟩
theorem Clm.on (h:Clm d) {more:List ByteArray} (hg:(more++[nm]).all good=true) (f:Dsk→Nat→Dsk × Int) {no:Nat} (hf:find d.now nm=some no):d.on nm more f=f (D.tick d) no:=by
 unfold Dsk.on
 rw[h.begin hg]
 show (if (0:Int)≠0 then _ else match find d.now nm with | none=>_ | some no=>_)=_
 rw[if_neg (by decide),hf]
theorem cont_some (hc:cont d nm=some c):∃ no,find d.now nm=some no∧d.data.getD no []=c:=by
 unfold cont at hc
 rw[Option.map_eq_some_iff]at hc
 exact hc
theorem cont_none (hc:cont d nm=none):find d.now nm=none:=by
 unfold cont at hc
 rwa [Option.map_eq_none_iff]at hc
theorem all_one (hg:good nm=true):([nm]:List ByteArray).all good=true:=by simp [hg]
theorem sum_le_of {f g:ByteArray × Nat→Nat}:∀ (l:NM),(∀ p∈l,f p≤g p)→(l.map f).sum≤(l.map g).sum
 | [],_=>Nat.le_refl _
 | p::r,h=>by
  rw[List.map_cons,List.map_cons,List.sum_cons,List.sum_cons]
  exact Nat.add_le_add (h p (by simp)) (sum_le_of r fun q hq=>h q (List.mem_cons_of_mem _ hq))
theorem sum_ins (f:ByteArray × Nat→Nat) (nm:ByteArray) (no:Nat):∀ l:NM,((ins l nm no).map f).sum=f (nm,no)+(l.map f).sum
 | []=>by simp [ins]
 | p::r=>by
  unfold ins
  split
  ·simp
  ·rw[List.map_cons,List.sum_cons,sum_ins f nm no r,List.map_cons,List.sum_cons]
   omega
theorem sum_del (f:ByteArray × Nat→Nat) (nm:ByteArray) (l:NM):((del l nm).map f).sum≤(l.map f).sum:=by
 unfold del
 induction l with
 | nil=>exact Nat.le_refl _
 | cons p r ih =>
  rw[List.filter_cons]
  split<;>simp only[List.map_cons,List.sum_cons]<;>omega
theorem sum_del_mem (f:ByteArray × Nat→Nat) {nm:ByteArray} {no:Nat}:∀ {l:NM},(nm,no)∈l→((del l nm).map f).sum+f (nm,no)≤(l.map f).sum
 | p::r,h=>by
  rcases List.mem_cons.1 h with rfl | h
  ·unfold del
   rw[List.filter_cons_of_neg (by simp),List.map_cons,List.sum_cons]
   have:=sum_del f nm r
   unfold del at this
   omega
  ·have ih:=sum_del_mem f h
   unfold del at ih ⊢
   rw[List.filter_cons]
   split<;>simp only[List.map_cons,List.sum_cons]<;>omega
theorem one_ins {l:NM} {no:Nat} (h:∀ p∈l,∀ q∈l,p.2=q.2→p=q) (hn:∀ p∈l,p.2≠no):∀ p∈put l nm no,∀ q∈put l nm no,p.2=q.2→p=q:=by
 intro p hp q hq e
 rcases mem_put.1 hp with rfl | hp
 ·rcases mem_put.1 hq with rfl | hq
  ·rfl
  ·exact absurd e.symm (hn q hq.1)
 ·rcases mem_put.1 hq with rfl | hq
  ·exact absurd e (hn p hp.1)
  ·exact h p hp.1 q hq.1 e
theorem one_del {l:NM} (h:∀ p∈l,∀ q∈l,p.2=q.2→p=q):∀ p∈del l nm,∀ q∈del l nm,p.2=q.2→p=q:=fun p hp q hq e=>h p (mem_del.1 hp).1 q (mem_del.1 hq).1 e
theorem Clm.create (h:Clm d) (hg:good nm=true) (hn:cont d nm=none):(d.create nm).2=0∧Clm (d.create nm).1∧∀ x,cont (d.create nm).1 x=if x=nm then some [] else cont d x:=by
 have hf:=cont_none hn
 have e:d.create nm=(({ D.tick d with data:=d.data++[[]],firm:=d.firm++[0] }:Dsk).alter (.put nm d.data.length),0):=by
  unfold Dsk.create
  rw[h.begin (all_one hg)]
  show (if (0:Int)≠0 then _ else if (find d.now nm).isSome then _ else _)=_
  rw[if_neg (by decide),hf]
  rfl
 rw[e]
 have hsz:∀ p∈d.now,(d.data++[([]:List UInt8)]).getD p.2 []=d.data.getD p.2 []:=fun p hp=>by simp [List.getD,List.getElem?_append_left (h.ok.inN p hp)]
 have hlast:(d.data++[([]:List UInt8)]).getD d.data.length []=[]:=by simp [List.getD]
 refine⟨rfl,⟨h.power,h.fails,(h.ok.count _).newFile.alter (c:=.put nm d.data.length) (by show d.data.length < (d.data++[([]:List UInt8)]).length;simp),one_ins h.one (fun p hp=>Nat.ne_of_lt (h.ok.inN p hp)),?_⟩,fun x=>?_⟩
 ·have hr:=h.room
  unfold Dsk.used Dsk.size at hr ⊢
  show (((((put d.now nm d.data.length).map fun p=>((d.data++[([]:List UInt8)]).getD p.2 []).length)).sum:Nat):Int)≤d.room
  unfold put
  rw[sum_ins]
  dsimp only
  rw[hlast]
  have h1:=sum_del (fun p=>((d.data++[([]:List UInt8)]).getD p.2 []).length) nm d.now
  have h2:=sum_le_of (f:=fun p=>((d.data++[([]:List UInt8)]).getD p.2 []).length) (g:=fun p=>(d.data.getD p.2 []).length) d.now (fun p hp=>by rw[hsz p hp];exact Nat.le_refl _)
  simp only[List.length_nil]
  omega
 ·show ((find (put d.now nm d.data.length) x).map fun no=>(d.data++[([]:List UInt8)]).getD no [])=_
  rw[find_put]
  by_cases hx:x=nm
  ·rw[if_pos hx,if_pos hx,Option.map_some,hlast]
  ·rw[if_neg hx,if_neg hx]
   unfold cont
   cases hfx:find d.now x with
   | none=>rfl
   | some no=>rw[Option.map_some,Option.map_some,hsz _ (find_mem hfx)]
theorem Clm.append (h:Clm d) (hg:good nm=true) (hc:cont d nm=some c) (b:List UInt8) :
  ((d.append nm b).2=92∧Clm (d.append nm b).1∧∀ x,cont (d.append nm b).1 x=cont d x)∨((d.append nm b).2=0∧Clm (d.append nm b).1∧∀ x,cont (d.append nm b).1 x=if x=nm then some (c++b) else cont d x):=by
 obtain⟨no,hf,hd⟩:=cont_some hc
 have hno:=h.ok.inN _ (find_mem hf)
 have e:d.append nm b=(if 0 < b.length∧d.room < (d.used:Int)+b.length then (D.tick d,92) else ({ D.tick d with data:=d.data.set no (d.data.getD no []++b) },0)):=h.on (all_one hg) _ hf
 rw[e]
 by_cases hr:0 < b.length∧d.room < (d.used:Int)+b.length
 ·rw[if_pos hr]
  exact .inl ⟨rfl,h.tick,fun _=>rfl⟩
 ·rw[if_neg hr]
  have hsame:∀ p∈d.now,p.1≠nm→(d.data.set no (d.data.getD no []++b)).getD p.2 []=d.data.getD p.2 []:=fun p hp hne=>by
   have:no≠p.2:=fun e=>hne (congrArg Prod.fst (h.one _ (find_mem hf) p hp e)).symm
   simp [List.getD,List.getElem?_set_ne this]
  have hself:(d.data.set no (d.data.getD no []++b)).getD no []=c++b:=by
   rw[← hd]
   simp [List.getD,hno]
  refine .inr ⟨rfl,⟨h.power,h.fails,(h.ok.count _).data no b,h.one,?_⟩,fun x=>?_⟩
  ·have h0:=h.room
   have h1:=sum_del_mem (fun p=>(d.data.getD p.2 []).length) (find_mem hf)
   have h2:=sum_le_of (f:=fun p=>((d.data.set no (d.data.getD no []++b)).getD p.2 []).length) (g:=fun p=>(d.data.getD p.2 []).length+if p.1=nm then b.length else 0) d.now (fun p hp=>by
    by_cases hp1:p.1=nm
    ·have:p.2=no:=by
      have:=find_mem hf
      have e2:=h.ok.upN
      have e3:=mem_find e2 hp
      rw[hp1,hf]at e3
      exact (Option.some.inj e3).symm
     rw[if_pos hp1,this,hself,← hd,List.length_append]
     exact Nat.le_refl _
    ·rw[if_neg hp1,hsame p hp hp1]
     exact Nat.le_refl _)
   have h3:(d.now.map fun p=>(d.data.getD p.2 []).length+if p.1=nm then b.length else 0).sum≤(d.now.map fun p=>(d.data.getD p.2 []).length).sum+b.length:=by
    have hup:=h.ok.upN
    clear h1 h2 hsame hself hr e h0 hf hc hno hd h
    generalize d.now=l at *
    induction l with
    | nil=>simp
    | cons p r ih =>
     obtain⟨u1,u2⟩:=List.pairwise_cons.1 hup
     simp only[List.map_cons,List.sum_cons]
     by_cases hp1:p.1=nm
     ·have hz:(r.map fun p=>(d.data.getD p.2 []).length+if p.1=nm then b.length else 0).sum≤(r.map fun p=>(d.data.getD p.2 []).length).sum:=sum_le_of r (fun q hq=>by
       have:¬ q.1=nm:=fun e=>by
        have:=u1 q hq
        rw[hp1,e,lt_irrefl]at this
        cases this
       rw[if_neg this]
       exact Nat.le_refl _)
      rw[if_pos hp1]
      omega
     ·rw[if_neg hp1]
      have:=ih u2
      omega
   have hused:d.used=(d.now.map fun p=>(d.data.getD p.2 []).length).sum:=rfl
   show (((d.now.map fun p=>((d.data.set no (d.data.getD no []++b)).getD p.2 []).length).sum:Nat):Int)≤d.room
   by_cases hb:0 < b.length
   ·have:¬ d.room < (d.used:Int)+b.length:=fun h=>hr ⟨hb,h⟩
    omega
   ·have:b.length=0:=by omega
    rw[hused]at h0
    omega
  ·show ((find d.now x).map fun i=>(d.data.set no (d.data.getD no []++b)).getD i [])=_
   by_cases hx:x=nm
   ·rw[if_pos hx,hx,hf,Option.map_some,hself]
   ·rw[if_neg hx]
    unfold cont
    cases hfx:find d.now x with
    | none=>rfl
    | some i=>rw[Option.map_some,Option.map_some,hsame _ (find_mem hfx) hx]
theorem Clm.sync (h:Clm d) (hg:good nm=true) (hc:cont d nm=some c):(d.sync nm).2=0∧Clm (d.sync nm).1∧∀ x,cont (d.sync nm).1 x=cont d x:=by
 obtain⟨no,hf,hd⟩:=cont_some hc
 have e:d.sync nm=({ D.tick d with firm:=d.firm.set no (d.size no) },0):=h.on (all_one hg) _ hf
 rw[e]
 exact⟨rfl,⟨h.power,h.fails,(h.ok.count _).firm no,h.one,h.room⟩,fun _=>rfl⟩
theorem Clm.syncNames (h:Clm d):d.syncNames.2=0∧Clm d.syncNames.1∧∀ x,cont d.syncNames.1 x=cont d x:=by
 have e:d.syncNames=({ D.tick d with safe:=d.now,pend:=[] },0):=by
  unfold Dsk.syncNames
  rw[h.begin (ns:=[]) rfl]
  rfl
 rw[e]
 exact⟨rfl,⟨h.power,h.fails,(h.ok.count _).synced,h.one,h.room⟩,fun _=>rfl⟩
theorem Clm.remove (h:Clm d) (hg:good nm=true) (hc:cont d nm=some c):(d.remove nm).2=0∧Clm (d.remove nm).1∧∀ x,cont (d.remove nm).1 x=if x=nm then none else cont d x:=by
 obtain⟨no,hf,hd⟩:=cont_some hc
 have e:d.remove nm=((D.tick d).alter (.del nm),0):=h.on (all_one hg) _ hf
 rw[e]
 refine⟨rfl,⟨h.power,h.fails,(h.ok.count _).alter (c:=.del nm) trivial,one_del h.one,?_⟩,fun x=>?_⟩
 ·have h1:=sum_del (fun p=>d.size p.2) nm d.now
  have h2:=h.room
  show ((((del d.now nm).map fun p=>d.size p.2).sum:Nat):Int)≤d.room
  unfold Dsk.used at h2
  omega
 ·show ((find (del d.now nm) x).map fun i=>d.data.getD i [])=_
  rw[find_del]
  by_cases hx:x=nm
  ·rw[if_pos hx,if_pos hx,Option.map_none]
  ·rw[if_neg hx,if_neg hx]
   rfl
theorem Clm.rename (h:Clm d) {to_:ByteArray} (hg:good nm=true) (hg2:good to_=true) (hne:nm≠to_) (hc:cont d nm=some c):(d.rename nm to_).2=0∧Clm (d.rename nm to_).1∧∀ x,cont (d.rename nm to_).1 x=if x=to_ then some c else if x=nm then none else cont d x:=by
 obtain⟨no,hf,hd⟩:=cont_some hc
 have e:d.rename nm to_=((D.tick d).alter (.ren nm to_ no),0):=by
  refine (h.on (more:=[to_]) (by simp [hg,hg2]) _ hf).trans ?_
  rw[if_neg hne]
 rw[e]
 refine⟨rfl,⟨h.power,h.fails,(h.ok.count _).alter (c:=.ren nm to_ no) (h.ok.inN _ (find_mem hf)),one_ins (one_del h.one) (fun p hp e2=>(mem_del.1 hp).2 (congrArg Prod.fst (h.one p (mem_del.1 hp).1 _ (find_mem hf) e2))),?_⟩,fun x=>?_⟩
 ·have h1:=sum_del_mem (fun p=>d.size p.2) (find_mem hf)
  have h2:=h.room
  have h3:=sum_del (fun p=>d.size p.2) to_ (del d.now nm)
  show ((((put (del d.now nm) to_ no).map fun p=>d.size p.2).sum:Nat):Int)≤d.room
  unfold Dsk.used at h2
  unfold put
  rw[sum_ins]
  dsimp only at h1 ⊢
  omega
 ·show ((find (put (del d.now nm) to_ no) x).map fun i=>d.data.getD i [])=_
  rw[find_put,find_del]
  by_cases hx:x=to_
  ·rw[if_pos hx,if_pos hx,Option.map_some,hd]
  ·rw[if_neg hx,if_neg hx]
   by_cases hx2:x=nm
   ·rw[if_pos hx2,if_pos hx2,Option.map_none]
   ·rw[if_neg hx2,if_neg hx2]
    rfl
theorem Clm.read (h:Clm d) (hg:good nm=true):d.read nm=match cont d nm with | some c=>(c,0) | none=>([],90):=by
 unfold Dsk.read cont
 rw[h.up,hg,if_neg (by decide),if_neg (by decide)]
 cases find d.now nm<;>rfl
theorem Clm.mem (h:Clm d) (x:ByteArray):x∈d.list↔(cont d x).isSome=true:=by
 unfold Dsk.list cont
 rw[h.up,if_neg (by decide),Option.isSome_map,find_isSome,List.mem_map]
 constructor
 ·rintro⟨p,hp,rfl⟩
  exact⟨p.2,hp⟩
 ·rintro⟨no,hp⟩
  exact⟨_,hp,rfl⟩
theorem Clm.names (h:Clm d) {d':Dsk} (h':Clm d') (hx:∀ x,(cont d' x).isSome=(cont d x).isSome):d'.list=d.list:=by
 unfold Dsk.list
 rw[h.up,h'.up,if_neg (by decide),if_neg (by decide)]
 refine up_names h'.ok.upN h.ok.upN (fun x=>?_)
 have:=hx x
 unfold cont at this
 rwa [Option.isSome_map,Option.isSome_map]at this
end
end D
end Go.Proofs.YthjeglnkgdpijaaGreatDoor
