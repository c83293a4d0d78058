/- The stand-in disk as a plain state: its steps, what is read of it, what a loss of power leaves; and the document's disk over the same. No program here. The log's records, the log on the disk, and the store over both, as plain states. No program here. -/
import Derived.Test.YtkempjcphpnocaaGreatDoorZ23
import Derived.Test.YtkempjcphpnocaaGreatDoorObjA
namespace Go.Proofs.YtkempjcphpnocaaGreatDoor
namespace D
abbrev NM:=List (ByteArray × Nat)
def ltB (a b:ByteArray):Bool:=decide (L a < L b)
def okB (c:UInt8):Bool:=(decide (97 ≤ c.toNat) && decide (c.toNat ≤ 122)) || (decide (48 ≤ c.toNat) && decide (c.toNat ≤ 57)) || decide (c = 46) || decide (c = 45) || decide (c = 95) || decide (c = 47)
def good (s:ByteArray):Bool:=(L s).all okB && decide (1 ≤ s.size) && decide (s.size ≤ 64)
def find (l:NM) (nm:ByteArray):Option Nat:=(l.find? fun p=>decide (p.1 = nm)).map (·.2)
def del (l:NM) (nm:ByteArray):NM:=l.filter fun p=>decide (p.1 ≠ nm)
def ins:NM → ByteArray → Nat → NM
  | [],nm,no=>[(nm,no)]
  | p :: r,nm,no=>if ltB nm p.1 then (nm,no) :: p :: r else p :: ins r nm no
def put (l:NM) (nm:ByteArray) (no:Nat):NM:=ins (del l nm) nm no
inductive Chg where
  | put (nm:ByteArray) (no:Nat)
  | del (nm:ByteArray)
  | ren (a b:ByteArray) (no:Nat)
def Chg.app (l:NM):Chg → NM
  | .put nm no=>D.put l nm no
  | .del nm=>D.del l nm
  | .ren a b no=>D.put (D.del l a) b no
def Chg.within (n:Nat):Chg → Prop
  | .put _ no=>no < n
  | .del _=>True
  | .ren _ _ no=>no < n
structure Dsk where
  now:NM
  safe:NM
  pend:List Chg
  data:List (List UInt8)
  firm:List Nat
  room:Int
  fails:List Int
  power:Int
  n:Int
def Dsk.down (s:Dsk):Bool:=decide (0 ≤ s.power) && decide (s.n = s.power)
def Dsk.size (s:Dsk) (no:Nat):Nat:=(s.data.getD no []).length
def Dsk.used (s:Dsk):Nat:=(s.now.map fun p=>s.size p.2).sum
def Dsk.begin (s:Dsk) (names:List ByteArray):Dsk × Int :=
  if s.down then (s,93)
  else ({ s with n:=s.n + 1 },if decide (s.n + 1 ∈ s.fails) then 94 else if names.all good then 0 else 95)
def Dsk.alter (s:Dsk) (c:Chg):Dsk:={ s with now:=c.app s.now,pend:=s.pend ++ [c] }
def Dsk.create (s:Dsk) (nm:ByteArray):Dsk × Int :=
  match s.begin [nm] with
  | (s1,e)=>if e ≠ 0 then (s1,e) else if (find s1.now nm).isSome then (s1,91)
    else (({ s1 with data:=s1.data ++ [[]],firm:=s1.firm ++ [0] }:Dsk).alter (.put nm s1.data.length),0)
def Dsk.on (s:Dsk) (nm:ByteArray) (more:List ByteArray) (f:Dsk → Nat → Dsk × Int):Dsk × Int :=
  match s.begin (more ++ [nm]) with
  | (s1,e)=>if e ≠ 0 then (s1,e) else match find s1.now nm with
    | none=>(s1,90)
    | some no=>f s1 no
def Dsk.append (s:Dsk) (nm:ByteArray) (d:List UInt8):Dsk × Int :=
  s.on nm [] fun s no=>if 0 < d.length ∧ s.room < (s.used:Int) + d.length then (s,92) else ({ s with data:=s.data.set no (s.data.getD no [] ++ d) },0)
def Dsk.sync (s:Dsk) (nm:ByteArray):Dsk × Int:=s.on nm [] fun s no=>({ s with firm:=s.firm.set no (s.size no) },0)
def Dsk.syncNames (s:Dsk):Dsk × Int :=
  match s.begin [] with
  | (s1,e)=>if e ≠ 0 then (s1,e) else ({ s1 with safe:=s1.now,pend:=[] },0)
def Dsk.rename (s:Dsk) (a b:ByteArray):Dsk × Int:=s.on a [b] fun s no=>if a = b then (s,0) else (s.alter (.ren a b no),0)
def Dsk.remove (s:Dsk) (nm:ByteArray):Dsk × Int:=s.on nm [] fun s _=>(s.alter (.del nm),0)
def Dsk.read (s:Dsk) (nm:ByteArray):List UInt8 × Int :=
  if s.down then ([],93) else if good nm = false then ([],95) else match find s.now nm with
  | none=>([],90)
  | some no=>(s.data.getD no [],0)
def Dsk.list (s:Dsk):List ByteArray:=if s.down then [] else s.now.map (·.1)
def Dsk.keepN (s:Dsk) (keep:List Int) (no:Nat):Nat:=s.firm.getD no 0 + (if no < keep.length then max 0 (min (keep.getD no 0) ((s.size no:Int) - s.firm.getD no 0)) else 0).toNat
def Dsk.namesLeft (s:Dsk) (k:Int):NM:=(s.pend.take k.toNat).foldl Chg.app s.safe
def Dsk.left (s:Dsk) (k:Int) (keep:List Int):List (ByteArray × List UInt8):=(s.namesLeft k).map fun p=>(p.1,(s.data.getD p.2 []).take (s.keepN keep p.2))
def Up (l:NM):Prop:=l.Pairwise fun p q=>ltB p.1 q.1 = true
structure Dsk.Ok (s:Dsk):Prop where
  lens:s.firm.length = s.data.length
  upN:Up s.now
  upS:Up s.safe
  inN:∀ p ∈ s.now,p.2 < s.data.length
  inS:∀ p ∈ s.safe,p.2 < s.data.length
  inP:∀ c ∈ s.pend,c.within s.data.length
  fold:s.now = s.pend.foldl Chg.app s.safe
  firms:∀ no,no < s.data.length → s.firm.getD no 0 ≤ s.size no
theorem lt_irrefl (a:ByteArray):ltB a a = false:=by
  unfold ltB
  exact decide_eq_false (List.lt_irrefl _)
theorem lt_trans {a b c:ByteArray} (h1:ltB a b = true) (h2:ltB b c = true):ltB a c = true:=by
  unfold ltB at *
  exact decide_eq_true (List.lt_trans (of_decide_eq_true h1) (of_decide_eq_true h2))
theorem L_inj {a b:ByteArray} (h:L a = L b):a = b:=by
  obtain ⟨a⟩:=a
  obtain ⟨b⟩:=b
  have:a = b:=Array.toList_inj.1 h
  rw [this]
theorem lt_or {a b:ByteArray} (h:a ≠ b):ltB a b = true ∨ ltB b a = true:=by
  unfold ltB
  by_cases h1:L a < L b
  · exact .inl (decide_eq_true h1)
  · by_cases h2:L b < L a
    · exact .inr (decide_eq_true h2)
    · have:=List.le_antisymm (show L a ≤ L b from h2) (show L b ≤ L a from h1)
      exact absurd (L_inj this) h
theorem mem_del {l:NM} {nm:ByteArray} {p:ByteArray × Nat}:p ∈ del l nm ↔ p ∈ l ∧ p.1 ≠ nm:=by
  unfold del
  rw [List.mem_filter]
  simp
theorem up_del {l:NM} (h:Up l) (nm:ByteArray):Up (del l nm):=List.Pairwise.sublist List.filter_sublist h
theorem mem_ins:∀ {l:NM} {nm:ByteArray} {no:Nat} {p:ByteArray × Nat},p ∈ ins l nm no ↔ p = (nm,no) ∨ p ∈ l
  | [],nm,no,p=>by simp [ins]
  | q :: r,nm,no,p=>by
    unfold ins
    split
    · simp
    · rw [List.mem_cons,List.mem_cons,mem_ins (l:=r)]
      constructor
      · rintro (h | h | h)
        · exact .inr (.inl h)
        · exact .inl h
        · exact .inr (.inr h)
      · rintro (h | h | h)
        · exact .inr (.inl h)
        · exact .inl h
        · exact .inr (.inr h)
theorem up_ins:∀ {l:NM} {nm:ByteArray} {no:Nat},Up l → (∀ p ∈ l,p.1 ≠ nm) → Up (ins l nm no)
  | [],nm,no,_,_=>by unfold ins Up; exact List.pairwise_singleton _ _
  | q :: r,nm,no,h,hn=>by
    have hq:=List.pairwise_cons.1 h
    unfold ins
    split
    · rename_i hlt
      refine List.pairwise_cons.2 ⟨fun p hp=>?_,h⟩
      rcases List.mem_cons.1 hp with rfl | hp
      · exact hlt
      · exact lt_trans hlt (hq.1 p hp)
    · rename_i hlt
      refine List.pairwise_cons.2 ⟨fun p hp=>?_,up_ins hq.2 (fun p hp=>hn p (List.mem_cons_of_mem _ hp))⟩
      rcases mem_ins.1 hp with rfl | hp
      · rcases lt_or (hn q (by simp)) with h1 | h1
        · exact h1
        · exact absurd h1 hlt
      · exact hq.1 p hp
theorem up_put {l:NM} (h:Up l) (nm:ByteArray) (no:Nat):Up (put l nm no):=up_ins (up_del h nm) (fun _ hp=>(mem_del.1 hp).2)
theorem mem_put {l:NM} {nm:ByteArray} {no:Nat} {p:ByteArray × Nat}:p ∈ put l nm no ↔ p = (nm,no) ∨ (p ∈ l ∧ p.1 ≠ nm):=by
  unfold put
  rw [mem_ins,mem_del]
theorem find_mem {l:NM} {nm:ByteArray} {no:Nat} (h:find l nm = some no):(nm,no) ∈ l:=by
  unfold find at h
  rw [Option.map_eq_some_iff] at h
  obtain ⟨p,hp,rfl⟩:=h
  have h1:=List.mem_of_find?_eq_some hp
  have h2:p.1 = nm:=by simpa using List.find?_some hp
  rw [← h2]
  exact h1
theorem find_none {l:NM} {nm:ByteArray} (h:find l nm = none):∀ p ∈ l,p.1 ≠ nm:=by
  unfold find at h
  rw [Option.map_eq_none_iff,List.find?_eq_none] at h
  intro p hp
  simpa using h p hp
theorem up_app {l:NM} (h:Up l) (c:Chg):Up (c.app l):=by
  cases c with
  | put nm no=>exact up_put h nm no
  | del nm=>exact up_del h nm
  | ren a b no=>exact up_put (up_del h a) b no
theorem up_left {s:Dsk} (h:s.Ok) (k:Int):Up (s.namesLeft k):=by
  have:∀ (cs:List Chg) (l:NM),Up l → Up (cs.foldl Chg.app l):=by
    intro cs
    induction cs with
    | nil=>exact fun _ h=>h
    | cons c cs ih=>exact fun l hl=>ih _ (up_app hl c)
  exact this _ _ h.upS
def Dsk.look (s:Dsk) (nm:ByteArray) (more:List ByteArray):Dsk × Int × Option Nat :=
  match s.begin (more ++ [nm]) with
  | (s1,e)=>if e ≠ 0 then (s1,e,none) else match find s1.now nm with
    | none=>(s1,90,none)
    | some no=>(s1,0,some no)
theorem Dsk.on_look (s:Dsk) (nm:ByteArray) (more:List ByteArray) (f:Dsk → Nat → Dsk × Int) :
    s.on nm more f = match s.look nm more with | (s1,_,some no)=>f s1 no | (s1,e,none)=>(s1,e):=by
  unfold Dsk.on Dsk.look
  cases s.begin (more ++ [nm]) with
  | mk s1 e =>
    dsimp only
    split
    · rfl
    · cases find s1.now nm <;> rfl
structure Dsk.Sml (s:Dsk):Prop where
  n0:0 ≤ s.n
  n:s.n ≤ 1099511627776
  fails:s.fails.length ≤ 1099511627776
  now:s.now.length ≤ 1099511627776
  pend:s.pend.length ≤ 1099511627776
  data:s.data.length ≤ 1099511627776
  size:∀ no,s.size no ≤ 1099511627776
theorem Dsk.begin_or (s:Dsk) (ns:List ByteArray):(s.begin ns).1 = s ∨ (s.begin ns).1 = { s with n:=s.n + 1 }:=by
  unfold Dsk.begin
  split
  · exact .inl rfl
  · exact .inr rfl
theorem Dsk.begin_as (s:Dsk) (ns:List ByteArray):∃ n,(s.begin ns).1 = { s with n:=n }:=by
  rcases s.begin_or ns with h | h
  · exact ⟨s.n,h⟩
  · exact ⟨_,h⟩
theorem Dsk.look_or (s:Dsk) (nm:ByteArray) (more:List ByteArray):(∃ n e,s.look nm more = ({ s with n:=n },e,none) ∧ e ≠ 0) ∨ ∃ n no,s.look nm more = ({ s with n:=n },0,some no) ∧ find s.now nm = some no:=by
  obtain ⟨n,hn⟩:=s.begin_as (more ++ [nm])
  unfold Dsk.look
  cases hb:s.begin (more ++ [nm]) with
  | mk s1 e =>
    rw [hb] at hn
    dsimp only at hn ⊢
    subst hn
    by_cases he:e = 0
    · rw [if_neg (by simpa using he)]
      dsimp only
      cases hf:find s.now nm with
      | none=>exact .inl ⟨n,90,rfl,by decide⟩
      | some no=>exact .inr ⟨n,no,rfl,rfl⟩
    · rw [if_pos he]
      exact .inl ⟨n,e,rfl,he⟩
end D
end Go.Proofs.YtkempjcphpnocaaGreatDoor
namespace Go.Proofs.YtkempjcphpnocaaGreatDoor
namespace R
structure Rc where
  seq:Int
  op:Int
  no:Int
  id:ByteArray
def Rc.zero:Rc:=⟨0,0,0,⟨#[]⟩⟩
def word (v:Int):Bool:=decide (0 ≤ v ∧ v ≤ 4294967295)
def code (r:Rc):Int:=if (decide (r.op = 1) || decide (r.op = 2)) && word r.seq && word r.no then (if r.id.size ≤ 4096 then 0 else 101) else 100
def body (r:Rc):List UInt8:=UInt8.ofNat (192 + r.op.toNat) :: (beN r.id.size 2 ++ (beN r.seq.toNat 4 ++ (beN r.no.toNat 4 ++ L r.id)))
def enc (r:Rc):List UInt8:=if code r = 0 then body r ++ beN (sumN (body r)) 4 else []
def dec (b:List UInt8):Rc × Nat × Int :=
  if b.length = 0 then (Rc.zero,0,0)
  else if b.headD 0 ≠ 193 ∧ b.headD 0 ≠ 194 then (Rc.zero,0,100)
  else if b.length < 3 then (Rc.zero,0,0)
  else if 4096 < O.val ((b.drop 1).take 2) then (Rc.zero,0,100)
  else if b.length < O.val ((b.drop 1).take 2) + 15 then (Rc.zero,0,0)
  else if O.val ((b.drop (O.val ((b.drop 1).take 2) + 11)).take 4) ≠ sumN (b.take (O.val ((b.drop 1).take 2) + 11)) then (Rc.zero,0,100)
  else (⟨(O.val ((b.drop 3).take 4):Nat),((b.headD 0).toNat:Int) - 192,(O.val ((b.drop 7).take 4):Nat),B ((b.drop 11).take (O.val ((b.drop 1).take 2)))⟩,O.val ((b.drop 1).take 2) + 15,0)
def recs:Nat → List UInt8 → Nat → Nat → List (Rc × Nat)
  | 0,_,_,_=>[]
  | f + 1,l,at_,seq=>if (dec l).2.2 ≠ 0 ∨ (dec l).2.1 = 0 ∨ (dec l).1.seq ≠ seq then [] else ((dec l).1,at_ + (dec l).2.1) :: recs f (l.drop (dec l).2.1) (at_ + (dec l).2.1) (seq + 1)
def replay (b:List UInt8):List Rc × Nat:=((recs b.length b 0 0).map (·.1),((recs b.length b 0 0).getLast?.map (·.2)).getD 0)
def encAll:List Rc → Nat → List UInt8 → List UInt8 × Int
  | [],_,b=>(b,0)
  | r :: t,i,b=>if code { r with seq:=i } ≠ 0 then ([],code { r with seq:=i }) else encAll t (i + 1) (b ++ enc { r with seq:=i })
end R
namespace S
def has (l:List ByteArray) (x:ByteArray):Bool:=l.any fun y=>decide (y = x)
theorem has_iff {l:List ByteArray} {x:ByteArray}:has l x = true ↔ x ∈ l:=by
  unfold has
  rw [List.any_eq_true]
  exact ⟨fun ⟨y,hy,e⟩=>of_decide_eq_true e ▸ hy,fun h=>⟨x,h,decide_eq_true rfl⟩⟩
def logN:ByteArray:=⟨#[108,111,103]⟩
def newN:ByteArray:=⟨#[108,111,103,46,110,101,119]⟩
def steps:D.Dsk → List (D.Dsk → D.Dsk × Int) → D.Dsk × Nat × Int
  | s,[]=>(s,0,0)
  | s,f :: r=>if (f s).2 ≠ 0 then ((f s).1,0,(f s).2) else ((steps (f s).1 r).1,(steps (f s).1 r).2.1 + 1,(steps (f s).1 r).2.2)
def moves (b:List UInt8):List (D.Dsk → D.Dsk × Int):=[fun d=>d.create newN,fun d=>d.append newN b,fun d=>d.sync newN,fun d=>d.rename newN logN]
def rewrite (d:D.Dsk) (count:Nat) (list:List R.Rc):D.Dsk × Nat × Int :=
  if (R.encAll list 0 []).2 ≠ 0 then (d,count,(R.encAll list 0 []).2)
  else if (steps d (moves (R.encAll list 0 []).1)).2.1 = 4 then ((steps d (moves (R.encAll list 0 []).1)).1.syncNames.1,list.length,(steps d (moves (R.encAll list 0 []).1)).1.syncNames.2)
  else if (steps d (moves (R.encAll list 0 []).1)).2.1 = 0 then ((steps d (moves (R.encAll list 0 []).1)).1,count,(steps d (moves (R.encAll list 0 []).1)).2.2)
  else (((steps d (moves (R.encAll list 0 []).1)).1.remove newN).1,count,(steps d (moves (R.encAll list 0 []).1)).2.2)
def add (d:D.Dsk) (count:Nat) (op no:Int) (id:ByteArray):D.Dsk × Nat × Int :=
  if R.code ⟨count,op,no,id⟩ ≠ 0 then (d,count,R.code ⟨count,op,no,id⟩)
  else if (d.append logN (R.enc ⟨count,op,no,id⟩)).2 ≠ 0 then ((d.append logN (R.enc ⟨count,op,no,id⟩)).1,count,(d.append logN (R.enc ⟨count,op,no,id⟩)).2)
  else (((d.append logN (R.enc ⟨count,op,no,id⟩)).1.sync logN).1,count + 1,((d.append logN (R.enc ⟨count,op,no,id⟩)).1.sync logN).2)
def firsts:List (D.Dsk → D.Dsk × Int):=[fun d=>d.create logN,fun d=>d.sync logN,fun d=>d.syncNames]
def logOpen (d:D.Dsk):D.Dsk × Nat × List R.Rc × Int :=
  let x:=if has d.list newN then d.remove newN else (d,0)
  if x.2 ≠ 0 then (x.1,0,[],x.2) else
  let r:=x.1.read logN
  let y:D.Dsk × Int:=if r.2 = 90 then ((steps x.1 firsts).1,(steps x.1 firsts).2.2) else (x.1,r.2)
  if y.2 ≠ 0 then (y.1,0,[],y.2) else
  let p:=R.replay r.1
  if p.2 < r.1.length then
    let z:=rewrite y.1 0 p.1
    if z.2.2 ≠ 0 then (z.1,0,[],z.2.2) else (z.1,p.1.length,p.1,0)
  else (y.1,p.1.length,p.1,0)
def hx (i:Nat):UInt8:=if i < 10 then UInt8.ofNat (48 + i) else UInt8.ofNat (87 + i)
def path (no:Nat):ByteArray:=if no < 4096 then ⟨#[111,47,hx (no / 1024),hx (no / 64 % 16),47,hx (no % 64 / 16),hx (no % 16)]⟩ else ⟨#[]⟩
def isO (nm:ByteArray):Bool:=decide ((L nm).take 2 = [111,47])
structure Sto where
  d:D.Dsk
  count:Nat
  tab:D.NM
  used:List Bool
def read (d:D.Dsk) (no:Nat):Option O.Ent:=if (d.read (path no)).2 ≠ 0 then none else O.dec (d.read (path no)).1
def idOf (E:O.Ent):ByteArray:=E.k ++ ⟨#[10]⟩ ++ E.v
def sound (d:D.Dsk) (slots:Nat) (p:ByteArray × Nat):Bool:=decide (p.2 < slots) && (match read d p.2 with | some E=>decide (idOf E = p.1) | none=>false)
def records (t:D.NM):List R.Rc:=t.map fun p=>⟨0,1,p.2,p.1⟩
def Sto.rewrite (s:Sto):Sto × Int:=({ s with d:=(S.rewrite s.d s.count (records s.tab)).1,count:=(S.rewrite s.d s.count (records s.tab)).2.1 },(S.rewrite s.d s.count (records s.tab)).2.2)
def Sto.tidy (s:Sto):Sto:=if s.count ≤ 2 * s.tab.length + 16 then s else s.rewrite.1
def tabOf (list:List R.Rc):D.NM:=list.foldl (fun t r=>if r.op = 1 then D.put t r.id r.no.toNat else D.del t r.id) []
def marks (slots:Nat) (t:D.NM):List Bool:=(List.range slots).map fun no=>t.any fun p=>decide (p.2 = no)
def sweep (d:D.Dsk) (t:D.NM):D.Dsk:=d.list.foldl (fun d nm=>if (t.all fun p=>decide (path p.2 ≠ nm)) && isO nm then (d.remove nm).1 else d) d
def open_ (d:D.Dsk) (slots:Int):D.Dsk × Option Sto × Int :=
  if slots < 0 ∨ 4096 < slots then (d,none,131) else
  let l:=logOpen d
  if l.2.2.2 ≠ 0 then (l.1,none,l.2.2.2) else
  let t0:=tabOf l.2.2.1
  let t:=t0.filter (sound l.1 slots.toNat)
  let s:Sto:=⟨l.1,l.2.1,t,marks slots.toNat t⟩
  let x:=if t.length < t0.length then s.rewrite else (s,0)
  if x.2 ≠ 0 then (x.1.d,none,x.2) else
  let s2:Sto:={ x.1 with d:=sweep x.1.d t }
  (s2.tidy.d,some s2.tidy,0)
def lay (d:D.Dsk) (p:ByteArray) (b:List UInt8):D.Dsk × Bool × Int :=
  let x:=if has d.list p then d.remove p else (d,0)
  if x.2 ≠ 0 then (x.1,false,x.2) else
  let y:=x.1.create p
  if y.2 ≠ 0 then (y.1,false,y.2) else
  let z:=y.1.append p b
  if z.2 ≠ 0 then (z.1,true,z.2) else
  let u:=z.1.sync p
  if u.2 ≠ 0 then (u.1,true,u.2) else (u.1.syncNames.1,true,u.1.syncNames.2)
def Sto.free (s:Sto) (no:Nat):Sto:={ s with d:=(s.d.remove (path no)).1,used:=s.used.set no false }
def encE (E:O.Ent):Int:=objE E.k E.v E.s E.r E.m E.fs E.body.length E.asked E.got
def encB (E:O.Ent):List UInt8:=objB E.k E.v E.s E.r E.m E.fs E.body E.asked E.got
def Sto.freed (s:Sto) (id:ByteArray):Sto:=match D.find s.tab id with
  | some old=>s.free old
  | none=>s
def Sto.took (s:Sto) (no:Nat) (id:ByteArray):Sto:={ s with tab:=D.put s.tab id no,used:=s.used.set no true }
def Sto.entered (s:Sto) (no:Nat) (id:ByteArray) (x:D.Dsk × Bool × Int):Sto × Int :=
  let y:D.Dsk × Nat × Int:=if x.2.2 = 0 then add x.1 s.count 1 no id else (x.1,s.count,x.2.2)
  if y.2.1 = s.count then ({ s with d:=if x.2.1 then (y.1.remove (path no)).1 else y.1 },y.2.2) else
  (((({ s with d:=y.1,count:=y.2.1 }:Sto).freed id).took no id).tidy,y.2.2)
def Sto.put (s:Sto) (E:O.Ent):Sto × Int :=
  if encE E ≠ 0 then (s,encE E) else
  if 4096 < (idOf E).size then (s,101) else
  match s.used.findIdx? (fun x=>x = false) with
  | none=>(s,130)
  | some no=>s.entered no (idOf E) (lay s.d (path no) (encB E))
def Sto.drop (s:Sto) (id:ByteArray):Sto × Int :=
  match D.find s.tab id with
  | none=>(s,90)
  | some no =>
    let y:=add s.d s.count 2 no id
    if y.2.1 = s.count then ({ s with d:=y.1 },y.2.2) else
    ((({ s with d:=y.1,count:=y.2.1,tab:=D.del s.tab id }:Sto).free no).tidy,y.2.2)
def Sto.get (s:Sto) (id:ByteArray):Option O.Ent :=
  match D.find s.tab id with
  | none=>none
  | some no=>read s.d no
def Sto.ids (s:Sto):List ByteArray:=s.tab.map (·.1)
end S
end Go.Proofs.YtkempjcphpnocaaGreatDoor
