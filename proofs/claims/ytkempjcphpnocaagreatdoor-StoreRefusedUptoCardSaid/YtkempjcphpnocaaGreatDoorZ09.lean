/- A map from names to files in memory, told by a rising list of names and numbers. No condition: plain lemmas over the kit's words on maps. The log's records, the log on the disk, and the store over both, as plain states. No program here. How far a store's steps take its disk. No program here. -/
import Derived.Test.YtkempjcphpnocaaGreatDoorZ01
import Derived.Test.YtkempjcphpnocaaGreatDoorLib
import Derived.Maps.OwnSet
import Derived.Maps.OwnOps
import Derived.Maps.Range
import Derived.Maps.RangeWalk
import Derived.Sort.KeysCollected
import Derived.Test.YtkempjcphpnocaaGreatDoorObjA
import Derived.Test.YtkempjcphpnocaaGreatDoorDiskQ
namespace Go.Proofs.YtkempjcphpnocaaGreatDoor
open Go Go.RowKit Go.Maps

namespace D
theorem before_lt : ∀ a b : List UInt8, bytesBefore a b = decide (a < b)
  | [], [] => by simp [bytesBefore]
  | [], _ :: _ => by simp [bytesBefore]
  | _ :: _, [] => by simp [bytesBefore]
  | a :: r, b :: s => by
    unfold bytesBefore
    rw [before_lt r s, Bool.eq_iff_iff]
    simp only [Bool.or_eq_true, decide_eq_true_eq, Bool.and_eq_true, beq_iff_eq, List.cons_lt_cons_iff]
theorem ltB_before (a b : ByteArray) : bytesBefore (L a) (L b) = ltB a b := before_lt _ _
/-- How a pointer to a file reads: by its block. -/
def ptrR : Value → Option (DataW Unit × List MemPlace)
  | .pointer (some ⟨b, 0, none⟩) => some (.lit (.int .i64 b), [])
  | .pointer none => some (.nil, [])
  | _ => none
theorem ptrR_inv {v : Value} {b : Nat} {ps : List MemPlace} (h : ptrR v = some (.lit (.int .i64 b), ps)) : v = .pointer (some ⟨b, 0, none⟩) := by
  unfold ptrR at h
  split at h
  · simp only [Option.some.injEq, Prod.mk.injEq, DataW.lit.injEq, Lit.int.injEq, true_and] at h
    have : (_ : Nat) = b := Int.ofNat.inj h.1
    rw [this]
  · cases h
  · cases h
theorem ptrR_nil {v : Value} {ps : List MemPlace} (h : ptrR v = some (.nil, ps)) : v = .pointer none := by
  unfold ptrR at h
  split at h
  · cases h
  · rfl
  · cases h
def key (nm : ByteArray) : Lit := .string (L nm)
def ent (fa : Nat → Nat) (p : ByteArray × Nat) : Lit × DataW Unit := (key p.1, .lit (.int .i64 (fa p.2)))
/-- What a map of names reads as. -/
def datum (fa : Nat → Nat) (l : NM) : DataW Unit := .map (l.map (ent fa))
theorem same_key (a b : ByteArray) : (key a).sameKey (key b) = decide (a = b) := by
  unfold key Lit.sameKey
  rw [Bool.eq_iff_iff]
  simp only [beq_iff_eq, decide_eq_true_eq]
  exact ⟨L_inj, fun h => by rw [h]⟩
theorem datum_del (fa : Nat → Nat) (l : NM) (nm : ByteArray) : (datum fa l).del (key nm) = datum fa (del l nm) := by
  unfold datum DataW.del D.del
  dsimp only
  congr 1
  rw [List.filter_map]
  congr 1
  apply List.filter_congr
  intro p _
  show (!((ent fa p).1.sameKey (key nm))) = _
  unfold ent
  dsimp only
  rw [same_key]
  simp
theorem insert_map (fa : Nat → Nat) (nm : ByteArray) (no : Nat) : ∀ l : NM, DataW.insert (ent fa (nm, no)) (l.map (ent fa)) = (ins l nm no).map (ent fa)
  | [] => rfl
  | p :: r => by
    have e : (ent fa (nm, no)).1.before (ent fa p).1 = ltB nm p.1 := ltB_before _ _
    rw [List.map_cons]
    unfold DataW.insert ins
    rw [e]
    split
    · rfl
    · rw [List.map_cons, insert_map fa nm no r]
theorem datum_put (fa : Nat → Nat) (l : NM) (nm : ByteArray) (no : Nat) : (datum fa l).put (key nm) (.lit (.int .i64 (fa no))) = datum fa (put l nm no) := by
  have h := datum_del fa l nm
  unfold datum DataW.del at h
  dsimp only at h
  have h2 : (l.map (ent fa)).filter (fun p => !p.1.sameKey (key nm)) = (del l nm).map (ent fa) := by injection h
  unfold datum DataW.put
  dsimp only
  rw [h2]
  exact congrArg DataW.map (insert_map fa nm no (del l nm))
theorem datum_at (fa : Nat → Nat) (l : NM) (nm : ByteArray) (z : DataW Unit) : (datum fa l).atKey (key nm) z = match find l nm with | some no => .lit (.int .i64 (fa no)) | none => z := by
  unfold datum DataW.atKey find
  dsimp only
  induction l with
  | nil => rfl
  | cons p r ih =>
    rw [List.map_cons, List.find?_cons, List.find?_cons]
    have e : (ent fa p).1.sameKey (key nm) = decide (p.1 = nm) := same_key _ _
    rw [e]
    cases h : decide (p.1 = nm) with
    | true => rfl
    | false => exact ih
theorem keys_datum (fa : Nat → Nat) (l : NM) : Go.strKeys (datum fa l) = l.map fun p => L p.1 := by
  unfold datum Go.strKeys
  dsimp only
  rw [List.map_map]
  rfl
theorem keys_sorted {fa : Nat → Nat} {l : NM} (h : Up l) {ss : List (List UInt8)} (hp : ss.Perm (Go.strKeys (datum fa l))) : ss.mergeSort (fun x y => decide (x ≤ y)) = l.map fun p => L p.1 := by
  rw [keys_datum] at hp
  have h1 : ss.mergeSort (fun x y => decide (x ≤ y)) = (l.map fun p => L p.1).mergeSort (fun x y => decide (x ≤ y)) := Go.mergeSort_of_perm hp
  rw [h1]
  apply List.mergeSort_of_pairwise
  rw [List.pairwise_map]
  refine h.imp fun {a b} hab => ?_
  exact decide_eq_true (List.le_of_lt (of_decide_eq_true hab))
end D
end Go.Proofs.YtkempjcphpnocaaGreatDoor

namespace Go.Proofs.YtkempjcphpnocaaGreatDoor

namespace R
/-- A record of the log. -/
structure Rc where
  seq : Int
  op : Int
  no : Int
  id : ByteArray
def Rc.zero : Rc := ⟨0, 0, 0, ⟨#[]⟩⟩
def word (v : Int) : Bool := decide (0 ≤ v ∧ v ≤ 4294967295)
def code (r : Rc) : Int := if (decide (r.op = 1) || decide (r.op = 2)) && word r.seq && word r.no then (if r.id.size ≤ 4096 then 0 else 101) else 100
def body (r : Rc) : List UInt8 := UInt8.ofNat (192 + r.op.toNat) :: (beN r.id.size 2 ++ (beN r.seq.toNat 4 ++ (beN r.no.toNat 4 ++ L r.id)))
def enc (r : Rc) : List UInt8 := if code r = 0 then body r ++ beN (sumN (body r)) 4 else []
/-- The record at the beginning, its length, the code. -/
def dec (b : List UInt8) : Rc × Nat × Int :=
  if b.length = 0 then (Rc.zero, 0, 0)
  else if b.headD 0 ≠ 193 ∧ b.headD 0 ≠ 194 then (Rc.zero, 0, 100)
  else if b.length < 3 then (Rc.zero, 0, 0)
  else if 4096 < O.val ((b.drop 1).take 2) then (Rc.zero, 0, 100)
  else if b.length < O.val ((b.drop 1).take 2) + 15 then (Rc.zero, 0, 0)
  else if O.val ((b.drop (O.val ((b.drop 1).take 2) + 11)).take 4) ≠ sumN (b.take (O.val ((b.drop 1).take 2) + 11)) then (Rc.zero, 0, 100)
  else (⟨(O.val ((b.drop 3).take 4) : Nat), ((b.headD 0).toNat : Int) - 192, (O.val ((b.drop 7).take 4) : Nat), B ((b.drop 11).take (O.val ((b.drop 1).take 2)))⟩, O.val ((b.drop 1).take 2) + 15, 0)
/-- The bytes of a list of records, numbered anew. -/
def encAll : List Rc → Nat → List UInt8 → List UInt8 × Int
  | [], _, b => (b, 0)
  | r :: t, i, b => if code { r with seq := i } ≠ 0 then ([], code { r with seq := i }) else encAll t (i + 1) (b ++ enc { r with seq := i })
end R

namespace S
/-- Does a name stand in a list? -/
def has (l : List ByteArray) (x : ByteArray) : Bool := l.any fun y => decide (y = x)
theorem has_iff {l : List ByteArray} {x : ByteArray} : has l x = true ↔ x ∈ l := by
  unfold has
  rw [List.any_eq_true]
  exact ⟨fun ⟨y, hy, e⟩ => of_decide_eq_true e ▸ hy, fun h => ⟨x, h, decide_eq_true rfl⟩⟩
def logN : ByteArray := ⟨#[108, 111, 103]⟩
def newN : ByteArray := ⟨#[108, 111, 103, 46, 110, 101, 119]⟩
/-- Steps up to the first that answers an error; how many answered OK. -/
def steps : D.Dsk → List (D.Dsk → D.Dsk × Int) → D.Dsk × Nat × Int
  | s, [] => (s, 0, 0)
  | s, f :: r => if (f s).2 ≠ 0 then ((f s).1, 0, (f s).2) else ((steps (f s).1 r).1, (steps (f s).1 r).2.1 + 1, (steps (f s).1 r).2.2)
def moves (b : List UInt8) : List (D.Dsk → D.Dsk × Int) := [fun d => d.create newN, fun d => d.append newN b, fun d => d.sync newN, fun d => d.rename newN logN]
/-- The log written anew: the disk, the number of records, the code. -/
def rewrite (d : D.Dsk) (count : Nat) (list : List R.Rc) : D.Dsk × Nat × Int :=
  if (R.encAll list 0 []).2 ≠ 0 then (d, count, (R.encAll list 0 []).2)
  else if (steps d (moves (R.encAll list 0 []).1)).2.1 = 4 then ((steps d (moves (R.encAll list 0 []).1)).1.syncNames.1, list.length, (steps d (moves (R.encAll list 0 []).1)).1.syncNames.2)
  else if (steps d (moves (R.encAll list 0 []).1)).2.1 = 0 then ((steps d (moves (R.encAll list 0 []).1)).1, count, (steps d (moves (R.encAll list 0 []).1)).2.2)
  else (((steps d (moves (R.encAll list 0 []).1)).1.remove newN).1, count, (steps d (moves (R.encAll list 0 []).1)).2.2)
/-- One record more. -/
def add (d : D.Dsk) (count : Nat) (op no : Int) (id : ByteArray) : D.Dsk × Nat × Int :=
  if R.code ⟨count, op, no, id⟩ ≠ 0 then (d, count, R.code ⟨count, op, no, id⟩)
  else if (d.append logN (R.enc ⟨count, op, no, id⟩)).2 ≠ 0 then ((d.append logN (R.enc ⟨count, op, no, id⟩)).1, count, (d.append logN (R.enc ⟨count, op, no, id⟩)).2)
  else (((d.append logN (R.enc ⟨count, op, no, id⟩)).1.sync logN).1, count + 1, ((d.append logN (R.enc ⟨count, op, no, id⟩)).1.sync logN).2)
def firsts : List (D.Dsk → D.Dsk × Int) := [fun d => d.create logN, fun d => d.sync logN, fun d => d.syncNames]
def hx (i : Nat) : UInt8 := if i < 10 then UInt8.ofNat (48 + i) else UInt8.ofNat (87 + i)
def path (no : Nat) : ByteArray := if no < 4096 then ⟨#[111, 47, hx (no / 1024), hx (no / 64 % 16), 47, hx (no % 64 / 16), hx (no % 16)]⟩ else ⟨#[]⟩
def isO (nm : ByteArray) : Bool := decide ((L nm).take 2 = [111, 47])
/-- A store: the disk, the number of the log's records, the table, the numbers that are taken. -/
structure Sto where
  d : D.Dsk
  count : Nat
  tab : D.NM
  used : List Bool
def read (d : D.Dsk) (no : Nat) : Option O.Ent := if (d.read (path no)).2 ≠ 0 then none else O.dec (d.read (path no)).1
def idOf (E : O.Ent) : ByteArray := E.k ++ ⟨#[10]⟩ ++ E.v
def records (t : D.NM) : List R.Rc := t.map fun p => ⟨0, 1, p.2, p.1⟩
def Sto.rewrite (s : Sto) : Sto × Int := ({ s with d := (S.rewrite s.d s.count (records s.tab)).1, count := (S.rewrite s.d s.count (records s.tab)).2.1 }, (S.rewrite s.d s.count (records s.tab)).2.2)
def Sto.tidy (s : Sto) : Sto := if s.count ≤ 2 * s.tab.length + 16 then s else s.rewrite.1
def marks (slots : Nat) (t : D.NM) : List Bool := (List.range slots).map fun no => t.any fun p => decide (p.2 = no)
/-- An entry's file laid: the disk, whether it was created, the code. -/
def lay (d : D.Dsk) (p : ByteArray) (b : List UInt8) : D.Dsk × Bool × Int :=
  let x := if has d.list p then d.remove p else (d, 0)
  if x.2 ≠ 0 then (x.1, false, x.2) else
  let y := x.1.create p
  if y.2 ≠ 0 then (y.1, false, y.2) else
  let z := y.1.append p b
  if z.2 ≠ 0 then (z.1, true, z.2) else
  let u := z.1.sync p
  if u.2 ≠ 0 then (u.1, true, u.2) else (u.1.syncNames.1, true, u.1.syncNames.2)
def Sto.free (s : Sto) (no : Nat) : Sto := { s with d := (s.d.remove (path no)).1, used := s.used.set no false }
def encE (E : O.Ent) : Int := objE E.k E.v E.s E.r E.m E.fs E.body.length E.asked E.got
def encB (E : O.Ent) : List UInt8 := objB E.k E.v E.s E.r E.m E.fs E.body E.asked E.got
/-- An Id's old number given back; a number taken for an Id. -/
def Sto.freed (s : Sto) (id : ByteArray) : Sto := match D.find s.tab id with
  | some old => s.free old
  | none => s
def Sto.took (s : Sto) (no : Nat) (id : ByteArray) : Sto := { s with tab := D.put s.tab id no, used := s.used.set no true }
/-- What a Put does behind the laying of its file. -/
def Sto.entered (s : Sto) (no : Nat) (id : ByteArray) (x : D.Dsk × Bool × Int) : Sto × Int :=
  let y : D.Dsk × Nat × Int := if x.2.2 = 0 then add x.1 s.count 1 no id else (x.1, s.count, x.2.2)
  if y.2.1 = s.count then ({ s with d := if x.2.1 then (y.1.remove (path no)).1 else y.1 }, y.2.2) else
  (((({ s with d := y.1, count := y.2.1 } : Sto).freed id).took no id).tidy, y.2.2)
def Sto.put (s : Sto) (E : O.Ent) : Sto × Int :=
  if encE E ≠ 0 then (s, encE E) else
  if 4096 < (idOf E).size then (s, 101) else
  match s.used.findIdx? (fun x => x = false) with
  | none => (s, 130)
  | some no => s.entered no (idOf E) (lay s.d (path no) (encB E))
def Sto.drop (s : Sto) (id : ByteArray) : Sto × Int :=
  match D.find s.tab id with
  | none => (s, 90)
  | some no =>
    let y := add s.d s.count 2 no id
    if y.2.1 = s.count then ({ s with d := y.1 }, y.2.2) else
    ((({ s with d := y.1, count := y.2.1, tab := D.del s.tab id } : Sto).free no).tidy, y.2.2)
def Sto.get (s : Sto) (id : ByteArray) : Option O.Ent :=
  match D.find s.tab id with
  | none => none
  | some no => read s.d no
def Sto.ids (s : Sto) : List ByteArray := s.tab.map (·.1)
end S
end Go.Proofs.YtkempjcphpnocaaGreatDoor

namespace Go.Proofs.YtkempjcphpnocaaGreatDoor

namespace S
open D (Fit)
variable {k : Nat} {d : D.Dsk} {s : Sto}
theorem steps_fit : ∀ (l : List (D.Dsk → D.Dsk × Int)) {k : Nat} {d : D.Dsk}, (∀ f ∈ l, ∀ (k : Nat) (d : D.Dsk), Fit k d → Fit (k + 1) (f d).1) → Fit k d → Fit (k + l.length) (steps d l).1
  | [], _, _, _, h => h
  | f :: r, k, d, hf, h => by
    have h1 := hf f (by simp) k d h
    unfold steps
    rw [List.length_cons]
    split
    · exact h1.mono (by omega)
    · exact (steps_fit r (fun g hg => hf g (List.mem_cons_of_mem _ hg)) h1).mono (by omega)
theorem moves_fit (b : List UInt8) : ∀ f ∈ moves b, ∀ (k : Nat) (d : D.Dsk), Fit k d → Fit (k + 1) (f d).1 := by
  intro f hf k d h
  unfold moves at hf
  simp only [List.mem_cons, List.not_mem_nil, or_false] at hf
  rcases hf with rfl | rfl | rfl | rfl
  · exact h.create _
  · exact h.append _ _
  · exact h.sync _
  · exact h.rename _ _
theorem firsts_fit : ∀ f ∈ firsts, ∀ (k : Nat) (d : D.Dsk), Fit k d → Fit (k + 1) (f d).1 := by
  intro f hf k d h
  unfold firsts at hf
  simp only [List.mem_cons, List.not_mem_nil, or_false] at hf
  rcases hf with rfl | rfl | rfl
  · exact h.create _
  · exact h.sync _
  · exact h.syncNames
theorem rewrite_fit (h : Fit k d) (count : Nat) (list : List R.Rc) : Fit (k + 5) (rewrite d count list).1 := by
  have h1 := steps_fit (moves (R.encAll list 0 []).1) (moves_fit _) h
  have h2 : (moves (R.encAll list 0 []).1).length = 4 := rfl
  rw [h2] at h1
  unfold rewrite
  split
  · exact h.mono (by omega)
  · split
    · exact h1.syncNames
    · split
      · exact h1.mono (by omega)
      · exact h1.remove _
theorem add_fit (h : Fit k d) (count : Nat) (op no : Int) (id : ByteArray) : Fit (k + 2) (add d count op no id).1 := by
  unfold add
  split
  · exact h.mono (by omega)
  · split
    · exact (h.append _ _).mono (by omega)
    · exact (h.append _ _).sync _
theorem tidy_fit (h : Fit k s.d) : Fit (k + 5) s.tidy.d := by
  unfold Sto.tidy
  split
  · exact h.mono (by omega)
  · exact rewrite_fit h _ _
theorem lay_fit (h : Fit k d) (p : ByteArray) (b : List UInt8) : Fit (k + 5) (lay d p b).1 := by
  unfold lay
  have hx : Fit (k + 1) (if has d.list p then d.remove p else (d, 0)).1 := by
    split
    · exact h.remove _
    · exact h.mono (by omega)
  generalize (if has d.list p then d.remove p else (d, 0)) = x at *
  dsimp only
  split
  · exact hx.mono (by omega)
  · split
    · exact (hx.create _).mono (by omega)
    · split
      · exact ((hx.create _).append _ _).mono (by omega)
      · split
        · exact (((hx.create _).append _ _).sync _).mono (by omega)
        · exact (((hx.create _).append _ _).sync _).syncNames
theorem free_fit (h : Fit k s.d) (no : Nat) : Fit (k + 1) (s.free no).d := h.remove _
theorem entered_fit (no : Nat) (id : ByteArray) (x : D.Dsk × Bool × Int) (h : Fit k x.1) : Fit (k + 8) (s.entered no id x).1.d := by
  unfold Sto.entered
  have hy : Fit (k + 2) (if x.2.2 = 0 then add x.1 s.count 1 no id else (x.1, s.count, x.2.2) : D.Dsk × Nat × Int).1 := by
    split
    · exact add_fit h _ _ _ _
    · exact h.mono (by omega)
  generalize (if x.2.2 = 0 then add x.1 s.count 1 no id else (x.1, s.count, x.2.2) : D.Dsk × Nat × Int) = y at *
  dsimp only
  split
  · split
    · exact (hy.remove _).mono (by omega)
    · exact hy.mono (by omega)
  · refine tidy_fit (k := k + 3) ?_
    show Fit (k + 3) (({ s with d := y.1, count := y.2.1 } : Sto).freed id).d
    unfold Sto.freed
    split
    · exact free_fit (s := { s with d := y.1, count := y.2.1 }) hy _
    · exact hy.mono (by omega)
theorem put_fit (h : Fit k s.d) (E : O.Ent) : Fit (k + 13) (s.put E).1.d := by
  unfold Sto.put
  split
  · exact h.mono (by omega)
  · split
    · exact h.mono (by omega)
    · split
      · exact h.mono (by omega)
      · exact entered_fit _ _ _ (lay_fit h _ _)
end S
end Go.Proofs.YtkempjcphpnocaaGreatDoor
