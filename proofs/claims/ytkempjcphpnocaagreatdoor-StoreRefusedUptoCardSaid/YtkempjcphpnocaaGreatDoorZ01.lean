/- The walks of hop.Ask and of the document's. Conditions: a list of bulk at most 2^20, texts and bodies of at most 2^20 bytes, a number of 64 bits, the library's table of powers of ten. The walk of the document's Ask. Conditions: a list of bulk at most 2^20, texts and bodies of at most 2^20 bytes, a number of 64 bits, the library's table of powers of ten. The walk of the law HopAsks. Conditions: a list of bulk at most 2^20, texts and bodies of at most 2^20 bytes, a number of 64 bits, the library's table of powers of ten. The stand-in disk as a plain state: its steps, what is read of it, what a loss of power leaves; and the document's disk over the same. No program here. The walks of the document's body and Request (printed by gen/msgr.py). Conditions: a row of at most 2^28 bytes. The walk of the document's Request of whole messages (printed by gen/msgs.py). Conditions: a row of at most 2^28 bytes. The walk of SameMessage, of two messages that read alike (printed by gen/msgt.py). Conditions: lists of at most 2^40 elements. The walks of frame.OfResponse and the document's Bare and OfResponse (printed by gen/rframe.py). Conditions: a list of bulk at most 2^30, a status of 64 bits. A response's message as a plain function on bytes; the walks of inbox.response and inbox.Response (printed by gen/iresp.py). Conditions: a row of at most 2^28 bytes; the library's two tables of UTF-8; internal/bytealg.MaxLen; strconv's two error variables. The walk of the document's Response (printed by gen/irespr.py). Conditions: a row of at most 2^28 bytes. The walk of the document's Encode (layer 12). Conditions: texts of at most 2^30 bytes, a list of fields of bulk at most 2^30. -/
import Derived.Test.YtkempjcphpnocaaGreatDoorZ02
import Derived.Test.YtkempjcphpnocaaGreatDoorZ16
import Derived.Test.YtkempjcphpnocaaGreatDoorZ03
import Derived.Test.YtkempjcphpnocaaGreatDoorRowA
import Derived.Test.YtkempjcphpnocaaGreatDoorPlainB
import Derived.Outline
import Derived.Test.YtkempjcphpnocaaGreatDoorZ15
import Derived.Test.YtkempjcphpnocaaGreatDoorZ00
import Derived.Test.YtkempjcphpnocaaGreatDoorReplyA
import Derived.Test.YtkempjcphpnocaaGreatDoorZ11
import Derived.IntWalk
import Derived.Deep.QuietTactic
import Derived.BigQuiet
import Derived.Test.YtkempjcphpnocaaGreatDoorHeadA
import Derived.Test.YtkempjcphpnocaaGreatDoorZ04
import Derived.Deep.CutBlock
import Derived.Deep.DeepCutAuto
import Derived.Test.YtkempjcphpnocaaGreatDoorHeadB
import Derived.Test.YtkempjcphpnocaaGreatDoorHeadResp
import Derived.Test.YtkempjcphpnocaaGreatDoorObjEnc
import Derived.Test.YtkempjcphpnocaaGreatDoorPResp
namespace Go.Proofs.YtkempjcphpnocaaGreatDoor
open Go.RowKit

namespace F
def plain (s : ByteArray) : Bool := decide (L s = [71, 69, 84]) || decide (L s = [72, 69, 65, 68]) || decide (L s = [79, 80, 84, 73, 79, 78, 83]) || decide (L s = [84, 82, 65, 67, 69])
end F
end Go.Proofs.YtkempjcphpnocaaGreatDoor

namespace Go.Proofs.YtkempjcphpnocaaGreatDoor

namespace D
/-- Names and the numbers of their files, by rising names. -/
abbrev NM := List (ByteArray × Nat)
def ltB (a b : ByteArray) : Bool := decide (L a < L b)
def okB (c : UInt8) : Bool := (decide (97 ≤ c.toNat) && decide (c.toNat ≤ 122)) || (decide (48 ≤ c.toNat) && decide (c.toNat ≤ 57)) || decide (c = 46) || decide (c = 45) || decide (c = 95) || decide (c = 47)
def good (s : ByteArray) : Bool := (L s).all okB && decide (1 ≤ s.size) && decide (s.size ≤ 64)
def find (l : NM) (nm : ByteArray) : Option Nat := (l.find? fun p => decide (p.1 = nm)).map (·.2)
def del (l : NM) (nm : ByteArray) : NM := l.filter fun p => decide (p.1 ≠ nm)
def ins : NM → ByteArray → Nat → NM
  | [], nm, no => [(nm, no)]
  | p :: r, nm, no => if ltB nm p.1 then (nm, no) :: p :: r else p :: ins r nm no
def put (l : NM) (nm : ByteArray) (no : Nat) : NM := ins (del l nm) nm no
/-- A change of names. -/
inductive Chg where
  | put (nm : ByteArray) (no : Nat)
  | del (nm : ByteArray)
  | ren (a b : ByteArray) (no : Nat)
def Chg.app (l : NM) : Chg → NM
  | .put nm no => D.put l nm no
  | .del nm => D.del l nm
  | .ren a b no => D.put (D.del l a) b no
/-- The files that a change speaks of are among the first n. -/
def Chg.within (n : Nat) : Chg → Prop
  | .put _ no => no < n
  | .del _ => True
  | .ren _ _ no => no < n
structure Dsk where
  now : NM
  safe : NM
  pend : List Chg
  data : List (List UInt8)
  firm : List Nat
  room : Int
  fails : List Int
  power : Int
  n : Int
def Dsk.down (s : Dsk) : Bool := decide (0 ≤ s.power) && decide (s.n = s.power)
def Dsk.size (s : Dsk) (no : Nat) : Nat := (s.data.getD no []).length
def Dsk.used (s : Dsk) : Nat := (s.now.map fun p => s.size p.2).sum
/-- A step begins: it is counted; what fails it. -/
def Dsk.begin (s : Dsk) (names : List ByteArray) : Dsk × Int :=
  if s.down then (s, 93)
  else ({ s with n := s.n + 1 }, if decide (s.n + 1 ∈ s.fails) then 94 else if names.all good then 0 else 95)
def Dsk.alter (s : Dsk) (c : Chg) : Dsk := { s with now := c.app s.now, pend := s.pend ++ [c] }
def Dsk.create (s : Dsk) (nm : ByteArray) : Dsk × Int :=
  match s.begin [nm] with
  | (s1, e) => if e ≠ 0 then (s1, e) else if (find s1.now nm).isSome then (s1, 91)
    else (({ s1 with data := s1.data ++ [[]], firm := s1.firm ++ [0] } : Dsk).alter (.put nm s1.data.length), 0)
/-- A step on a file that is there. -/
def Dsk.on (s : Dsk) (nm : ByteArray) (more : List ByteArray) (f : Dsk → Nat → Dsk × Int) : Dsk × Int :=
  match s.begin (more ++ [nm]) with
  | (s1, e) => if e ≠ 0 then (s1, e) else match find s1.now nm with
    | none => (s1, 90)
    | some no => f s1 no
def Dsk.append (s : Dsk) (nm : ByteArray) (d : List UInt8) : Dsk × Int :=
  s.on nm [] fun s no => if 0 < d.length ∧ s.room < (s.used : Int) + d.length then (s, 92) else ({ s with data := s.data.set no (s.data.getD no [] ++ d) }, 0)
def Dsk.sync (s : Dsk) (nm : ByteArray) : Dsk × Int := s.on nm [] fun s no => ({ s with firm := s.firm.set no (s.size no) }, 0)
def Dsk.syncNames (s : Dsk) : Dsk × Int :=
  match s.begin [] with
  | (s1, e) => if e ≠ 0 then (s1, e) else ({ s1 with safe := s1.now, pend := [] }, 0)
def Dsk.rename (s : Dsk) (a b : ByteArray) : Dsk × Int := s.on a [b] fun s no => if a = b then (s, 0) else (s.alter (.ren a b no), 0)
def Dsk.remove (s : Dsk) (nm : ByteArray) : Dsk × Int := s.on nm [] fun s _ => (s.alter (.del nm), 0)
/-- A file's bytes, or why not. -/
def Dsk.read (s : Dsk) (nm : ByteArray) : List UInt8 × Int :=
  if s.down then ([], 93) else if good nm = false then ([], 95) else match find s.now nm with
  | none => ([], 90)
  | some no => (s.data.getD no [], 0)
def Dsk.list (s : Dsk) : List ByteArray := if s.down then [] else s.now.map (·.1)
/-- What a loss of power leaves: the safe names and the first so many changes; of each file the safe bytes and some more. -/
def Dsk.keepN (s : Dsk) (keep : List Int) (no : Nat) : Nat := s.firm.getD no 0 + (if no < keep.length then max 0 (min (keep.getD no 0) ((s.size no : Int) - s.firm.getD no 0)) else 0).toNat
def Dsk.namesLeft (s : Dsk) (k : Int) : NM := (s.pend.take k.toNat).foldl Chg.app s.safe
def Dsk.left (s : Dsk) (k : Int) (keep : List Int) : List (ByteArray × List UInt8) := (s.namesLeft k).map fun p => (p.1, (s.data.getD p.2 []).take (s.keepN keep p.2))
/-- Rising names. -/
def Up (l : NM) : Prop := l.Pairwise fun p q => ltB p.1 q.1 = true
/-- The files that a naming speaks of are there, each under one name at most. -/
structure Dsk.Ok (s : Dsk) : Prop where
  lens : s.firm.length = s.data.length
  upN : Up s.now
  upS : Up s.safe
  inN : ∀ p ∈ s.now, p.2 < s.data.length
  inS : ∀ p ∈ s.safe, p.2 < s.data.length
  inP : ∀ c ∈ s.pend, c.within s.data.length
  fold : s.now = s.pend.foldl Chg.app s.safe
  firms : ∀ no, no < s.data.length → s.firm.getD no 0 ≤ s.size no

/-! ### Laws of names -/
theorem lt_irrefl (a : ByteArray) : ltB a a = false := by
  unfold ltB
  exact decide_eq_false (List.lt_irrefl _)
theorem lt_trans {a b c : ByteArray} (h1 : ltB a b = true) (h2 : ltB b c = true) : ltB a c = true := by
  unfold ltB at *
  exact decide_eq_true (List.lt_trans (of_decide_eq_true h1) (of_decide_eq_true h2))
theorem L_inj {a b : ByteArray} (h : L a = L b) : a = b := by
  obtain ⟨a⟩ := a
  obtain ⟨b⟩ := b
  have : a = b := Array.toList_inj.1 h
  rw [this]
theorem lt_or {a b : ByteArray} (h : a ≠ b) : ltB a b = true ∨ ltB b a = true := by
  unfold ltB
  by_cases h1 : L a < L b
  · exact .inl (decide_eq_true h1)
  · by_cases h2 : L b < L a
    · exact .inr (decide_eq_true h2)
    · have := List.le_antisymm (show L a ≤ L b from h2) (show L b ≤ L a from h1)
      exact absurd (L_inj this) h
theorem mem_del {l : NM} {nm : ByteArray} {p : ByteArray × Nat} : p ∈ del l nm ↔ p ∈ l ∧ p.1 ≠ nm := by
  unfold del
  rw [List.mem_filter]
  simp
theorem up_del {l : NM} (h : Up l) (nm : ByteArray) : Up (del l nm) := List.Pairwise.sublist List.filter_sublist h
theorem mem_ins : ∀ {l : NM} {nm : ByteArray} {no : Nat} {p : ByteArray × Nat}, p ∈ ins l nm no ↔ p = (nm, no) ∨ p ∈ l
  | [], nm, no, p => by simp [ins]
  | q :: r, nm, no, p => by
    unfold ins
    split
    · simp
    · rw [List.mem_cons, List.mem_cons, mem_ins (l := r)]
      constructor
      · rintro (h | h | h)
        · exact .inr (.inl h)
        · exact .inl h
        · exact .inr (.inr h)
      · rintro (h | h | h)
        · exact .inr (.inl h)
        · exact .inl h
        · exact .inr (.inr h)
theorem up_ins : ∀ {l : NM} {nm : ByteArray} {no : Nat}, Up l → (∀ p ∈ l, p.1 ≠ nm) → Up (ins l nm no)
  | [], nm, no, _, _ => by unfold ins Up; exact List.pairwise_singleton _ _
  | q :: r, nm, no, h, hn => by
    have hq := List.pairwise_cons.1 h
    unfold ins
    split
    · rename_i hlt
      refine List.pairwise_cons.2 ⟨fun p hp => ?_, h⟩
      rcases List.mem_cons.1 hp with rfl | hp
      · exact hlt
      · exact lt_trans hlt (hq.1 p hp)
    · rename_i hlt
      refine List.pairwise_cons.2 ⟨fun p hp => ?_, up_ins hq.2 (fun p hp => hn p (List.mem_cons_of_mem _ hp))⟩
      rcases mem_ins.1 hp with rfl | hp
      · rcases lt_or (hn q (by simp)) with h1 | h1
        · exact h1
        · exact absurd h1 hlt
      · exact hq.1 p hp
theorem up_put {l : NM} (h : Up l) (nm : ByteArray) (no : Nat) : Up (put l nm no) := up_ins (up_del h nm) (fun _ hp => (mem_del.1 hp).2)
theorem mem_put {l : NM} {nm : ByteArray} {no : Nat} {p : ByteArray × Nat} : p ∈ put l nm no ↔ p = (nm, no) ∨ (p ∈ l ∧ p.1 ≠ nm) := by
  unfold put
  rw [mem_ins, mem_del]
theorem find_mem {l : NM} {nm : ByteArray} {no : Nat} (h : find l nm = some no) : (nm, no) ∈ l := by
  unfold find at h
  rw [Option.map_eq_some_iff] at h
  obtain ⟨p, hp, rfl⟩ := h
  have h1 := List.mem_of_find?_eq_some hp
  have h2 : p.1 = nm := by simpa using List.find?_some hp
  rw [← h2]
  exact h1
theorem find_none {l : NM} {nm : ByteArray} (h : find l nm = none) : ∀ p ∈ l, p.1 ≠ nm := by
  unfold find at h
  rw [Option.map_eq_none_iff, List.find?_eq_none] at h
  intro p hp
  simpa using h p hp
theorem up_app {l : NM} (h : Up l) (c : Chg) : Up (c.app l) := by
  cases c with
  | put nm no => exact up_put h nm no
  | del nm => exact up_del h nm
  | ren a b no => exact up_put (up_del h a) b no
/-- A step that is about a file: its code, and the file's number. -/
def Dsk.look (s : Dsk) (nm : ByteArray) (more : List ByteArray) : Dsk × Int × Option Nat :=
  match s.begin (more ++ [nm]) with
  | (s1, e) => if e ≠ 0 then (s1, e, none) else match find s1.now nm with
    | none => (s1, 90, none)
    | some no => (s1, 0, some no)
theorem Dsk.on_look (s : Dsk) (nm : ByteArray) (more : List ByteArray) (f : Dsk → Nat → Dsk × Int) :
    s.on nm more f = match s.look nm more with | (s1, _, some no) => f s1 no | (s1, e, none) => (s1, e) := by
  unfold Dsk.on Dsk.look
  cases s.begin (more ++ [nm]) with
  | mk s1 e =>
    dsimp only
    split
    · rfl
    · cases find s1.now nm <;> rfl
/-- All numbers and lists of a disk's state are small. -/
structure Dsk.Sml (s : Dsk) : Prop where
  n0 : 0 ≤ s.n
  n : s.n ≤ 1099511627776
  fails : s.fails.length ≤ 1099511627776
  now : s.now.length ≤ 1099511627776
  pend : s.pend.length ≤ 1099511627776
  data : s.data.length ≤ 1099511627776
  size : ∀ no, s.size no ≤ 1099511627776
theorem Dsk.begin_or (s : Dsk) (ns : List ByteArray) : (s.begin ns).1 = s ∨ (s.begin ns).1 = { s with n := s.n + 1 } := by
  unfold Dsk.begin
  split
  · exact .inl rfl
  · exact .inr rfl
theorem Dsk.begin_as (s : Dsk) (ns : List ByteArray) : ∃ n, (s.begin ns).1 = { s with n := n } := by
  rcases s.begin_or ns with h | h
  · exact ⟨s.n, h⟩
  · exact ⟨_, h⟩
theorem Dsk.look_or (s : Dsk) (nm : ByteArray) (more : List ByteArray) : (∃ n e, s.look nm more = ({ s with n := n }, e, none) ∧ e ≠ 0) ∨ ∃ n no, s.look nm more = ({ s with n := n }, 0, some no) ∧ find s.now nm = some no := by
  obtain ⟨n, hn⟩ := s.begin_as (more ++ [nm])
  unfold Dsk.look
  cases hb : s.begin (more ++ [nm]) with
  | mk s1 e =>
    rw [hb] at hn
    dsimp only at hn ⊢
    subst hn
    by_cases he : e = 0
    · rw [if_neg (by simpa using he)]
      dsimp only
      cases hf : find s.now nm with
      | none => exact .inl ⟨n, 90, rfl, by decide⟩
      | some no => exact .inr ⟨n, no, rfl, rfl⟩
    · rw [if_pos he]
      exact .inl ⟨n, e, rfl, he⟩
end D
end Go.Proofs.YtkempjcphpnocaaGreatDoor

namespace Go.Proofs.YtkempjcphpnocaaGreatDoor
open Go.RowKit

/-- A body answered. -/
def RetBody (w : World) (r : M.BD) (e : Ending) (w' : World) : Prop :=
  ∃ D d T j, e = .returned (.tuple #[.slice D r.d.length d, .slice T r.f.length j, .int .i64 r.n, .int .i64 r.e]) ∧ CRow w' w.heap.size D r.d.length d r.d ∧ Row w' w.heap.size 167 2 T r.f.length j (fcells r.f) ∧ Below w.heap.size w w'
theorem RetBody.bad {w w' : World} {r : M.BD} {code : Int} (hb : Below w.heap.size w w') (h : r = .bad code) : RetBody w r (.returned (.tuple #[.slice none 0 0, .slice none 0 0, .int .i64 0, .int .i64 code])) w' := by
  subst h
  exact ⟨none, 0, none, 0, rfl, CRow.none_ _ _, Row.none_ _ _ _ _, hb⟩
end Go.Proofs.YtkempjcphpnocaaGreatDoor

namespace Go.Proofs.YtkempjcphpnocaaGreatDoor
open Go.RowKit

namespace F
def headW : List UInt8 := [72, 69, 65, 68]
def connW : List UInt8 := [67, 79, 78, 78, 69, 67, 84]
/-- Has a response never a body? -/
def bareR (s : Int) (method : ByteArray) : Bool := decide (L method = headW ∨ s = 204 ∨ s = 304 ∨ (100 ≤ s ∧ s ≤ 199) ∨ (L method = connW ∧ 200 ≤ s ∧ s ≤ 299))
/-- How a response's body ends. -/
def frameR (s m : Int) (fs : List FD) (method : ByteArray) : FR := if bareR s method = true then ⟨0, 0, 0⟩ else frame m fs 3
end F

end Go.Proofs.YtkempjcphpnocaaGreatDoor

namespace Go.Proofs.YtkempjcphpnocaaGreatDoor
open Go.RowKit

namespace M
/-- A response's message told: its parts, the body, the trailers, its length, the error. -/
structure MP where
  s : Int
  r : ByteArray
  v : Int
  fs : List FD
  d : List UInt8
  f : List FD
  n : Int
  e : Int
def MP.bad (e : Int) : MP := ⟨0, ⟨#[]⟩, 0, [], [], [], 0, e⟩
def cutE (b : Bool) : Int := if b then 80 else 0
def wholeR (q : P.RS) (b : BD) (cut : Int) : MP := if b.e ≠ 0 then .bad b.e else if b.n = 0 then .bad cut else ⟨q.s, q.r, q.v, q.fs, b.d, b.f, b.n, 0⟩
def closed (bs : List UInt8) (q : P.RS) (ended : Bool) : MP := if (65536 : Int) < (bs.length : Int) - q.n then .bad 71 else if ended = true then ⟨q.s, q.r, q.v, q.fs, bs.drop q.n.toNat, [], bs.length, 0⟩ else .bad 0
def framedR (bs : List UInt8) (q : P.RS) (f : F.FR) (ended : Bool) : MP := if f.e ≠ 0 then .bad f.e else if f.k = 3 then closed bs q ended else wholeR q (body bs q.n.toNat f.k f.n) (cutE ended)
def response (bs : List UInt8) (method : ByteArray) (ended : Bool) : MP :=
  if (P.response bs).e ≠ 0 then .bad (P.response bs).e else if (P.response bs).n = 0 then .bad (cutE ended) else framedR bs (P.response bs) (F.frameR (P.response bs).s (P.response bs).v (P.response bs).fs method) ended
end M
/-- A response's message answered: all of its lists are the call's own. -/
def RetMsp (w : World) (r : M.MP) (e : Ending) (w' : World) : Prop :=
  ∃ A c D d T k, e = .returned (.tuple #[.agg #[.string ⟨#[]⟩, .string ⟨#[]⟩, .int .i64 0, .slice none 0 0, .int .i64 r.s, .string r.r, .int .i64 r.v, .slice A r.fs.length c, .slice D r.d.length d, .slice T r.f.length k], .int .i64 r.n, .int .i64 r.e]) ∧
    Row w' w.heap.size 167 2 A r.fs.length c (fcells r.fs) ∧ CRow w' w.heap.size D r.d.length d r.d ∧ Row w' w.heap.size 167 2 T r.f.length k (fcells r.f) ∧ Below w.heap.size w w'
theorem RetMsp.bad {w w' : World} {r : M.MP} {code : Int} (hb : Below w.heap.size w w') (h : r = .bad code) : RetMsp w r (.returned (.tuple #[.agg #[.string ⟨#[]⟩, .string ⟨#[]⟩, .int .i64 0, .slice none 0 0, .int .i64 0, .string ⟨#[]⟩, .int .i64 0, .slice none 0 0, .slice none 0 0, .slice none 0 0], .int .i64 0, .int .i64 code])) w' := by
  subst h
  exact ⟨none, 0, none, 0, none, 0, rfl, Row.none_ _ _ _ _, CRow.none_ _ _, Row.none_ _ _ _ _, hb⟩
end Go.Proofs.YtkempjcphpnocaaGreatDoor

namespace Go.Proofs.YtkempjcphpnocaaGreatDoor
open Go.RowKit

theorem Sep.apart {g c : Nat} {E : Option Addr} {m : Nat} (h : 0 < m → ∀ e, E = some e → e.block ≠ g) : Sep (some ⟨g, 0, none⟩) c E m := fun hm kk e hk1 he => by
  have := h hm e he
  unfold ownB at hk1
  split at hk1
  · cases hk1
  · simp at hk1
    omega

end Go.Proofs.YtkempjcphpnocaaGreatDoor
