/- The walks of fields.Without, with the library's Clone, DeleteFunc, IndexFunc, ContainsFunc at its closures. The walk of the library's DeleteFunc at fields.Without's closure; fields.Without. The walk of the document's Without. The walks of hop.Strip and of its document's twin. -/
import Derived.Test.YtnmldbcgpfglkaaGreatDoorFldA
import Derived.Deep.RegionHeld3
import Derived.Test.YtnmldbcgpfglkaaGreatDoorPlainA
namespace Go.Proofs.YtnmldbcgpfglkaaGreatDoor
open Go.RowKit

def NSmall (ns : List ByteArray) : Prop := ∀ s ∈ ns, s.size ≤ 1099511627776
/-- Is the field's name among the names? -/
def among (ns : List ByteArray) (f : FD) : Bool := ns.any fun n => F.is f n

def RetIdx (w : World) (b : Bool) (e : Ending) (w' : World) : Prop := ∃ r : Int, e = .returned (.int .i64 r) ∧ decide (0 ≤ r) = b ∧ Below w.heap.size w w'

theorem any_take_snoc {α : Type} (p : α → Bool) (l : List α) (k : Nat) (h : k < l.length) : (l.take (k + 1)).any p = ((l.take k).any p || p l[k]) := by
  rw [List.take_succ_eq_append_getElem h, List.any_append]; simp

/-- What the closure needs of memory, told of an earlier world. -/
structure Names (w0 : World) (X : Option Addr) (m d : Nat) (ns : List ByteArray) (g : Nat) : Prop where
  hm : m ≤ 1099511627776
  hl : ns.length = m
  hn : NSmall ns
  hx : Rd w0 X m 1 (scells ns)
  c0 : w0.cell? ⟨g, 0, none⟩ = some (.slice X m d)
/-- The place of the first field among the names, or -1. -/
def FirstAt (p : FD → Bool) (fs : List FD) (r : Int) : Prop := (r = -1 ∧ ∀ f ∈ fs, p f = false) ∨ ∃ (k : Nat) (h : k < fs.length), r = k ∧ p fs[k] = true ∧ ∀ f ∈ fs.take k, p f = false
def RetAt (w : World) (p : FD → Bool) (fs : List FD) (e : Ending) (w' : World) : Prop := ∃ r : Int, e = .returned (.int .i64 r) ∧ FirstAt p fs r ∧ Below w.heap.size w w'

theorem fcells_set : ∀ (l : List FD) (i : Nat) (f : FD), ((fcells l).set (i * 2) (.string f.1)).set (i * 2 + 1) (.string f.2) = fcells (l.set i f)
  | [], i, f => by simp [fcells]
  | g :: l, 0, f => by simp [fcells]
  | g :: l, i + 1, f => by
    rw [show (i + 1) * 2 = i * 2 + 1 + 1 from by omega]
    simp only [fcells, List.set_cons_succ]
    rw [fcells_set l i f]
theorem fcells_take : ∀ (l : List FD) (i : Nat), (fcells l).take (i * 2) = fcells (l.take i)
  | [], i => by simp [fcells]
  | g :: l, 0 => by simp [fcells]
  | g :: l, i + 1 => by
    rw [show (i + 1) * 2 = i * 2 + 1 + 1 from by omega]
    simp only [fcells, List.take_succ_cons]
    rw [fcells_take l i]

/-- Of a row of the call's own its first elements are kept, the rest is cleared. -/
theorem clear_row {w : World} {base g n c i : Nat} {xs : List FD} (h : w.ownsRow base 72 2 (.slice (some ⟨g, 0, none⟩) n c) n (fcells xs)) (hi : i < n) (_hn : n ≤ 1099511627776) :
    ∃ W, (∀ ty, (Builtin.clear_ #[25] ty #[.slice (some ⟨g, i * 2, none⟩) (n - i) (c - i)]).run Tryz.prog w = .ok (.tuple #[]) W) ∧ Row W base 72 2 (some ⟨g, 0, none⟩) i c (fcells (xs.take i)) ∧ w.grownBy W (some g) := by
  rcases h.2 with ⟨h', _⟩ | ⟨g', cap, cur, hv, hb, hg, hnc, hcm, hcs, ht⟩
  · cases h'
  · cases hv
    have hz : ∀ w : World, (zeroValue 72).run Tryz.prog w = .ok (.agg #[.string ⟨#[]⟩, .string ⟨#[]⟩]) w := Tryz.zeroValue72
    have hzs : (Builtin.zeroCells #[.string ⟨#[]⟩, .string ⟨#[]⟩] (n - i)).size = (n - i) * 2 := by simp [Builtin.zeroCells]
    have hz1 : ∀ v ∈ (Builtin.zeroCells #[.string ⟨#[]⟩, .string ⟨#[]⟩] (n - i)).toList, v.oneCell' = true := by
      intro v hv
      simp only [Builtin.zeroCells, Array.toList_map, List.mem_map] at hv
      obtain ⟨j, _, rfl⟩ := hv
      have : j % 2 = 0 ∨ j % 2 = 1 := by omega
      show Value.oneCell' (#[Value.string ⟨#[]⟩, Value.string ⟨#[]⟩][j % 2]!) = true
      rcases this with e | e <;> rw [e] <;> rfl
    have hst := run_storeCells_at Tryz.prog g (i * 2) 72 (Builtin.zeroCells #[.string ⟨#[]⟩, .string ⟨#[]⟩] (n - i)).toList 0 cur w hg (by rw [Array.length_toList, hzs]; omega) hz1
    generalize hnew : (List.take (i * 2 + 0) cur.toList ++ (Builtin.zeroCells #[.string ⟨#[]⟩, .string ⟨#[]⟩] (n - i)).toList ++ List.drop (i * 2 + 0 + (Builtin.zeroCells #[.string ⟨#[]⟩, .string ⟨#[]⟩] (n - i)).toList.length) cur.toList).toArray = new at hst
    have hs1 : new.size = c * 2 := by
      rw [← hnew]
      simp only [List.size_toArray, List.length_append, List.length_take, List.length_drop, Array.length_toList, hzs]
      omega
    have hs2 : new.toList.take (i * 2) = fcells (xs.take i) := by
      rw [← hnew, Nat.add_zero, List.toList_toArray, List.append_assoc, List.take_append_of_le_length (by simp; omega), List.take_take, Nat.min_self, ← fcells_take, ← ht, List.take_take, Nat.min_eq_left (by omega)]
    have hs3 : (fcells (xs.take i)).length = i * 2 := by
      rw [fcells_length, List.length_take]
      have : xs.length = n := by have := h.1; rw [fcells_length] at this; omega
      omega
    refine ⟨w.setRow g new, fun ty => ?_, .inl ⟨hs3, .inr ⟨g, c, new, rfl, hb, setRow_heap w g cur _ _ _ hg, by omega, hcm, hs1, hs2⟩⟩, ⟨rfl, rfl, rfl, by simp, fun k hk hne => setRow_other w g k _ (fun e => hne (by rw [e]))⟩⟩
    have hni : n - i ≠ 0 := by omega
    obtain ⟨q, hq⟩ : ∃ q, n - i = q + 1 := ⟨n - i - 1, by omega⟩
    rw [hq] at hst ⊢
    simp [Builtin.clear_, run_underlying Tryz.underlying25, hz, Value.cells, hst]

end Go.Proofs.YtnmldbcgpfglkaaGreatDoor

namespace Go.Proofs.YtnmldbcgpfglkaaGreatDoor
open Go.RowKit

def kept (p : FD → Bool) (fs : List FD) : List FD := fs.filter fun f => !p f
theorem kept_snoc (p : FD → Bool) (fs : List FD) (k : Nat) (h : k < fs.length) : kept p (fs.take (k + 1)) = kept p (fs.take k) ++ (if p fs[k] then [] else [fs[k]]) := by
  unfold kept
  rw [F.filter_snoc _ _ _ h]
  congr 1
  by_cases hp : p fs[k] = true <;> simp [hp]
theorem kept_all {p : FD → Bool} {fs : List FD} (h : ∀ f ∈ fs, p f = false) : kept p fs = fs := by
  unfold kept
  exact List.filter_eq_self.2 (fun f hf => by simp [h f hf])
theorem kept_le (p : FD → Bool) (fs : List FD) : (kept p fs).length ≤ fs.length := List.length_filter_le _ _

/-- What the loop of DeleteFunc keeps: the elements kept so far, in front; those not yet looked at, in their places. -/
def Moved (p : FD → Bool) (fs xs : List FD) (i j : Nat) : Prop := xs.length = fs.length ∧ i < j ∧ j ≤ fs.length ∧ xs.take i = kept p (fs.take j) ∧ xs.drop j = fs.drop j
theorem Moved.at_ {p : FD → Bool} {fs xs : List FD} {i j : Nat} (h : Moved p fs xs i j) (hj : j < fs.length) : ∃ hx : j < xs.length, xs[j] = fs[j] := by
  have hx : j < xs.length := by rw [h.1]; exact hj
  refine ⟨hx, ?_⟩
  have := h.2.2.2.2
  rw [List.drop_eq_getElem_cons hx, List.drop_eq_getElem_cons hj] at this
  injection this
theorem Moved.skip {p : FD → Bool} {fs xs : List FD} {i j : Nat} (h : Moved p fs xs i j) (hj : j < fs.length) (hp : p fs[j] = true) : Moved p fs xs i (j + 1) := by
  obtain ⟨h1, h2, h3, h4, h5⟩ := h
  refine ⟨h1, by omega, by omega, ?_, ?_⟩
  · rw [kept_snoc p fs j hj, if_pos hp, List.append_nil]; exact h4
  · rw [← List.drop_drop, ← List.drop_drop, h5]
theorem Moved.move {p : FD → Bool} {fs xs : List FD} {i j : Nat} (h : Moved p fs xs i j) (hj : j < fs.length) (hp : p fs[j] = false) : Moved p fs (xs.set i fs[j]) (i + 1) (j + 1) := by
  obtain ⟨h1, h2, h3, h4, h5⟩ := h
  have hi : i < xs.length := by omega
  refine ⟨by simpa using h1, by omega, by omega, ?_, ?_⟩
  · rw [kept_snoc p fs j hj, if_neg (by simp [hp]), ← h4, List.take_succ_eq_append_getElem (by simpa using hi)]
    simp [List.take_set_of_le]
  · rw [List.drop_set_of_lt (by omega), ← List.drop_drop, ← List.drop_drop, h5]

theorem own_new {w w1 : World} {base : Nat} {e : TypeId} {size : Nat} {v : Value} {n : Nat} {xs : List Value} {o : Obj} (h : w.ownsRow base e size v n xs) (hb : Below (w.alloc o).heap.size (w.alloc o) w1) : w1.ownsRow base e size v n xs := by
  refine (h.alloc o).kept (row := none) ⟨hb.os, hb.tape, hb.output, hb.size, fun k hk _ => hb.block k hk⟩ ?_
  cases v.ownBlock <;> simp

theorem Row.nil {w : World} {base : Nat} {e : TypeId} {size : Nat} {A : Option Addr} {n c : Nat} {xs : List Value} (h : Row w base e size A n c xs) (hA : A = none) : n = 0 ∧ c = 0 := by
  subst hA
  rcases h with ⟨_, h | ⟨g, cap, cur, hv, _⟩⟩ | ⟨h1, h2, _⟩
  · obtain ⟨hv, h0⟩ := h
    cases hv
    exact ⟨rfl, rfl⟩
  · cases hv
  · exact ⟨h1, h2⟩

end Go.Proofs.YtnmldbcgpfglkaaGreatDoor

namespace Go.Proofs.YtnmldbcgpfglkaaGreatDoor
open Go.RowKit

/-- The inner loop's mark: is none of the first j names the field's? -/
theorem among_snoc (ns : List ByteArray) (f : FD) (j : Nat) (h : j < ns.length) : among (ns.take (j + 1)) f = (among (ns.take j) f || F.is f ns[j]) := any_take_snoc _ ns j h

/-- What a region reads, behind one of its calls. -/
theorem two_step {W0 w w1 : World} {p q : Addr} {x y : Value} (h : w.cell? p = some x ∧ w.cell? q = some y ∧ Below W0.heap.size W0 w) (hb : Below w.heap.size w w1) : w1.cell? p = some x ∧ w1.cell? q = some y ∧ Below W0.heap.size W0 w1 :=
  ⟨(hb.cell (p := p) (cell_lt h.1)).trans h.1, (hb.cell (p := q) (cell_lt h.2.1)).trans h.2.1, below_then h.2.2.size h.2.2 hb⟩

theorem three_of {W0 w : World} {p q : Addr} {x y : Value} (h : w.cell? p = some x ∧ w.cell? q = some y ∧ Below W0.heap.size W0 w) : Below W0.heap.size W0 w := h.2.2

end Go.Proofs.YtnmldbcgpfglkaaGreatDoor

namespace Go.Proofs.YtnmldbcgpfglkaaGreatDoor
open Go.RowKit

theorem small_of_bulk {fs : List FD} (h : F.bulk fs ≤ 1073741824) : FSmall fs := fun f hf => by
  have := F.mem_bulk hf
  omega
theorem toks_sum : ∀ fs : List FD, ∀ name : ByteArray, (F.tokens fs name).length ≤ F.bulk fs := by
  intro fs name
  induction fs with
  | nil => simp [F.tokens, F.values, F.bulk]
  | cons f l ih =>
    have hl := list_len f.2
    unfold F.tokens F.values at ih ⊢
    rw [List.filter_cons]
    simp only [F.bulk]
    split
    · rw [List.map_cons, List.flatMap_cons, List.length_append, List.length_map]; omega
    · omega
theorem mem_toks {fs : List FD} {name x : ByteArray} (hx : x ∈ F.tokens fs name) : x.size ≤ F.bulk fs := by
  unfold F.tokens at hx
  obtain ⟨v, hv, hx⟩ := List.mem_flatMap.1 hx
  obtain ⟨el, hel, rfl⟩ := List.mem_map.1 hx
  have h1 := mem_list hel
  unfold F.values at hv
  obtain ⟨f, hf, rfl⟩ := List.mem_map.1 hv
  have h2 := F.mem_bulk (List.mem_filter.1 hf).1
  rw [B_size]
  unfold T.fold
  rw [List.length_map, ← L_size]
  omega
theorem nine_small : NSmall F.nine := by unfold NSmall F.nine; decide
theorem nineLow_small : NSmall F.nineLow := by unfold NSmall F.nineLow; decide
theorem nsmall_append {a b : List ByteArray} (ha : NSmall a) (hb : NSmall b) : NSmall (a ++ b) := fun s hs => by
  rcases List.mem_append.1 hs with h | h
  · exact ha s h
  · exact hb s h

end Go.Proofs.YtnmldbcgpfglkaaGreatDoor
