/- A block of the call's own, known whole: what it holds behind calls, allocations and stores. No condition: plain lemmas. -/
import Derived.Test.YtcoohkgamogmgaaDoorLib
import Derived.Deep.RegionHeld
namespace Go.Proofs.YtcoohkgamogmgaaDoor
open Go.RowKit

/-- Block b holds just these cells, and may be written. -/
def Blk (w : World) (b : Nat) (cs : Array Value) (t : TypeId) : Prop := w.heap[b]? = some (.cells cs t (0, 0))
section
variable {w w' : World} {b b' : Nat} {cs : Array Value} {t : TypeId} {A A' : Option Addr} {c c' : Nat}
theorem Blk.new (w : World) (cs : Array Value) (t : TypeId) : Blk (w.alloc (.cells cs t)) w.heap.size cs t := heap_alloc_new w _
theorem Blk.lt (h : Blk w b cs t) : b < w.heap.size := (Array.getElem?_eq_some_iff.1 h).1
theorem Blk.below (h : Blk w b cs t) (hb : Below w.heap.size w w') : Blk w' b cs t := (hb.block b h.lt).trans h
theorem Blk.under {B : Nat} (h : Blk w b cs t) (hb : Below B w w') (hB : b < B) : Blk w' b cs t := (hb.block b hB).trans h
theorem Blk.alloc (h : Blk w b cs t) (o : Obj) : Blk (w.alloc o) b cs t := h.below ((Below.refl _ _).alloc (Nat.le_refl _) _)
theorem Blk.next {o : Obj} (h : Blk w b cs t) (hb : Below (w.alloc o).heap.size (w.alloc o) w') : Blk w' b cs t := (h.alloc o).below hb
theorem Blk.drew (h : Blk w b cs t) : Blk w.drew b cs t := h
theorem Blk.drewN (h : Blk w b cs t) (k : Nat) : Blk (w.drewN k) b cs t := h
theorem Blk.cell (h : Blk w b cs t) (i : Nat) {v : Value} (hi : cs[i]? = some v) : w.cell? ⟨b, i, none⟩ = some v := (cell_of_row w b i cs t (0, 0) h).trans hi
theorem Blk.free (h : Blk w b cs t) (i : Nat) : w.frozen? ⟨b, i, none⟩ = false := by
  have h' : w.heap[b]? = some (.cells cs t (0, 0)) := h
  simp [World.frozen?, h']
theorem Blk.set (h : Blk w b cs t) (i : Nat) (v : Value) : Blk (w.setCell ⟨b, i, none⟩ v) b (cs.setIfInBounds i v) t := by
  have h' : w.heap[b]? = some (.cells cs t (0, 0)) := h
  unfold Blk World.setCell
  simp only [Array.getElem?_modify, if_true, h']
  rfl
theorem Blk.far (h : Blk w b cs t) (i : Nat) (v : Value) (hne : b' ≠ b) : Blk (w.setCell ⟨b', i, none⟩ v) b cs t := by
  have h' : w.heap[b]? = some (.cells cs t (0, 0)) := h
  unfold Blk World.setCell
  simp only [Array.getElem?_modify]
  rw [if_neg hne]
  exact h'
theorem Blk.app (h : Blk w b cs t) (ha : App w w' A c A' c') (hne : ∀ k, ownB A c = some k → k ≠ b) : Blk w' b cs t :=
  (ha.grown.block b h.lt (fun e => hne b e.symm rfl)).trans h
/-- The cells of a block of one, two, three, four. -/
theorem Blk.cells1 {x0 : Value} (h : Blk w b #[x0] t) : w.cell? ⟨b, 0, none⟩ = some x0 := h.cell 0 rfl
theorem Blk.cells2 {x0 x1 : Value} (h : Blk w b #[x0, x1] t) : w.cell? ⟨b, 0, none⟩ = some x0 ∧ w.cell? ⟨b, 1, none⟩ = some x1 := ⟨h.cell 0 rfl, h.cell 1 rfl⟩
theorem Blk.cells3 {x0 x1 x2 : Value} (h : Blk w b #[x0, x1, x2] t) : w.cell? ⟨b, 0, none⟩ = some x0 ∧ w.cell? ⟨b, 1, none⟩ = some x1 ∧ w.cell? ⟨b, 2, none⟩ = some x2 := ⟨h.cell 0 rfl, h.cell 1 rfl, h.cell 2 rfl⟩
theorem Blk.cells4 {x0 x1 x2 x3 : Value} (h : Blk w b #[x0, x1, x2, x3] t) : w.cell? ⟨b, 0, none⟩ = some x0 ∧ w.cell? ⟨b, 1, none⟩ = some x1 ∧ w.cell? ⟨b, 2, none⟩ = some x2 ∧ w.cell? ⟨b, 3, none⟩ = some x3 := ⟨h.cell 0 rfl, h.cell 1 rfl, h.cell 2 rfl, h.cell 3 rfl⟩
theorem Blk.free4 (h : Blk w b cs t) : w.frozen? ⟨b, 0, none⟩ = false ∧ w.frozen? ⟨b, 1, none⟩ = false ∧ w.frozen? ⟨b, 2, none⟩ = false ∧ w.frozen? ⟨b, 3, none⟩ = false := ⟨h.free 0, h.free 1, h.free 2, h.free 3⟩
/-- A struct of four written over, cell by cell. -/
theorem Blk.set4 {x0 x1 x2 x3 : Value} (h : Blk w b #[x0, x1, x2, x3] t) (y0 y1 y2 y3 : Value) : Blk ((((w.setCell ⟨b, 0, none⟩ y0).setCell ⟨b, 1, none⟩ y1).setCell ⟨b, 2, none⟩ y2).setCell ⟨b, 3, none⟩ y3) b #[y0, y1, y2, y3] t :=
  (((h.set 0 y0).set 1 y1).set 2 y2).set 3 y3
theorem Blk.far4 (h : Blk w b cs t) (hne : b' ≠ b) (y0 y1 y2 y3 : Value) : Blk ((((w.setCell ⟨b', 0, none⟩ y0).setCell ⟨b', 1, none⟩ y1).setCell ⟨b', 2, none⟩ y2).setCell ⟨b', 3, none⟩ y3) b cs t :=
  (((h.far 0 y0 hne).far 1 y1 hne).far 2 y2 hne).far 3 y3 hne
end
/-- A value that is a list of the call's own; one that reads as a list; a pointer to a block of the call's own. -/
def SlRow (base : Nat) (e : TypeId) (size n : Nat) (xs : List Value) (v : Value) (u : World) : Prop := ∃ A c, v = .slice A n c ∧ Row u base e size A n c xs
def SlRd (size n : Nat) (xs : List Value) (v : Value) (u : World) : Prop := ∃ A c, v = .slice A n c ∧ Rd u A n size xs
def PtrBlk (base : Nat) (cs : Array Value) (t : TypeId) (v : Value) (u : World) : Prop := ∃ b, v = .pointer (some ⟨b, 0, none⟩) ∧ base ≤ b ∧ Blk u b cs t
section
variable {u w : World} {base size n : Nat} {e t : TypeId} {xs : List Value} {v : Value} {cs : Array Value}
theorem SlRow.below (h : SlRow base e size n xs v u) (hb : Below u.heap.size u w) : SlRow base e size n xs v w := by
  obtain ⟨A, c, hv, hr⟩ := h
  exact ⟨A, c, hv, hr.below hb⟩
theorem SlRd.below (h : SlRd size n xs v u) (hb : Below u.heap.size u w) : SlRd size n xs v w := by
  obtain ⟨A, c, hv, hr⟩ := h
  exact ⟨A, c, hv, hr.below hb⟩
theorem PtrBlk.below (h : PtrBlk base cs t v u) (hb : Below u.heap.size u w) : PtrBlk base cs t v w := by
  obtain ⟨b, hv, hB, hk⟩ := h
  exact ⟨b, hv, hB, hk.below hb⟩
theorem Row.nilB {A : Option Addr} {n c : Nat} (h : Row u base e size A n c xs) (hA : A = none) : n = 0 ∧ c = 0 := by
  subst hA
  rcases h with ⟨_, h | ⟨g, cap, cur, hv, _⟩⟩ | ⟨h1, h2, _⟩
  · obtain ⟨hv, h0⟩ := h
    cases hv
    exact ⟨rfl, rfl⟩
  · cases hv
  · exact ⟨h1, h2⟩
theorem Row.farT {A : Option Addr} {c b : Nat} (h : Row u base e size A n c xs) (hb : Blk u b cs t) (hne : t ≠ e) (i : Nat) (x : Value) : Row (u.setCell ⟨b, i, none⟩ x) base e size A n c xs := by
  have hb' : u.heap[b]? = some (.cells cs t (0, 0)) := hb
  rcases h with ⟨h1, h2⟩ | h
  · refine .inl ⟨h1, ?_⟩
    rcases h2 with h2 | ⟨g, cap, cur, hv, hg, hh, r⟩
    · exact .inl h2
    · have hgb : b ≠ g := by
        intro h
        subst h
        rw [hb'] at hh
        injection hh with hh
        injection hh with _ h2
        exact hne h2
      refine .inr ⟨g, cap, cur, hv, hg, ?_, r⟩
      rw [← hh]
      unfold World.setCell
      simp only [Array.getElem?_modify]
      rw [if_neg hgb]
  · exact .inr h
theorem Row.farT4 {A : Option Addr} {c b : Nat} (h : Row u base e size A n c xs) (hb : Blk u b cs t) (hne : t ≠ e) (y0 y1 y2 y3 : Value) : Row ((((u.setCell ⟨b, 0, none⟩ y0).setCell ⟨b, 1, none⟩ y1).setCell ⟨b, 2, none⟩ y2).setCell ⟨b, 3, none⟩ y3) base e size A n c xs :=
  (((h.farT hb hne 0 y0).farT (hb.set 0 y0) hne 1 y1).farT ((hb.set 0 y0).set 1 y1) hne 2 y2).farT (((hb.set 0 y0).set 1 y1).set 2 y2) hne 3 y3
theorem below_set {B : Nat} {a : World} (h : Below B a u) {b : Nat} (hb : B ≤ b) (i : Nat) (x : Value) : Below B a (u.setCell ⟨b, i, none⟩ x) := h.setCell (p := ⟨b, i, none⟩) hb x
theorem below_four {B : Nat} {a : World} (h : Below B a u) {b : Nat} (hb : B ≤ b) (y0 y1 y2 y3 : Value) : Below B a ((((u.setCell ⟨b, 0, none⟩ y0).setCell ⟨b, 1, none⟩ y1).setCell ⟨b, 2, none⟩ y2).setCell ⟨b, 3, none⟩ y3) :=
  below_set (below_set (below_set (below_set h hb 0 y0) hb 1 y1) hb 2 y2) hb 3 y3
end
/-- Two blocks of the call's own at its beginning. -/
def Two (w : World) (X : Array Value) (tX : TypeId) (O : Array Value) (tO : TypeId) (u : World) : Prop := Blk u w.heap.size X tX ∧ Blk u (w.heap.size + 1) O tO ∧ Below w.heap.size w u
section
variable {w u v : World} {X O : Array Value} {tX tO : TypeId}
theorem Two.start (w : World) (X : Array Value) (tX : TypeId) (O : Array Value) (tO : TypeId) : Two w X tX O tO ((w.alloc (.cells X tX)).alloc (.cells O tO)) := by
  refine ⟨(Blk.new w X _).alloc _, ?_, ((Below.refl _ _).alloc (Nat.le_refl _) _).alloc (by simp only [World.size_alloc]; omega) _⟩
  have := Blk.new (w.alloc (.cells X tX)) O tO
  rwa [World.size_alloc] at this
theorem Two.below (h : Two w X tX O tO u) (hb : Below u.heap.size u v) : Two w X tX O tO v := ⟨h.1.below hb, h.2.1.below hb, below_then h.2.2.size h.2.2 hb⟩
theorem Two.alloc (h : Two w X tX O tO u) (o : Obj) : Two w X tX O tO (u.alloc o) := h.below ((Below.refl _ _).alloc (Nat.le_refl _) _)
theorem Two.drew (h : Two w X tX O tO u) : Two w X tX O tO u.drew := h.below (Below.refl _ _).drew
theorem Two.size (h : Two w X tX O tO u) : w.heap.size + 2 ≤ u.heap.size := by have := h.2.1.lt; omega
theorem Two.app {A A' : Option Addr} {c c' base size n : Nat} {e : TypeId} {xs : List Value} (h : Two w X tX O tO u) (ha : App u v A c A' c') (hr : Row u base e size A n c xs) (hb : w.heap.size + 2 ≤ base) (hbu : base ≤ u.heap.size) : Two w X tX O tO v :=
  ⟨h.1.app ha (fun k hk => by have := (hr.lt k hk).1; omega), h.2.1.app ha (fun k hk => by have := (hr.lt k hk).1; omega), h.2.2.trans ((ha.below hr hbu).mono (by omega))⟩
/-- The answer's struct of four written: what is left. -/
theorem Two.shut {B n c : Nat} {A : Option Addr} {e : TypeId} {size : Nat} {xs : List Value} (h : Two w X tX O tO u) {o0 o1 o2 o3 : Value} (hO : O = #[o0, o1, o2, o3]) (hr : Row u B e size A n c xs) (hB : w.heap.size ≤ B) (hne : tO ≠ e) (y0 y1 y2 y3 : Value) :
    ∀ W, W = ((((u.setCell ⟨w.heap.size + 1, 0, none⟩ y0).setCell ⟨w.heap.size + 1, 1, none⟩ y1).setCell ⟨w.heap.size + 1, 2, none⟩ y2).setCell ⟨w.heap.size + 1, 3, none⟩ y3) →
      (W.cell? ⟨w.heap.size + 1, 0, none⟩ = some y0 ∧ W.cell? ⟨w.heap.size + 1, 1, none⟩ = some y1 ∧ W.cell? ⟨w.heap.size + 1, 2, none⟩ = some y2 ∧ W.cell? ⟨w.heap.size + 1, 3, none⟩ = some y3) ∧ Row W w.heap.size e size A n c xs ∧ Below w.heap.size w W := by
  subst hO
  rintro W rfl
  exact ⟨(h.2.1.set4 y0 y1 y2 y3).cells4, (hr.farT4 h.2.1 hne y0 y1 y2 y3).mono hB, below_four h.2.2 (by omega) y0 y1 y2 y3⟩
end
end Go.Proofs.YtcoohkgamogmgaaDoor
