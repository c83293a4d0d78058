/- The walks of CopyResponse and hop.Response. Conditions: a list of bulk at most 2^30, texts of at most 2^30 bytes, a number of 64 bits, the library's table of powers of ten. -/
import Derived.Test.YteehjkfmlcfffaaGreatDoorVia
import Derived.Test.YteehjkfmlcfffaaGreatDoorReplyA
import Derived.Test.YteehjkfmlcfffaaGreatDoorRegionA
namespace Go.Proofs.YteehjkfmlcfffaaGreatDoor
open Go.RowKit

/-- A post that is met at an ordinary end alone. -/
def onNormal (Q : Act → World → Prop) : Exit → Act → World → Prop
  | .normal, a, w => Q a w
  | _, _, _ => False
theorem onNormal.imp {Q : Act → World → Prop} {Q' : Exit → Act → World → Prop} (h : ∀ a w, Q a w → Q' .normal a w) : ∀ (e : Exit) (a : Act) (w : World), onNormal Q e a w → Q' e a w := fun e a w hq => by
  cases e <;> first | exact h a w hq | exact (hq : False).elim
/-- A response, answered. -/
def RetR (w : World) (s : Int) (r : ByteArray) (m : Int) (xs : List FD) (e : Ending) (w' : World) : Prop :=
  ∃ A c, e = .returned (.agg #[.int .i64 s, .string r, .int .i64 m, .slice A xs.length c]) ∧ Row w' w.heap.size 148 2 A xs.length c (fcells xs) ∧ Below w.heap.size w w'

theorem Row.far {w : World} {base : Nat} {e : TypeId} {size : Nat} {A : Option Addr} {n c : Nat} {xs : List Value} (h : Row w base e size A n c xs) {b i : Nat} (hb : b < base) (v : Value) : Row (w.setCell ⟨b, i, none⟩ v) base e size A n c xs := by
  rcases h with ⟨h1, h2⟩ | h
  · refine .inl ⟨h1, ?_⟩
    rcases h2 with h2 | ⟨g, cap, cur, hv, hg, hh, r⟩
    · exact .inl h2
    · refine .inr ⟨g, cap, cur, hv, hg, ?_, r⟩
      rw [← hh]
      unfold World.setCell
      simp only [Array.getElem?_modify]
      rw [if_neg (by omega)]
  · exact .inr h

theorem Four.far {u : World} {b b' : Nat} (h : Four u b') (hne : b' ≠ b) (i : Nat) (x : Value) : Four (u.setCell ⟨b, i, none⟩ x) b' := by
  obtain ⟨⟨a0, f0⟩, ⟨a1, f1⟩, ⟨a2, f2⟩, ⟨a3, f3⟩⟩ := h
  have o : ∀ j, (u.setCell ⟨b, i, none⟩ x).cell? ⟨b', j, none⟩ = u.cell? ⟨b', j, none⟩ := fun j => World.cell?_setCell_far _ _ _ _ (fun e => hne e.symm)
  have f : ∀ j, (u.setCell ⟨b, i, none⟩ x).frozen? ⟨b', j, none⟩ = u.frozen? ⟨b', j, none⟩ := fun j => World.frozen?_setCell _ _ _ _
  exact ⟨⟨at_of ((o 0).trans a0), (f 0).trans f0⟩, ⟨at_of ((o 1).trans a1), (f 1).trans f1⟩, ⟨at_of ((o 2).trans a2), (f 2).trans f2⟩, ⟨at_of ((o 3).trans a3), (f 3).trans f3⟩⟩
theorem Row.set4 {w : World} {base : Nat} {e : TypeId} {size : Nat} {A : Option Addr} {n c : Nat} {xs : List Value} (h : Row w base e size A n c xs) {b : Nat} (hb : b < base) (y0 y1 y2 y3 : Value) : Row ((((w.setCell ⟨b, 0, none⟩ y0).setCell ⟨b, 1, none⟩ y1).setCell ⟨b, 2, none⟩ y2).setCell ⟨b, 3, none⟩ y3) base e size A n c xs :=
  (((h.far hb _).far hb _).far hb _).far hb _
theorem below_set4 {B : Nat} {w u : World} (h : Below B w u) {b : Nat} (hb : B ≤ b) (y0 y1 y2 y3 : Value) : Below B w ((((u.setCell ⟨b, 0, none⟩ y0).setCell ⟨b, 1, none⟩ y1).setCell ⟨b, 2, none⟩ y2).setCell ⟨b, 3, none⟩ y3) :=
  (((h.setCell (p := ⟨b, 0, none⟩) hb _).setCell (p := ⟨b, 1, none⟩) hb _).setCell (p := ⟨b, 2, none⟩) hb _).setCell (p := ⟨b, 3, none⟩) hb _

set_option maxHeartbeats 400000 in
theorem copyResponse_any (s m : Int) (r : ByteArray) (A : Option Addr) (n c : Nat) (fs : List FD) (w : World) (hl : fs.length = n) (hn : n ≤ 1099511627776) (hx : Rd w A n 2 (fcells fs)) :
    Calls Tryz.prog 37 #[.agg #[.int .i64 s, .string r, .int .i64 m, .slice A n c]] w (RetR w s r m fs) := by
  have HC := Lib.hid (fun (w1 : World) (hb : Below w.heap.size w w1) => copyFields_any A n c fs w1 hn (hx.below hb))
  subst hl
  clear hx hn
  go_enter Tryz.func37, Tryz.ntmps37
  go_wp2_with fail
  refine (HC.out _ (((Below.refl _ _).alloc (Nat.le_refl _) _).alloc (by rw [World.size_alloc]; omega) _)).mono ?_
  rintro e w1 ⟨A1, c1, rfl, hr1, hb1⟩
  obtain ⟨x0, x1, x2, x3⟩ := ((newFour (w := w) (.int .i64 s) (.string r) (.int .i64 m) (.slice A fs.length c) 27).below ((Below.refl _ _).alloc (Nat.le_refl _) _)).below hb1
  have y4 := (newFour (w := w.alloc (.cells #[.int .i64 s, .string r, .int .i64 m, .slice A fs.length c] 27)) (.int .i64 0) (.string ⟨#[]⟩) (.int .i64 0) (.slice none 0 0) 27).below hb1
  have g4 : ∀ i, w1.frozen? ⟨w.heap.size + 1, i, none⟩ = false := fun i => by
    have := newFree hb1 i
    rwa [World.size_alloc] at this
  have k4 : w1.frozen? ⟨w.heap.size, 3, none⟩ = false := by
    rw [hb1.frozen (p := ⟨w.heap.size, 3, none⟩) (by simp only [World.size_alloc]; omega)]
    rw [frozen?_alloc_cells]
    exact newFour_free _ _ _
  rw [World.size_alloc] at y4
  obtain ⟨y0, y1, y2, y3⟩ := y4
  have g0 := g4 0
  have g1 := g4 1
  have g2 := g4 2
  have g3 := g4 3
  have HG4 := Lib.hid g4
  have HY4 := Lib.hid (show Four w1 (w.heap.size + 1) from ⟨⟨at_of y0, g0⟩, ⟨at_of y1, g1⟩, ⟨at_of y2, g2⟩, ⟨at_of y3, g3⟩⟩)
  have hB := below_then (b := (w.alloc (.cells #[.int .i64 s, .string r, .int .i64 m, .slice A fs.length c] 27)).alloc (.cells #[.int .i64 0, .string ⟨#[]⟩, .int .i64 0, .slice none 0 0] 27)) (by simp only [World.size_alloc]; omega) (((Below.refl _ _).alloc (Nat.le_refl _) _).alloc (by rw [World.size_alloc]; omega) _) hb1
  have HB := Lib.hid hB
  have HR := Lib.hid hr1
  clear hB hb1 hr1 g4 HC
  go_wp2
  have hfour := (HY4.out.far (b := w.heap.size) (by omega) 3 (.slice A1 fs.length c1)).set4 (.int .i64 s) (.string r) (.int .i64 m) (.slice A1 fs.length c1)
  have hrow := (HR.out.far (b := w.heap.size) (i := 3) (by simp only [World.size_alloc]; omega) (.slice A1 fs.length c1)).set4 (b := w.heap.size + 1) (by simp only [World.size_alloc]; omega) (.int .i64 s) (.string r) (.int .i64 m) (.slice A1 fs.length c1)
  have hbel := below_set4 (HB.out.setCell (p := ⟨w.heap.size, 3, none⟩) (Nat.le_refl _) (.slice A1 fs.length c1)) (b := w.heap.size + 1) (by omega) (.int .i64 s) (.string r) (.int .i64 m) (.slice A1 fs.length c1)
  clear x0 x1 x2 x3 y0 y1 y2 y3 g0 g1 g2 g3 k4 HY4 HR HB
  generalize (((((w1.setCell ⟨w.heap.size, 3, none⟩ (.slice A1 fs.length c1)).setCell ⟨w.heap.size + 1, 0, none⟩ (.int .i64 s)).setCell ⟨w.heap.size + 1, 1, none⟩ (.string r)).setCell ⟨w.heap.size + 1, 2, none⟩ (.int .i64 m)).setCell ⟨w.heap.size + 1, 3, none⟩ (.slice A1 fs.length c1)) = U at *
  obtain ⟨d0, d1, d2, d3⟩ := hfour
  refine bodyPost_ret (v := .agg #[.int .i64 s, .string r, .int .i64 m, .slice A1 fs.length c1]) (by simp [results, Tryz.results37, go_sem, d0, d1, d2, d3]) rfl ?_
  exact ⟨A1, c1, rfl, hrow.mono (by simp only [World.size_alloc]; omega), hbel⟩

/-- A struct of four cells at b, another behind it, both the call's own. -/
def HoldR (w : World) (b : Nat) (x0 x1 x2 x3 : Value) (u : World) : Prop := Four4 u b x0 x1 x2 x3 ∧ Four u b ∧ Four u (b + 1) ∧ Below w.heap.size w u
theorem HoldR.below {w : World} {b : Nat} {x0 x1 x2 x3 : Value} {u v : World} (h : HoldR w b x0 x1 x2 x3 u) (hb : Below u.heap.size u v) : HoldR w b x0 x1 x2 x3 v :=
  ⟨h.1.below hb, h.2.1.below hb, h.2.2.1.below hb, below_then h.2.2.2.size h.2.2.2 hb⟩

end Go.Proofs.YteehjkfmlcfffaaGreatDoor
