/- The walk of the document's Request, from the contracts of what it calls. -/
import Derived.Test.YtecopkcogobolaaGreatDoorSend
namespace Go.Proofs.YtecopkcogobolaaGreatDoor
open Go.RowKit

/-- The four blocks of the walk. -/
def ReqR (w : World) (X T O H : Array Value) (u : World) : Prop := Blk u w.heap.size X 24 ∧ Blk u (w.heap.size + 1) T 32 ∧ Blk u (w.heap.size + 1 + 1) O 24 ∧ Blk u (w.heap.size + 1 + 1 + 1) H 24 ∧ Below w.heap.size w u
theorem ReqR.below {w u v : World} {X T O H : Array Value} (h : ReqR w X T O H u) (hb : Below u.heap.size u v) : ReqR w X T O H v :=
  ⟨h.1.below hb, h.2.1.below hb, h.2.2.1.below hb, h.2.2.2.1.below hb, below_then h.2.2.2.2.size h.2.2.2.2 hb⟩
theorem ReqR.start (w : World) (X T O H : Array Value) : ReqR w X T O H ((((w.alloc (.cells X 24)).alloc (.cells T 32)).alloc (.cells O 24)).alloc (.cells H 24)) := by
  refine ⟨(((Blk.new w X _).alloc _).alloc _).alloc _, ?_, ?_, ?_, ?_⟩
  · have := ((Blk.new (w.alloc (.cells X 24)) T 32).alloc (.cells O 24)).alloc (.cells H 24)
    rwa [World.size_alloc] at this
  · have := (Blk.new ((w.alloc (.cells X 24)).alloc (.cells T 32)) O 24).alloc (.cells H 24)
    rwa [World.size_alloc, World.size_alloc] at this
  · have := Blk.new (((w.alloc (.cells X 24)).alloc (.cells T 32)).alloc (.cells O 24)) H 24
    rwa [World.size_alloc, World.size_alloc, World.size_alloc] at this
  · exact ((((Below.refl _ _).alloc (Nat.le_refl _) _).alloc (by simp only [World.size_alloc]; omega) _).alloc (by simp only [World.size_alloc]; omega) _).alloc (by simp only [World.size_alloc]; omega) _
theorem ReqR.app {w u v : World} {X T O H : Array Value} {A A' : Option Addr} {c c' base size n : Nat} {e : TypeId} {xs : List Value} (h : ReqR w X T O H u) (ha : App u v A c A' c') (hr : Row u base e size A n c xs) (hb : w.heap.size + 4 ≤ base) (hbu : base ≤ u.heap.size) : ReqR w X T O H v :=
  ⟨h.1.app ha (fun k hk => by have := (hr.lt k hk).1; omega), h.2.1.app ha (fun k hk => by have := (hr.lt k hk).1; omega), h.2.2.1.app ha (fun k hk => by have := (hr.lt k hk).1; omega), h.2.2.2.1.app ha (fun k hk => by have := (hr.lt k hk).1; omega), h.2.2.2.2.trans ((ha.below hr hbu).mono (by omega))⟩
theorem newRow1 (u : World) (f : FD) (B : Nat) (hB : B ≤ u.heap.size) : Row (u.alloc (.cells #[.string f.1, .string f.2] 67)) B 67 2 (some ⟨u.heap.size, 0, none⟩) 1 1 (fcells [f]) :=
  .inl ⟨rfl, .inr ⟨u.heap.size, 1, _, rfl, hB, heap_alloc_new u _, Nat.le_refl _, by decide, rfl, rfl⟩⟩

end Go.Proofs.YtecopkcogobolaaGreatDoor
