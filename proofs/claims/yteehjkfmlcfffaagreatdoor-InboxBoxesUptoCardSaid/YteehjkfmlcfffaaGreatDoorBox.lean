/- A box of bytes that have come: its state, what a call on it may turn; the walks of New, Feed and Rest (printed by gen/box.py). Conditions: at most 2^40 bytes in the box. -/
import Derived.Test.YteehjkfmlcfffaaGreatDoorORow
import Derived.Test.YteehjkfmlcfffaaGreatDoorMsgK
import Derived.Deep.QuietTactic
namespace Go.Proofs.YteehjkfmlcfffaaGreatDoor
open Go.RowKit

/-- Of the blocks below B, b alone may have turned. -/
structure KeptB (B b : Nat) (w w' : World) : Prop where
  os : w'.os = w.os
  tape : w'.tape = w.tape
  output : w'.output = w.output
  size : w.heap.size ≤ w'.heap.size
  block : ∀ k, k < B → k ≠ b → w'.heap[k]? = w.heap[k]?
section
variable {B b : Nat} {w u v : World}
theorem KeptB.refl (B b : Nat) (w : World) : KeptB B b w w := ⟨rfl, rfl, rfl, Nat.le_refl _, fun _ _ _ => rfl⟩
theorem KeptB.of_below (h : Below w.heap.size w u) (hB : B ≤ w.heap.size) : KeptB B b w u := ⟨h.os, h.tape, h.output, h.size, fun k hk _ => h.block k (by omega)⟩
theorem KeptB.of_low {L : Nat} (h : Below L w u) (hB : B ≤ L) : KeptB B b w u := ⟨h.os, h.tape, h.output, h.size, fun k hk _ => h.block k (by omega)⟩
theorem KeptB.mono (h : KeptB B b w u) {B' : Nat} (hB : B' ≤ B) : KeptB B' b w u := ⟨h.os, h.tape, h.output, h.size, fun k hk hn => h.block k (by omega) hn⟩
theorem KeptB.trans (h : KeptB B b w u) (k : KeptB B b u v) : KeptB B b w v :=
  ⟨k.os.trans h.os, k.tape.trans h.tape, k.output.trans h.output, Nat.le_trans h.size k.size, fun i hi hn => (k.block i hi hn).trans (h.block i hi hn)⟩
theorem KeptB.set (h : KeptB B b w u) (i : Nat) (x : Value) : KeptB B b w (u.setCell ⟨b, i, none⟩ x) :=
  ⟨h.os, h.tape, h.output, by rw [World.size_setCell]; exact h.size, fun k hk hn => by
    have : (u.setCell ⟨b, i, none⟩ x).heap[k]? = u.heap[k]? := by
      unfold World.setCell
      simp only [Array.getElem?_modify]
      rw [if_neg (Ne.symm hn)]
    exact this.trans (h.block k hk hn)⟩
theorem KeptB.grown (h : KeptB B b w u) {r : Option Nat} (hg : u.grownBy v r) (hr : ∀ k, r = some k → B ≤ k) (hB : B ≤ u.heap.size) : KeptB B b w v :=
  ⟨hg.os.trans h.os, hg.tape.trans h.tape, hg.output.trans h.output, Nat.le_trans h.size hg.size, fun k hk hn => (hg.block k (by omega) (fun e => by have := hr k e.symm; omega)).trans (h.block k hk hn)⟩
/-- All of a world below the box. -/
theorem KeptB.low (h : KeptB B b u v) {w0 : World} {L : Nat} (hl : Below L w0 u) (hb : L ≤ b) (hB : L ≤ B) : Below L w0 v :=
  ⟨h.os.trans hl.os, h.tape.trans hl.tape, h.output.trans hl.output, Nat.le_trans hl.size h.size, fun k hk => (h.block k (by omega) (by omega)).trans (hl.block k hk)⟩
theorem KeptB.cell (h : KeptB B b w u) {a : Addr} (hB : a.block < B) (hn : a.block ≠ b) : u.cell? a = w.cell? a := World.cell?_of_block (h.block a.block hB hn)
theorem KeptB.rd (h : KeptB B b w u) {A : Option Addr} {n size : Nat} {xs : List Value} (hx : Rd w A n size xs) (ha : 0 < n → ∀ a, A = some a → a.block < B ∧ a.block ≠ b) : Rd u A n size xs :=
  ⟨hx.1, fun hn => by
    obtain ⟨g, o, e, hlt, hc⟩ := hx.2 hn
    obtain ⟨h1, h2⟩ := ha hn _ e
    exact ⟨g, o, e, Nat.lt_of_lt_of_le hlt h.size, fun j x hj => (h.cell (a := ⟨g, o + j, none⟩) h1 h2).trans (hc j x hj)⟩⟩
theorem KeptB.blk (h : KeptB B b w u) {k : Nat} {cs : Array Value} {t : TypeId} (hk : Blk w k cs t) (hB : k < B) (hn : k ≠ b) : Blk u k cs t := (h.block k hB hn).trans hk
end

/-- Bytes behind an append to another row. -/
theorem ORow.keptG {w u : World} {base n c : Nat} {A : Option Addr} {bs : List UInt8} {r : Option Nat} (h : ORow w base A n c bs) (hg : w.grownBy u r) (hr : ∀ k, ownB A c = some k → r ≠ some k) : ORow u base A n c bs := by
  obtain ⟨h1, h2, h3⟩ := h
  refine ⟨h1, h2, ?_⟩
  by_cases hc0 : c = 0
  · exact .inl hc0
  rcases h3 with h3 | ⟨g, o, hA, hB, hgl, hf, hc⟩
  · exact .inl h3
  · have hbl : u.heap[g]? = w.heap[g]? := hg.block g hgl (fun e => hr g (by rw [hA]; unfold ownB; rw [if_neg hc0]; rfl) e.symm)
    refine .inr ⟨g, o, hA, hB, Nat.lt_of_lt_of_le hgl hg.size, fun j hj => ?_, fun j x hx => ?_⟩
    · have e1 : u.cell? ⟨g, o + j, none⟩ = w.cell? ⟨g, o + j, none⟩ := World.cell?_of_block hbl
      have e2 : u.frozen? ⟨g, o + j, none⟩ = w.frozen? ⟨g, o + j, none⟩ := by
        unfold World.frozen?
        simp only [hbl]
      rw [e1, e2]
      exact hf j hj
    · exact (World.cell?_of_block (a := ⟨g, o + j, none⟩) hbl).trans (hc j x hx)
/-- Bytes behind a store into another block. -/
theorem ORow.farN {w : World} {base n c b : Nat} {A : Option Addr} {bs : List UInt8} (h : ORow w base A n c bs) (hr : ∀ k, ownB A c = some k → b ≠ k) (i : Nat) (x : Value) : ORow (w.setCell ⟨b, i, none⟩ x) base A n c bs :=
  h.keptG (r := some b) ⟨rfl, rfl, rfl, by rw [World.size_setCell]; exact Nat.le_refl _, fun k _ hk => by
    unfold World.setCell
    simp only [Array.getElem?_modify]
    rw [if_neg (fun e => hk (by rw [e]))]⟩ (fun k hk e => hr k hk (by simpa using e))
/-- Bytes whose block has not turned. -/
theorem ORow.keptL {w u : World} {base n c b L : Nat} {A : Option Addr} {bs : List UInt8} (h : ORow w base A n c bs) (hk : KeptB L b w u) (hb : b < base) (hL : w.heap.size ≤ L) : ORow u base A n c bs := by
  obtain ⟨h1, h2, h3⟩ := h
  refine ⟨h1, h2, ?_⟩
  rcases h3 with h3 | ⟨g, o, hA, hB, hg, hf, hc⟩
  · exact .inl h3
  · have hbl : u.heap[g]? = w.heap[g]? := hk.block g (by omega) (by omega)
    refine .inr ⟨g, o, hA, hB, Nat.lt_of_lt_of_le hg hk.size, fun j hj => ?_, fun j x hx => ?_⟩
    · have e1 : u.cell? ⟨g, o + j, none⟩ = w.cell? ⟨g, o + j, none⟩ := World.cell?_of_block hbl
      have e2 : u.frozen? ⟨g, o + j, none⟩ = w.frozen? ⟨g, o + j, none⟩ := by
        unfold World.frozen?
        simp only [hbl]
      rw [e1, e2]
      exact hf j hj
    · exact (World.cell?_of_block (a := ⟨g, o + j, none⟩) hbl).trans (hc j x hx)
theorem ORow.nilO {w : World} {base n c : Nat} {A : Option Addr} {bs : List UInt8} (h : ORow w base A n c bs) (hA : A = none) : n = 0 ∧ c = 0 := by
  rcases h.2.2 with h0 | ⟨g, o, hg, _⟩
  · exact ⟨by have := h.2.1; omega, h0⟩
  · rw [hA] at hg
    cases hg
/-- A box: its reader, the bytes that it holds, its error; the bytes' block lies at B or above. -/
structure BoxM (B b : Nat) (rv : Value) (held : List UInt8) (bad : Int) (A : Option Addr) (c : Nat) (u : World) : Prop where
  blk : Blk u b #[rv, .slice A held.length c, .int .i64 bad] 138
  row : ORow u B A held.length c held
  lt : b < B
  le : B ≤ u.heap.size
theorem BoxM.below {B b : Nat} {rv : Value} {held : List UInt8} {bad : Int} {A : Option Addr} {c : Nat} {u v : World} (h : BoxM B b rv held bad A c u) (hb : Below u.heap.size u v) : BoxM B b rv held bad A c v :=
  ⟨h.blk.below hb, h.row.below hb, h.lt, Nat.le_trans h.le hb.size⟩
/-- The box behind a call that has turned it. -/
theorem BoxM.turned {B b : Nat} {rv : Value} {held held' : List UInt8} {bad bad' : Int} {A A' : Option Addr} {c c' : Nat} {w u : World} (h : BoxM B b rv held bad A c w) (hk : KeptB w.heap.size b w u) (hb : Blk u b #[rv, .slice A' held'.length c', .int .i64 bad'] 138) (hr : ORow w B A' held'.length c' held') : BoxM B b rv held' bad' A' c' u :=
  ⟨hb, hr.keptL hk h.lt (Nat.le_refl _), h.lt, Nat.le_trans h.le hk.size⟩
set_option maxHeartbeats 1000000 in
set_option maxRecDepth 100000 in
theorem newM_any (N : Nat) (w : World) : Calls Tryz.prog 19 #[.func (.func N) #[] #[]] w (fun e w' => e = .returned (.pointer (some ⟨w.heap.size, 0, none⟩)) ∧ w' = w.alloc (.cells #[.func (.func N) #[] #[], .slice none 0 0, .int .i64 0] 138)) := by
  go_enter Tryz.func19, Tryz.ntmps19
  go_wp2
  go_ret
  exact ⟨rfl, rfl⟩
set_option maxHeartbeats 2000000 in
set_option maxRecDepth 100000 in
theorem feedM_any (B b N : Nat) (held ps : List UInt8) (bad : Int) (A : Option Addr) (c : Nat) (S : Option Addr) (d : Nat) (u : World) (h : BoxM B b (.func (.func N) #[] #[]) held bad A c u) (hl : held.length + ps.length ≤ 1099511627776) (hx : Rd u S ps.length 1 (bcells ps)) :
    Calls Tryz.prog 23 #[.pointer (some ⟨b, 0, none⟩), .slice S ps.length d] u (fun e w' => e = .returned (.tuple #[]) ∧ (∃ A' c', BoxM B b (.func (.func N) #[] #[]) (if bad = 0 then held ++ ps else held) bad A' c' w' ∧ ((A' = A ∧ c' = c) ∨ ∃ g, A' = some ⟨g, 0, none⟩ ∧ u.heap.size ≤ g)) ∧ KeptB B b u w' ∧ ∀ (b2 n2 c2 : Nat) (E : Option Addr) (l2 : List UInt8), ORow u b2 E n2 c2 l2 → (∀ k, ownB E c2 = some k → ownB A c ≠ some k ∧ k ≠ b) → ORow w' b2 E n2 c2 l2) := by
  have HB := Lib.hid h
  have HX := Lib.hid hx
  have HLE := Lib.hid h.le
  obtain ⟨z0, z1, z2⟩ := h.blk.cells3
  have f1 := h.blk.free 1
  clear h hx
  go_enter Tryz.func23, Tryz.ntmps23
  by_cases hb : bad = 0
  · subst hb
    go_wp2_with (at_builtin; refine appO _ rfl (.tmp 13) (.tmp 14) rfl B A held.length c held rfl HB.out.row S ps.length d ps rfl HX.out (by omega) HLE.out ?_; intro A1 c1 w1 hr1 ha1; have HR1 := Lib.hid hr1; have HA1 := Lib.hid ha1; have hk1 := HB.out.blk.app ha1 (fun k hk => by have := (HB.out.row.lt k hk).1; have := HB.out.lt; omega); have HK1 := Lib.hid hk1; obtain ⟨y0, y1, y2⟩ := hk1.cells3; have g1 := hk1.free 1; clear hr1 ha1 hk1 z0 z1 z2 f1)
    go_end0
    have e : held.length + ps.length = (held ++ ps).length := List.length_append.symm
    refine ⟨rfl, ⟨A1, c1, ?_, HA1.out.moved⟩, ((KeptB.refl B b u).grown HA1.out.grown (fun k hk => (HB.out.row.lt k hk).1) HLE.out).set 1 _, fun b2 n2 c2 E l2 h2 hs => (h2.keptG HA1.out.grown (fun k hk => (hs k hk).1)).farN (fun k hk e => (hs k hk).2 e.symm) 1 _⟩
    have hrow := HR1.out.far HB.out.lt 1 (.slice A1 (held.length + ps.length) c1)
    have hblk : Blk (w1.setCell ⟨b, 1, none⟩ (.slice A1 (held.length + ps.length) c1)) b #[.func (.func N) #[] #[], .slice A1 (held.length + ps.length) c1, .int .i64 0] 138 := HK1.out.set 1 _
    rw [e] at hrow hblk ⊢
    exact ⟨hblk, hrow, HB.out.lt, by rw [World.size_setCell]; exact Nat.le_trans HLE.out HA1.out.grown.size⟩
  · have hbb : (bad == 0) = false := beq_eq_false_iff_ne.2 hb
    go_wp2
    go_end0
    refine ⟨rfl, ⟨A, c, ?_, .inl ⟨rfl, rfl⟩⟩, KeptB.refl _ _ _, fun _ _ _ _ _ h2 _ => h2⟩
    exact HB.out
set_option maxHeartbeats 2000000 in
set_option maxRecDepth 100000 in
theorem restM_any (B b N : Nat) (held : List UInt8) (bad : Int) (A : Option Addr) (c : Nat) (u : World) (h : BoxM B b (.func (.func N) #[] #[]) held bad A c u) (hl : held.length ≤ 1099511627776) :
    Calls Tryz.prog 26 #[.pointer (some ⟨b, 0, none⟩)] u (RetC u held) := by
  have HC := Lib.hid (slicesClone_any A held.length c held u hl rfl h.row.nilO h.row.rd)
  obtain ⟨z0, z1, z2⟩ := h.blk.cells3
  clear h
  go_enter Tryz.func26, Tryz.ntmps26
  go_wp2_with fail
  refine HC.out.mono ?_
  rintro e w1 ⟨A1, c1, rfl, hr1, hb1⟩
  have HR := Lib.hid hr1
  have HB := Lib.hid hb1
  clear hr1 hb1 HC z0 z1 z2
  go_wp2
  go_ret
  exact ⟨A1, c1, rfl, HR.out, HB.out⟩

/-- A box: its reader, the bytes that it holds, its error; the bytes' block lies at B or above. -/
structure BoxI (B b : Nat) (rv : Value) (held : List UInt8) (bad : Int) (A : Option Addr) (c : Nat) (u : World) : Prop where
  blk : Blk u b #[rv, .slice A held.length c, .int .i64 bad] 146
  row : ORow u B A held.length c held
  lt : b < B
  le : B ≤ u.heap.size
theorem BoxI.below {B b : Nat} {rv : Value} {held : List UInt8} {bad : Int} {A : Option Addr} {c : Nat} {u v : World} (h : BoxI B b rv held bad A c u) (hb : Below u.heap.size u v) : BoxI B b rv held bad A c v :=
  ⟨h.blk.below hb, h.row.below hb, h.lt, Nat.le_trans h.le hb.size⟩
/-- The box behind a call that has turned it. -/
theorem BoxI.turned {B b : Nat} {rv : Value} {held held' : List UInt8} {bad bad' : Int} {A A' : Option Addr} {c c' : Nat} {w u : World} (h : BoxI B b rv held bad A c w) (hk : KeptB w.heap.size b w u) (hb : Blk u b #[rv, .slice A' held'.length c', .int .i64 bad'] 146) (hr : ORow w B A' held'.length c' held') : BoxI B b rv held' bad' A' c' u :=
  ⟨hb, hr.keptL hk h.lt (Nat.le_refl _), h.lt, Nat.le_trans h.le hk.size⟩
set_option maxHeartbeats 1000000 in
set_option maxRecDepth 100000 in
theorem newI_any (N : Nat) (w : World) : Calls Tryz.prog 27 #[.func (.func N) #[] #[]] w (fun e w' => e = .returned (.pointer (some ⟨w.heap.size, 0, none⟩)) ∧ w' = w.alloc (.cells #[.func (.func N) #[] #[], .slice none 0 0, .int .i64 0] 146)) := by
  go_enter Tryz.func27, Tryz.ntmps27
  go_wp2
  go_ret
  exact ⟨rfl, rfl⟩
set_option maxHeartbeats 2000000 in
set_option maxRecDepth 100000 in
theorem feedI_any (B b N : Nat) (held ps : List UInt8) (bad : Int) (A : Option Addr) (c : Nat) (S : Option Addr) (d : Nat) (u : World) (h : BoxI B b (.func (.func N) #[] #[]) held bad A c u) (hl : held.length + ps.length ≤ 1099511627776) (hx : Rd u S ps.length 1 (bcells ps)) :
    Calls Tryz.prog 30 #[.pointer (some ⟨b, 0, none⟩), .slice S ps.length d] u (fun e w' => e = .returned (.tuple #[]) ∧ (∃ A' c', BoxI B b (.func (.func N) #[] #[]) (if bad = 0 then held ++ ps else held) bad A' c' w' ∧ ((A' = A ∧ c' = c) ∨ ∃ g, A' = some ⟨g, 0, none⟩ ∧ u.heap.size ≤ g)) ∧ KeptB B b u w' ∧ ∀ (b2 n2 c2 : Nat) (E : Option Addr) (l2 : List UInt8), ORow u b2 E n2 c2 l2 → (∀ k, ownB E c2 = some k → ownB A c ≠ some k ∧ k ≠ b) → ORow w' b2 E n2 c2 l2) := by
  have HB := Lib.hid h
  have HX := Lib.hid hx
  have HLE := Lib.hid h.le
  obtain ⟨z0, z1, z2⟩ := h.blk.cells3
  have f1 := h.blk.free 1
  clear h hx
  go_enter Tryz.func30, Tryz.ntmps30
  by_cases hb : bad = 0
  · subst hb
    go_wp2_with (at_builtin; refine appO _ rfl (.tmp 13) (.tmp 14) rfl B A held.length c held rfl HB.out.row S ps.length d ps rfl HX.out (by omega) HLE.out ?_; intro A1 c1 w1 hr1 ha1; have HR1 := Lib.hid hr1; have HA1 := Lib.hid ha1; have hk1 := HB.out.blk.app ha1 (fun k hk => by have := (HB.out.row.lt k hk).1; have := HB.out.lt; omega); have HK1 := Lib.hid hk1; obtain ⟨y0, y1, y2⟩ := hk1.cells3; have g1 := hk1.free 1; clear hr1 ha1 hk1 z0 z1 z2 f1)
    go_end0
    have e : held.length + ps.length = (held ++ ps).length := List.length_append.symm
    refine ⟨rfl, ⟨A1, c1, ?_, HA1.out.moved⟩, ((KeptB.refl B b u).grown HA1.out.grown (fun k hk => (HB.out.row.lt k hk).1) HLE.out).set 1 _, fun b2 n2 c2 E l2 h2 hs => (h2.keptG HA1.out.grown (fun k hk => (hs k hk).1)).farN (fun k hk e => (hs k hk).2 e.symm) 1 _⟩
    have hrow := HR1.out.far HB.out.lt 1 (.slice A1 (held.length + ps.length) c1)
    have hblk : Blk (w1.setCell ⟨b, 1, none⟩ (.slice A1 (held.length + ps.length) c1)) b #[.func (.func N) #[] #[], .slice A1 (held.length + ps.length) c1, .int .i64 0] 146 := HK1.out.set 1 _
    rw [e] at hrow hblk ⊢
    exact ⟨hblk, hrow, HB.out.lt, by rw [World.size_setCell]; exact Nat.le_trans HLE.out HA1.out.grown.size⟩
  · have hbb : (bad == 0) = false := beq_eq_false_iff_ne.2 hb
    go_wp2
    go_end0
    refine ⟨rfl, ⟨A, c, ?_, .inl ⟨rfl, rfl⟩⟩, KeptB.refl _ _ _, fun _ _ _ _ _ h2 _ => h2⟩
    exact HB.out
set_option maxHeartbeats 2000000 in
set_option maxRecDepth 100000 in
theorem restI_any (B b N : Nat) (held : List UInt8) (bad : Int) (A : Option Addr) (c : Nat) (u : World) (h : BoxI B b (.func (.func N) #[] #[]) held bad A c u) (hl : held.length ≤ 1099511627776) :
    Calls Tryz.prog 29 #[.pointer (some ⟨b, 0, none⟩)] u (RetC u held) := by
  have HC := Lib.hid (slicesClone_any A held.length c held u hl rfl h.row.nilO h.row.rd)
  obtain ⟨z0, z1, z2⟩ := h.blk.cells3
  clear h
  go_enter Tryz.func29, Tryz.ntmps29
  go_wp2_with fail
  refine HC.out.mono ?_
  rintro e w1 ⟨A1, c1, rfl, hr1, hb1⟩
  have HR := Lib.hid hr1
  have HB := Lib.hid hb1
  clear hr1 hb1 HC z0 z1 z2
  go_wp2
  go_ret
  exact ⟨A1, c1, rfl, HR.out, HB.out⟩
end Go.Proofs.YteehjkfmlcfffaaGreatDoor
