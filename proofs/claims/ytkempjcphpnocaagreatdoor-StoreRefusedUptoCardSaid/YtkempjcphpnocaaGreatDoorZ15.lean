/- A whole message, as plain functions on its bytes; the walks of slices.Clone and inbox.fill. Conditions: a row of at most 2^28 bytes; the library's two tables of UTF-8; internal/bytealg.MaxLen; strconv's two error variables. The walk of inbox.Request (printed by gen/msgq.py). Conditions: a row of at most 2^28 bytes; the library's two tables of UTF-8; internal/bytealg.MaxLen; strconv's two error variables. The walks of CopyResponse and hop.Response. Conditions: a list of bulk at most 2^30, texts of at most 2^30 bytes, a number of 64 bits, the library's table of powers of ten. -/
import Derived.Test.YtkempjcphpnocaaGreatDoorZ02
import Derived.Test.YtkempjcphpnocaaGreatDoorRowA
import Derived.Test.YtkempjcphpnocaaGreatDoorZ11
import Derived.Deep.QuietTactic
import Derived.BigQuiet
import Derived.Test.YtkempjcphpnocaaGreatDoorHeadA
import Derived.Test.YtkempjcphpnocaaGreatDoorZ04
import Derived.Deep.CutBlock
import Derived.Deep.DeepCutAuto
import Derived.Test.YtkempjcphpnocaaGreatDoorHeadB
import Derived.Test.YtkempjcphpnocaaGreatDoorZ16
import Derived.IntWalk
import Derived.Test.YtkempjcphpnocaaGreatDoorZ03
import Derived.Test.YtkempjcphpnocaaGreatDoorZ00
import Derived.Test.YtkempjcphpnocaaGreatDoorReplyA
import Derived.Test.YtkempjcphpnocaaGreatDoorPlainB
import Derived.Lib.ItoaLen
namespace Go.Proofs.YtkempjcphpnocaaGreatDoor
open Go.RowKit

namespace M
/-- A body read: its bytes, its trailers, how many bytes the message takes, the error. -/
structure BD where
  d : List UInt8
  f : List FD
  n : Int
  e : Int
def BD.bad (e : Int) : BD := ⟨[], [], 0, e⟩
def body (bs : List UInt8) (N : Nat) (k z : Int) : BD :=
  if k = 1 then (if (bs.length : Int) < N + z then .bad 0 else ⟨(bs.drop N).take z.toNat, [], N + z, 0⟩)
  else if k = 2 then (if (C.decode (bs.drop N)).e ≠ 0 ∨ (C.decode (bs.drop N)).n = 0 then .bad (C.decode (bs.drop N)).e else ⟨(C.decode (bs.drop N)).d, (C.decode (bs.drop N)).f, N + ((C.decode (bs.drop N)).n : Int), 0⟩)
  else ⟨[], [], N + z, 0⟩
end M
theorem CRow.farB {w : World} {base : Nat} {A : Option Addr} {n c b : Nat} {bs : List UInt8} (h : CRow w base A n c bs) (hb : b < base) (i : Nat) (x : Value) : CRow (w.setCell ⟨b, i, none⟩ x) base A n c bs := by
  refine ⟨h.1, h.2.1, ?_⟩
  rcases h.2.2 with h0 | ⟨g, hg, h1, h2, h3, h4⟩
  · exact .inl h0
  · have hne : (⟨b, i, none⟩ : Addr).block ≠ g := by show b ≠ g; omega
    have hbl : (w.setCell ⟨b, i, none⟩ x).heap[g]? = w.heap[g]? := by
      unfold World.setCell
      simp only [Array.getElem?_modify]
      rw [if_neg hne]
    have hc : ∀ j, (w.setCell ⟨b, i, none⟩ x).cell? ⟨g, j, none⟩ = w.cell? ⟨g, j, none⟩ := fun j => by
      unfold World.cell?
      simp only [hbl]
    have hf : ∀ j, (w.setCell ⟨b, i, none⟩ x).frozen? ⟨g, j, none⟩ = w.frozen? ⟨g, j, none⟩ := fun j => by
      unfold World.frozen?
      simp only [hbl]
    refine .inr ⟨g, hg, h1, by rw [World.size_setCell]; exact h2, fun j hj => ?_, fun j u hu => ?_⟩
    · rw [hc, hf]; exact h3 j hj
    · rw [hc]; exact h4 j u hu
/-- Of what was there, the cells 8 and 9 of the block p alone may have turned. -/
def Fills (p : Nat) (w w' : World) : Prop := ∃ w1, Below w.heap.size w w1 ∧ (w' = w1 ∨ ∃ x, w' = w1.setCell ⟨p, 8, none⟩ x ∨ ∃ y, w' = (w1.setCell ⟨p, 8, none⟩ x).setCell ⟨p, 9, none⟩ y)
section
variable {p : Nat} {w w' : World}
theorem Fills.of (h : Below w.heap.size w w') : Fills p w w' := ⟨w', h, .inl rfl⟩
theorem Fills.one {w1 : World} (h : Below w.heap.size w w1) (x : Value) : Fills p w (w1.setCell ⟨p, 8, none⟩ x) := ⟨w1, h, .inr ⟨x, .inl rfl⟩⟩
theorem Fills.two {w1 : World} (h : Below w.heap.size w w1) (x y : Value) : Fills p w ((w1.setCell ⟨p, 8, none⟩ x).setCell ⟨p, 9, none⟩ y) := ⟨w1, h, .inr ⟨x, .inr ⟨y, rfl⟩⟩⟩
theorem Fills.blk (h : Fills p w w') {b : Nat} {cs : Array Value} {t : TypeId} (hb : Blk w b cs t) (hne : p ≠ b) : Blk w' b cs t := by
  obtain ⟨w1, h1, rfl | ⟨x, rfl | ⟨y, rfl⟩⟩⟩ := h
  · exact hb.below h1
  · exact (hb.below h1).far 8 x hne
  · exact ((hb.below h1).far 8 x hne).far 9 y hne
theorem Fills.row (h : Fills p w w') {base : Nat} {e : TypeId} {size n c : Nat} {A : Option Addr} {xs : List Value} {cs : Array Value} {t : TypeId} (hr : Row w base e size A n c xs) (hp : Blk w p cs t) (hne : t ≠ e) : Row w' base e size A n c xs := by
  obtain ⟨w1, h1, rfl | ⟨x, rfl | ⟨y, rfl⟩⟩⟩ := h
  · exact hr.below h1
  · exact (hr.below h1).farT (hp.below h1) hne 8 x
  · exact ((hr.below h1).farT (hp.below h1) hne 8 x).farT ((hp.below h1).set 8 x) hne 9 y
theorem Fills.low (h : Fills p w w') {B : Nat} {w0 : World} (hl : Below B w0 w) (hs : B ≤ w.heap.size) (hB : B ≤ p) : Below B w0 w' := by
  obtain ⟨w1, h1, rfl | ⟨x, rfl | ⟨y, rfl⟩⟩⟩ := h
  · exact below_then hs hl h1
  · exact below_set (below_then hs hl h1) hB 8 x
  · exact below_set (below_set (below_then hs hl h1) hB 8 x) hB 9 y
end
end Go.Proofs.YtkempjcphpnocaaGreatDoor

namespace Go.Proofs.YtkempjcphpnocaaGreatDoor
open Go.RowKit

section
variable {w : World} {b : Nat} {t : TypeId} {x0 x1 x2 x3 x4 x5 x6 x7 x8 x9 : Value}
/-- A struct of ten written over, cell by cell. -/
def ten (w : World) (b : Nat) (y0 y1 y2 y3 y4 y5 y6 y7 y8 y9 : Value) : World := ((((((((((w.setCell ⟨b, 0, none⟩ y0).setCell ⟨b, 1, none⟩ y1).setCell ⟨b, 2, none⟩ y2).setCell ⟨b, 3, none⟩ y3).setCell ⟨b, 4, none⟩ y4).setCell ⟨b, 5, none⟩ y5).setCell ⟨b, 6, none⟩ y6).setCell ⟨b, 7, none⟩ y7).setCell ⟨b, 8, none⟩ y8).setCell ⟨b, 9, none⟩ y9)
end
namespace M
/-- A message told: the request's parts, the body, the trailers, its length, the error. -/
structure MQ where
  m : ByteArray
  t : ByteArray
  v : Int
  fs : List FD
  d : List UInt8
  f : List FD
  n : Int
  e : Int
def MQ.bad (e : Int) : MQ := ⟨⟨#[]⟩, ⟨#[]⟩, 0, [], [], [], 0, e⟩
def whole (q : P.RQ) (b : BD) : MQ := if b.e ≠ 0 ∨ b.n = 0 then .bad b.e else ⟨q.m, q.t, q.v, q.fs, b.d, b.f, b.n, 0⟩
def framed (bs : List UInt8) (q : P.RQ) (f : F.FR) : MQ := if f.e ≠ 0 then .bad f.e else whole q (body bs q.n.toNat f.k f.n)
def request (bs : List UInt8) : MQ := if (P.request bs).e ≠ 0 ∨ (P.request bs).n = 0 then .bad (P.request bs).e else framed bs (P.request bs) (F.frame (P.request bs).v (P.request bs).fs 0)
end M
/-- A message answered: all of its lists are the call's own. -/
def RetMsg (w : World) (r : M.MQ) (e : Ending) (w' : World) : Prop :=
  ∃ A c D d T k, e = .returned (.tuple #[.agg #[.string r.m, .string r.t, .int .i64 r.v, .slice A r.fs.length c, .int .i64 0, .string ⟨#[]⟩, .int .i64 0, .slice none 0 0, .slice D r.d.length d, .slice T r.f.length k], .int .i64 r.n, .int .i64 r.e]) ∧
    Row w' w.heap.size 167 2 A r.fs.length c (fcells r.fs) ∧ CRow w' w.heap.size D r.d.length d r.d ∧ Row w' w.heap.size 167 2 T r.f.length k (fcells r.f) ∧ Below w.heap.size w w'
theorem RetMsg.bad {w w' : World} {r : M.MQ} {code : Int} (hb : Below w.heap.size w w') (h : r = .bad code) : RetMsg w r (.returned (.tuple #[.agg #[.string ⟨#[]⟩, .string ⟨#[]⟩, .int .i64 0, .slice none 0 0, .int .i64 0, .string ⟨#[]⟩, .int .i64 0, .slice none 0 0, .slice none 0 0, .slice none 0 0], .int .i64 0, .int .i64 code])) w' := by
  subst h
  exact ⟨none, 0, none, 0, none, 0, rfl, Row.none_ _ _ _ _, CRow.none_ _ _, Row.none_ _ _ _ _, hb⟩
end Go.Proofs.YtkempjcphpnocaaGreatDoor

namespace Go.Proofs.YtkempjcphpnocaaGreatDoor
open Go.RowKit

/-- A post that is met at an ordinary end alone. -/
def onNormal (Q : Act → World → Prop) : Exit → Act → World → Prop
  | .normal, a, w => Q a w
  | _, _, _ => False
theorem onNormal.imp {Q : Act → World → Prop} {Q' : Exit → Act → World → Prop} (h : ∀ a w, Q a w → Q' .normal a w) : ∀ (e : Exit) (a : Act) (w : World), onNormal Q e a w → Q' e a w := fun e a w hq => by
  cases e <;> first | exact h a w hq | exact (hq : False).elim
/-- A response, answered. -/
def RetR (w : World) (s : Int) (r : ByteArray) (m : Int) (xs : List FD) (e : Ending) (w' : World) : Prop :=
  ∃ A c, e = .returned (.agg #[.int .i64 s, .string r, .int .i64 m, .slice A xs.length c]) ∧ Row w' w.heap.size 167 2 A xs.length c (fcells xs) ∧ Below w.heap.size w w'

theorem Row.far {w : World} {base : Nat} {e : TypeId} {size : Nat} {A : Option Addr} {n c : Nat} {xs : List Value} (h : Row w base e size A n c xs) {b i : Nat} (hb : b < base) (v : Value) : Row (w.setCell ⟨b, i, none⟩ v) base e size A n c xs := by
  rcases h with ⟨h1, h2⟩ | h
  · refine .inl ⟨h1, ?_⟩
    rcases h2 with h2 | ⟨g, cap, cur, hv, hg, hh, r⟩
    · exact .inl h2
    · refine .inr ⟨g, cap, cur, hv, hg, ?_, r⟩
      rw [← hh]
      unfold World.setCell
      simp only [Array.getElem?_modify]
      rw [if_neg (by omega)]
  · exact .inr h

theorem Four.far {u : World} {b b' : Nat} (h : Four u b') (hne : b' ≠ b) (i : Nat) (x : Value) : Four (u.setCell ⟨b, i, none⟩ x) b' := by
  obtain ⟨⟨a0, f0⟩, ⟨a1, f1⟩, ⟨a2, f2⟩, ⟨a3, f3⟩⟩ := h
  have o : ∀ j, (u.setCell ⟨b, i, none⟩ x).cell? ⟨b', j, none⟩ = u.cell? ⟨b', j, none⟩ := fun j => World.cell?_setCell_far _ _ _ _ (fun e => hne e.symm)
  have f : ∀ j, (u.setCell ⟨b, i, none⟩ x).frozen? ⟨b', j, none⟩ = u.frozen? ⟨b', j, none⟩ := fun j => World.frozen?_setCell _ _ _ _
  exact ⟨⟨at_of ((o 0).trans a0), (f 0).trans f0⟩, ⟨at_of ((o 1).trans a1), (f 1).trans f1⟩, ⟨at_of ((o 2).trans a2), (f 2).trans f2⟩, ⟨at_of ((o 3).trans a3), (f 3).trans f3⟩⟩
theorem Row.set4 {w : World} {base : Nat} {e : TypeId} {size : Nat} {A : Option Addr} {n c : Nat} {xs : List Value} (h : Row w base e size A n c xs) {b : Nat} (hb : b < base) (y0 y1 y2 y3 : Value) : Row ((((w.setCell ⟨b, 0, none⟩ y0).setCell ⟨b, 1, none⟩ y1).setCell ⟨b, 2, none⟩ y2).setCell ⟨b, 3, none⟩ y3) base e size A n c xs :=
  (((h.far hb _).far hb _).far hb _).far hb _
theorem below_set4 {B : Nat} {w u : World} (h : Below B w u) {b : Nat} (hb : B ≤ b) (y0 y1 y2 y3 : Value) : Below B w ((((u.setCell ⟨b, 0, none⟩ y0).setCell ⟨b, 1, none⟩ y1).setCell ⟨b, 2, none⟩ y2).setCell ⟨b, 3, none⟩ y3) :=
  (((h.setCell (p := ⟨b, 0, none⟩) hb _).setCell (p := ⟨b, 1, none⟩) hb _).setCell (p := ⟨b, 2, none⟩) hb _).setCell (p := ⟨b, 3, none⟩) hb _

set_option maxHeartbeats 400000 in
theorem copyResponse_any (s m : Int) (r : ByteArray) (A : Option Addr) (n c : Nat) (fs : List FD) (w : World) (hl : fs.length = n) (hn : n ≤ 1099511627776) (hx : Rd w A n 2 (fcells fs)) :
    Calls Tryz.prog 44 #[.agg #[.int .i64 s, .string r, .int .i64 m, .slice A n c]] w (RetR w s r m fs) := by
  have HC := Lib.hid (fun (w1 : World) (hb : Below w.heap.size w w1) => copyFields_any A n c fs w1 hn (hx.below hb))
  subst hl
  clear hx hn
  go_enter Tryz.func44, Tryz.ntmps44
  go_wp2_with fail
  refine (HC.out _ (((Below.refl _ _).alloc (Nat.le_refl _) _).alloc (by rw [World.size_alloc]; omega) _)).mono ?_
  rintro e w1 ⟨A1, c1, rfl, hr1, hb1⟩
  obtain ⟨x0, x1, x2, x3⟩ := ((newFour (w := w) (.int .i64 s) (.string r) (.int .i64 m) (.slice A fs.length c) 25).below ((Below.refl _ _).alloc (Nat.le_refl _) _)).below hb1
  have y4 := (newFour (w := w.alloc (.cells #[.int .i64 s, .string r, .int .i64 m, .slice A fs.length c] 25)) (.int .i64 0) (.string ⟨#[]⟩) (.int .i64 0) (.slice none 0 0) 25).below hb1
  have g4 : ∀ i, w1.frozen? ⟨w.heap.size + 1, i, none⟩ = false := fun i => by
    have := newFree hb1 i
    rwa [World.size_alloc] at this
  have k4 : w1.frozen? ⟨w.heap.size, 3, none⟩ = false := by
    rw [hb1.frozen (p := ⟨w.heap.size, 3, none⟩) (by simp only [World.size_alloc]; omega)]
    rw [frozen?_alloc_cells]
    exact newFour_free _ _ _
  rw [World.size_alloc] at y4
  obtain ⟨y0, y1, y2, y3⟩ := y4
  have g0 := g4 0
  have g1 := g4 1
  have g2 := g4 2
  have g3 := g4 3
  have HG4 := Lib.hid g4
  have HY4 := Lib.hid (show Four w1 (w.heap.size + 1) from ⟨⟨at_of y0, g0⟩, ⟨at_of y1, g1⟩, ⟨at_of y2, g2⟩, ⟨at_of y3, g3⟩⟩)
  have hB := below_then (b := (w.alloc (.cells #[.int .i64 s, .string r, .int .i64 m, .slice A fs.length c] 25)).alloc (.cells #[.int .i64 0, .string ⟨#[]⟩, .int .i64 0, .slice none 0 0] 25)) (by simp only [World.size_alloc]; omega) (((Below.refl _ _).alloc (Nat.le_refl _) _).alloc (by rw [World.size_alloc]; omega) _) hb1
  have HB := Lib.hid hB
  have HR := Lib.hid hr1
  clear hB hb1 hr1 g4 HC
  go_wp2
  have hfour := (HY4.out.far (b := w.heap.size) (by omega) 3 (.slice A1 fs.length c1)).set4 (.int .i64 s) (.string r) (.int .i64 m) (.slice A1 fs.length c1)
  have hrow := (HR.out.far (b := w.heap.size) (i := 3) (by simp only [World.size_alloc]; omega) (.slice A1 fs.length c1)).set4 (b := w.heap.size + 1) (by simp only [World.size_alloc]; omega) (.int .i64 s) (.string r) (.int .i64 m) (.slice A1 fs.length c1)
  have hbel := below_set4 (HB.out.setCell (p := ⟨w.heap.size, 3, none⟩) (Nat.le_refl _) (.slice A1 fs.length c1)) (b := w.heap.size + 1) (by omega) (.int .i64 s) (.string r) (.int .i64 m) (.slice A1 fs.length c1)
  clear x0 x1 x2 x3 y0 y1 y2 y3 g0 g1 g2 g3 k4 HY4 HR HB
  generalize (((((w1.setCell ⟨w.heap.size, 3, none⟩ (.slice A1 fs.length c1)).setCell ⟨w.heap.size + 1, 0, none⟩ (.int .i64 s)).setCell ⟨w.heap.size + 1, 1, none⟩ (.string r)).setCell ⟨w.heap.size + 1, 2, none⟩ (.int .i64 m)).setCell ⟨w.heap.size + 1, 3, none⟩ (.slice A1 fs.length c1)) = U at *
  obtain ⟨d0, d1, d2, d3⟩ := hfour
  refine bodyPost_ret (v := .agg #[.int .i64 s, .string r, .int .i64 m, .slice A1 fs.length c1]) (by simp [results, Tryz.results44, go_sem, d0, d1, d2, d3]) rfl ?_
  exact ⟨A1, c1, rfl, hrow.mono (by simp only [World.size_alloc]; omega), hbel⟩

/-- A struct of four cells at b, another behind it, both the call's own. -/
def HoldR (w : World) (b : Nat) (x0 x1 x2 x3 : Value) (u : World) : Prop := Four4 u b x0 x1 x2 x3 ∧ Four u b ∧ Four u (b + 1) ∧ Below w.heap.size w u
theorem HoldR.below {w : World} {b : Nat} {x0 x1 x2 x3 : Value} {u v : World} (h : HoldR w b x0 x1 x2 x3 u) (hb : Below u.heap.size u v) : HoldR w b x0 x1 x2 x3 v :=
  ⟨h.1.below hb, h.2.1.below hb, h.2.2.1.below hb, below_then h.2.2.2.size h.2.2.2 hb⟩

end Go.Proofs.YtkempjcphpnocaaGreatDoor
