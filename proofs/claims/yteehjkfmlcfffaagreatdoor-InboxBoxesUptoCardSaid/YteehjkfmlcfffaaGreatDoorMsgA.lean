/- A whole message, as plain functions on its bytes; the walks of slices.Clone and inbox.fill. Conditions: a row of at most 2^28 bytes; the library's two tables of UTF-8; internal/bytealg.MaxLen; strconv's two error variables. The walk of inbox.Request (printed by gen/msgq.py). Conditions: a row of at most 2^28 bytes; the library's two tables of UTF-8; internal/bytealg.MaxLen; strconv's two error variables. -/
import Derived.Test.YteehjkfmlcfffaaGreatDoorInboxE
import Derived.Test.YteehjkfmlcfffaaGreatDoorCopyB
import Derived.Test.YteehjkfmlcfffaaGreatDoorChunkDA
import Derived.Test.YteehjkfmlcfffaaGreatDoorGrow
import Derived.Test.YteehjkfmlcfffaaGreatDoorHeads
import Derived.Deep.QuietTactic
import Derived.BigQuiet
namespace Go.Proofs.YteehjkfmlcfffaaGreatDoor
open Go.RowKit

namespace F
theorem lens_range (l : List ByteArray) : 0 ≤ (lens l).1 ∧ (lens l).1 ≤ 65536 := by
  unfold lens
  split
  · exact ⟨by decide, by decide⟩
  · rename_i h
    split
    · exact ⟨by decide, by decide⟩
    · rename_i h2
      refine ⟨?_, by omega⟩
      show 0 ≤ num (l.headD ⟨#[]⟩)
      refine Int.not_lt.1 fun h3 => h ?_
      cases l with
      | nil => exact .inl rfl
      | cons x r =>
        refine .inr ?_
        unfold lensB
        rw [List.any_eq_true]
        exact ⟨x, by simp, decide_eq_true (.inl h3)⟩
theorem frame_range (m : Int) (fs : List FD) (o : Int) : 0 ≤ (frame m fs o).n ∧ (frame m fs o).n ≤ 65536 ∧ ((frame m fs o).k ≠ 1 → (frame m fs o).n = 0) := by
  have hr := lens_range (els (values fs clN))
  have h0 : ∀ (a e : Int), 0 ≤ (⟨a, 0, e⟩ : FR).n ∧ (⟨a, 0, e⟩ : FR).n ≤ 65536 ∧ ((⟨a, 0, e⟩ : FR).k ≠ 1 → (⟨a, 0, e⟩ : FR).n = 0) := fun a e => ⟨(by decide : (0 : Int) ≤ 0), (by decide : (0 : Int) ≤ 65536), fun _ => rfl⟩
  unfold frame
  repeat' split
  all_goals first | exact h0 _ _ | exact ⟨hr.1, hr.2, fun h => absurd rfl h⟩
end F
namespace M
/-- A body read: its bytes, its trailers, how many bytes the message takes, the error. -/
structure BD where
  d : List UInt8
  f : List FD
  n : Int
  e : Int
def BD.bad (e : Int) : BD := ⟨[], [], 0, e⟩
def body (bs : List UInt8) (N : Nat) (k z : Int) : BD :=
  if k = 1 then (if (bs.length : Int) < N + z then .bad 0 else ⟨(bs.drop N).take z.toNat, [], N + z, 0⟩)
  else if k = 2 then (if (C.decode (bs.drop N)).e ≠ 0 ∨ (C.decode (bs.drop N)).n = 0 then .bad (C.decode (bs.drop N)).e else ⟨(C.decode (bs.drop N)).d, (C.decode (bs.drop N)).f, N + ((C.decode (bs.drop N)).n : Int), 0⟩)
  else ⟨[], [], N + z, 0⟩
theorem body_short {bs : List UInt8} {N : Nat} {z : Int} (h : (bs.length : Int) < N + z) : body bs N 1 z = .bad 0 := if_pos h
theorem body_len {bs : List UInt8} {N : Nat} {z : Int} (h : ¬ (bs.length : Int) < N + z) : body bs N 1 z = ⟨(bs.drop N).take z.toNat, [], N + z, 0⟩ := if_neg h
theorem body_cut {bs : List UInt8} {N : Nat} {z : Int} (h : (C.decode (bs.drop N)).e ≠ 0 ∨ (C.decode (bs.drop N)).n = 0) : body bs N 2 z = .bad (C.decode (bs.drop N)).e := if_pos h
theorem body_chunks {bs : List UInt8} {N : Nat} {z : Int} (h : ¬ ((C.decode (bs.drop N)).e ≠ 0 ∨ (C.decode (bs.drop N)).n = 0)) : body bs N 2 z = ⟨(C.decode (bs.drop N)).d, (C.decode (bs.drop N)).f, N + ((C.decode (bs.drop N)).n : Int), 0⟩ := if_neg h
theorem body_none {bs : List UInt8} {N : Nat} {z : Int} : body bs N 0 z = ⟨[], [], N + z, 0⟩ := rfl
end M
theorem CRow.farB {w : World} {base : Nat} {A : Option Addr} {n c b : Nat} {bs : List UInt8} (h : CRow w base A n c bs) (hb : b < base) (i : Nat) (x : Value) : CRow (w.setCell ⟨b, i, none⟩ x) base A n c bs := by
  refine ⟨h.1, h.2.1, ?_⟩
  rcases h.2.2 with h0 | ⟨g, hg, h1, h2, h3, h4⟩
  · exact .inl h0
  · have hne : (⟨b, i, none⟩ : Addr).block ≠ g := by show b ≠ g; omega
    have hbl : (w.setCell ⟨b, i, none⟩ x).heap[g]? = w.heap[g]? := by
      unfold World.setCell
      simp only [Array.getElem?_modify]
      rw [if_neg hne]
    have hc : ∀ j, (w.setCell ⟨b, i, none⟩ x).cell? ⟨g, j, none⟩ = w.cell? ⟨g, j, none⟩ := fun j => by
      unfold World.cell?
      simp only [hbl]
    have hf : ∀ j, (w.setCell ⟨b, i, none⟩ x).frozen? ⟨g, j, none⟩ = w.frozen? ⟨g, j, none⟩ := fun j => by
      unfold World.frozen?
      simp only [hbl]
    refine .inr ⟨g, hg, h1, by rw [World.size_setCell]; exact h2, fun j hj => ?_, fun j u hu => ?_⟩
    · rw [hc, hf]; exact h3 j hj
    · rw [hc]; exact h4 j u hu
set_option maxRecDepth 100000 in
set_option maxHeartbeats 1000000 in
theorem slicesClone_any (A : Option Addr) (n c : Nat) (bs : List UInt8) (w : World) (hn : n ≤ 1099511627776) (hl : bs.length = n) (hA : A = none → n = 0 ∧ c = 0) (hx : Rd w A n 1 (bcells bs)) :
    Calls Tryz.prog 76 #[.slice A n c] w (RetC w bs) := by
  subst hl
  cases A with
  | none =>
    obtain ⟨h1, rfl⟩ := hA rfl
    have h2 : bs = [] := List.length_eq_zero_iff.1 h1
    subst h2
    have he := fun w => Lib.run_eql_slice_nil (P := Tryz.prog) w 22 _ none 0 0 (h := Tryz.underlying22)
    clear hx h1
    go_enter Tryz.func76, Tryz.ntmps76
    go_wp2
    go_ret
    exact ⟨none, 0, rfl, CRow.none_ _ _, Below.refl _ _⟩
  | some a =>
    have HX := Lib.hid (hx.alloc (.cells #[] 5))
    have he := fun w => Lib.run_eql_slice_nil (P := Tryz.prog) w 22 _ (some a) bs.length c (h := Tryz.underlying22)
    clear hx
    go_enter Tryz.func76, Tryz.ntmps76
    go_wp2_with (at_builtin; refine appC _ rfl (.tmp 5) (.tmp 6) rfl w.heap.size _ 0 0 [] rfl ⟨rfl, Nat.le_refl _, .inl rfl⟩ (some a) bs.length c bs rfl HX.out (by omega) (by rw [World.size_alloc]; omega) ?_; intro A1 c1 w1 hr1 ha1)
    have hb := ((Below.refl w.heap.size w).alloc (Nat.le_refl _) (.cells #[] 5)).trans (ha1.belowC (⟨rfl, Nat.le_refl _, .inl rfl⟩ : CRow _ w.heap.size _ 0 0 []) (by rw [World.size_alloc]; omega))
    have e : 0 + bs.length = bs.length := Nat.zero_add _
    rw [e] at hr1
    go_ret
    exact ⟨A1, c1, rfl, hr1, hb⟩
/-- Of what was there, the cells 8 and 9 of the block p alone may have turned. -/
def Fills (p : Nat) (w w' : World) : Prop := ∃ w1, Below w.heap.size w w1 ∧ (w' = w1 ∨ ∃ x, w' = w1.setCell ⟨p, 8, none⟩ x ∨ ∃ y, w' = (w1.setCell ⟨p, 8, none⟩ x).setCell ⟨p, 9, none⟩ y)
section
variable {p : Nat} {w w' : World}
theorem Fills.of (h : Below w.heap.size w w') : Fills p w w' := ⟨w', h, .inl rfl⟩
theorem Fills.one {w1 : World} (h : Below w.heap.size w w1) (x : Value) : Fills p w (w1.setCell ⟨p, 8, none⟩ x) := ⟨w1, h, .inr ⟨x, .inl rfl⟩⟩
theorem Fills.two {w1 : World} (h : Below w.heap.size w w1) (x y : Value) : Fills p w ((w1.setCell ⟨p, 8, none⟩ x).setCell ⟨p, 9, none⟩ y) := ⟨w1, h, .inr ⟨x, .inr ⟨y, rfl⟩⟩⟩
theorem Fills.blk (h : Fills p w w') {b : Nat} {cs : Array Value} {t : TypeId} (hb : Blk w b cs t) (hne : p ≠ b) : Blk w' b cs t := by
  obtain ⟨w1, h1, rfl | ⟨x, rfl | ⟨y, rfl⟩⟩⟩ := h
  · exact hb.below h1
  · exact (hb.below h1).far 8 x hne
  · exact ((hb.below h1).far 8 x hne).far 9 y hne
theorem Fills.row (h : Fills p w w') {base : Nat} {e : TypeId} {size n c : Nat} {A : Option Addr} {xs : List Value} {cs : Array Value} {t : TypeId} (hr : Row w base e size A n c xs) (hp : Blk w p cs t) (hne : t ≠ e) : Row w' base e size A n c xs := by
  obtain ⟨w1, h1, rfl | ⟨x, rfl | ⟨y, rfl⟩⟩⟩ := h
  · exact hr.below h1
  · exact (hr.below h1).farT (hp.below h1) hne 8 x
  · exact ((hr.below h1).farT (hp.below h1) hne 8 x).farT ((hp.below h1).set 8 x) hne 9 y
theorem Fills.low (h : Fills p w w') {B : Nat} {w0 : World} (hl : Below B w0 w) (hs : B ≤ w.heap.size) (hB : B ≤ p) : Below B w0 w' := by
  obtain ⟨w1, h1, rfl | ⟨x, rfl | ⟨y, rfl⟩⟩⟩ := h
  · exact below_then hs hl h1
  · exact below_set (below_then hs hl h1) hB 8 x
  · exact below_set (below_set (below_then hs hl h1) hB 8 x) hB 9 y
end
/-- What fill answers: the block p of ten cells, of which the last two may be written. -/
def RetFill (w : World) (p : Nat) (x0 x1 x2 x3 x4 x5 x6 x7 : Value) (r : M.BD) (e : Ending) (w' : World) : Prop :=
  e = .returned (.tuple #[.int .i64 r.n, .int .i64 r.e]) ∧ Fills p w w' ∧
    ∃ A1 c1 A2 c2, Blk w' p #[x0, x1, x2, x3, x4, x5, x6, x7, .slice A1 r.d.length c1, .slice A2 r.f.length c2] 29 ∧
      CRow w' (p + 1) A1 r.d.length c1 r.d ∧ Row w' (p + 1) 148 2 A2 r.f.length c2 (fcells r.f)
theorem RetFill.bad {w w' : World} {p : Nat} {x0 x1 x2 x3 x4 x5 x6 x7 : Value} {r : M.BD} {code : Int} (hb : Fills p w w') (hk : Blk w' p #[x0, x1, x2, x3, x4, x5, x6, x7, .slice none 0 0, .slice none 0 0] 29) (h : r = .bad code) :
    RetFill w p x0 x1 x2 x3 x4 x5 x6 x7 r (.returned (.tuple #[.int .i64 0, .int .i64 code])) w' := by
  subst h
  exact ⟨rfl, hb, none, 0, none, 0, hk, CRow.none_ _ _, Row.none_ _ _ _ _⟩
theorem neM : 29 ≠ 148 := by decide
set_option maxHeartbeats 4000000 in
set_option maxRecDepth 100000 in
theorem fill_any (p : Nat) (x0 x1 x2 x3 x4 x5 x6 x7 : Value) (A : Option Addr) (c : Nat) (bs : List UInt8) (N : Nat) (k z : Int) (w : World) (hnm : bs.length ≤ 268435456) (hnc : bs.length ≤ c) (hN0 : 0 < N) (hN : N ≤ bs.length) (hk : k = 0 ∨ k = 1 ∨ k = 2) (hz0 : 0 ≤ z) (hz : z ≤ 65536)
    (hpl : ∀ a, A = some a → a.spot = none ∨ c = 0) (hx : Rd w A bs.length 1 (bcells bs)) (ht : LibOk w) (he : ErrOk w) (hBlk : Blk w p #[x0, x1, x2, x3, x4, x5, x6, x7, .slice none 0 0, .slice none 0 0] 29) :
    Calls Tryz.prog 75 #[.pointer (some ⟨p, 0, none⟩), .slice A bs.length c, .int .i64 N, .agg #[.int .i64 k, .int .i64 z]] w (RetFill w p x0 x1 x2 x3 x4 x5 x6 x7 (M.body bs N k z)) := by
  obtain ⟨b, o, rfl, _, _⟩ := hx.2 (by omega)
  have hpw := hBlk.lt
  obtain ⟨Z, rfl⟩ : ∃ Z : Nat, z = (Z : Int) := ⟨z.toNat, by omega⟩
  have HK1 := Lib.hid (hBlk.alloc (.cells #[.int .i64 k, .int .i64 Z] 130))
  have HL1 : Hid (Below w.heap.size w (w.alloc (.cells #[.int .i64 k, .int .i64 Z] 130))) := Lib.hid ((Below.refl w.heap.size w).alloc (Nat.le_refl _) _)
  have HX1 := Lib.hid (hx.alloc (.cells #[.int .i64 k, .int .i64 Z] 130))
  have HF1 := Lib.hid (Blk.new w #[.int .i64 k, .int .i64 Z] 130)
  have hb1 := ((Below.refl w.heap.size w).alloc (Nat.le_refl _) (.cells #[.int .i64 k, .int .i64 Z] 130))
  have HT1 := Lib.hid (ht.below hb1)
  have HE1 := Lib.hid (he.below hb1)
  have hpl1 : ∀ a : Addr, some (⟨b, o, none⟩ : Addr) = some a → a.spot = none := fun a h => by cases h; rfl
  have hp1 : p < (w.alloc (.cells #[.int .i64 k, .int .i64 Z] 130)).heap.size := by rw [World.size_alloc]; omega
  clear hx ht he hBlk hb1 hpl
  obtain ⟨y0, y1⟩ := HF1.out.cells2
  obtain ⟨f8, f9⟩ := And.intro (HK1.out.free 8) (HK1.out.free 9)
  obtain ⟨z8, z9⟩ := And.intro (HK1.out.cell 8 rfl) (HK1.out.cell 9 rfl)
  rcases hk with rfl | rfl | rfl
  · -- no body
    rw [M.body_none]
    go_enter Tryz.func75, Tryz.ntmps75
    go_wp2
    go_ret2
    exact ⟨rfl, Fills.of HL1.out, none, 0, none, 0, HK1.out, CRow.none_ _ _, Row.none_ _ _ _ _⟩
  · -- as long as said
    by_cases hs : (bs.length : Int) < (N : Int) + (Z : Int)
    · have HR := Lib.hid (M.body_short hs)
      go_enter Tryz.func75, Tryz.ntmps75
      go_wp2
      go_ret2
      exact RetFill.bad (Fills.of HL1.out) HK1.out HR.out
    · have HR := Lib.hid (M.body_len hs)
      have hZ : N + Z ≤ bs.length := by omega
      have hlen : ((bs.drop N).take Z).length = Z := by rw [List.length_take, List.length_drop]; omega
      have HC := Lib.hid (fun (A1 : Addr) (c1 : Nat) (hr : Rd (w.alloc (.cells #[.int .i64 1, .int .i64 Z] 130)) (some A1) Z 1 (bcells ((bs.drop N).take Z))) => slicesClone_any (some A1) Z c1 ((bs.drop N).take Z) _ (by omega) hlen (fun h => by cases h) hr)
      have HRD : Hid (Rd (w.alloc (.cells #[.int .i64 1, .int .i64 Z] 130)) (addA (some ⟨b, o, none⟩) c N) Z 1 (bcells ((bs.drop N).take Z))) := Lib.hid ((HX1.out.fromA hnc hN).upto (by omega))
      have hli : (N : Int) + (Z : Int) ≤ (c : Int) := by omega
      have hni : (N : Int) ≤ (c : Int) := by omega
      have hsz : ((N : Int) + (Z : Int) - (N : Int)).toNat = Z := by omega
      obtain ⟨D, hD⟩ : ∃ D, (bs.drop N).take Z = D := ⟨_, rfl⟩
      have HLD : Hid (D.length = Z) := Lib.hid (by rw [← hD]; exact hlen)
      rw [hD] at HC HRD
      have HR2 : Hid (M.body bs N 1 Z = ⟨D, [], N + Z, 0⟩) := Lib.hid (by rw [HR.out, Int.toNat_natCast, hD])
      rw [HR2.out]
      clear HR HR2 hD hlen
      by_cases hNc : N = c
      · subst hNc
        rw [addA_end] at HRD
        have hc0 : N - N = 0 := by omega
        have hZ0 : Z = 0 := by omega
        subst hZ0
        have HCC := Lib.hid (HC.out ⟨b, o, none⟩ 0 HRD.out)
        clear HC HRD
        go_enter Tryz.func75, Tryz.ntmps75
        go_wp2_with fail
        refine HCC.out.mono ?_
        rintro e w2 ⟨A2, c2, rfl, hr2, hb2⟩
        have HK2 := Lib.hid ((HK1.out.below hb2).set 8 (.slice A2 D.length c2))
        have HL2 := Lib.hid (Fills.one (p := p) (below_then HL1.out.size HL1.out hb2) (.slice A2 D.length c2))
        have HF2 := Lib.hid ((HF1.out.below hb2).far 8 (.slice A2 D.length c2) (show p ≠ w.heap.size by omega))
        have HR2 := Lib.hid ((hr2.mono (show p + 1 ≤ _ by omega)).farB (show p < p + 1 by omega) 8 (.slice A2 D.length c2))
        have f82 := (HK1.out.below hb2).free 8
        have z82 : w2.cell? ⟨p, 8, none⟩ = some (.slice none 0 0) := (HK1.out.below hb2).cell 8 rfl
        clear hr2 hb2 HCC HL1 HK1 HF1 HX1 HT1 HE1 y0 y1 f8 f9 z8 z9 hp1
        go_upto_region 12 with fail
        generalize w2.setCell ⟨p, 8, none⟩ (.slice A2 D.length c2) = w3 at *
        clear f82 z82
        obtain ⟨y0, y1⟩ := HF2.out.cells2
        go_wp2
        go_ret2
        exact ⟨rfl, HL2.out, A2, c2, none, 0, HK2.out, HR2.out, Row.none_ _ _ _ _⟩
      · have hNi : (N : Int) < c := by omega
        rw [addA_in hNc] at HRD
        have HCC := Lib.hid (HC.out ⟨b, o + N, none⟩ (c - N) HRD.out)
        clear HC HRD
        go_enter Tryz.func75, Tryz.ntmps75
        go_wp2_with fail
        refine HCC.out.mono ?_
        rintro e w2 ⟨A2, c2, rfl, hr2, hb2⟩
        have HK2 := Lib.hid ((HK1.out.below hb2).set 8 (.slice A2 D.length c2))
        have HL2 := Lib.hid (Fills.one (p := p) (below_then HL1.out.size HL1.out hb2) (.slice A2 D.length c2))
        have HF2 := Lib.hid ((HF1.out.below hb2).far 8 (.slice A2 D.length c2) (show p ≠ w.heap.size by omega))
        have HR2 := Lib.hid ((hr2.mono (show p + 1 ≤ _ by omega)).farB (show p < p + 1 by omega) 8 (.slice A2 D.length c2))
        have f82 := (HK1.out.below hb2).free 8
        have z82 : w2.cell? ⟨p, 8, none⟩ = some (.slice none 0 0) := (HK1.out.below hb2).cell 8 rfl
        clear hr2 hb2 HCC HL1 HK1 HF1 HX1 HT1 HE1 y0 y1 f8 f9 z8 z9 hp1
        go_upto_region 12 with fail
        generalize w2.setCell ⟨p, 8, none⟩ (.slice A2 D.length c2) = w3 at *
        clear f82 z82
        obtain ⟨y0, y1⟩ := HF2.out.cells2
        go_wp2
        go_ret2
        exact ⟨rfl, HL2.out, A2, c2, none, 0, HK2.out, HR2.out, Row.none_ _ _ _ _⟩
  · -- chunks
    have hdl := C.decode_len (bs.drop N)
    have hdn : (C.decode (bs.drop N)).n ≤ bs.length - N := by
      by_cases h : (C.decode (bs.drop N)).n = 0
      · omega
      · have := (C.decode_cut h).1
        rwa [List.length_drop] at this
    have HCD := Lib.hid (fun (A1 : Addr) (c1 : Nat) (hsp : A1.spot = none) (hc : bs.length - N ≤ c1) (hr : Rd (w.alloc (.cells #[.int .i64 2, .int .i64 Z] 130)) (some A1) (bs.length - N) 1 (bcells (bs.drop N))) => cdecode_any (some A1) (bs.length - N) c1 (bs.drop N) _ (by omega) hc (fun h => by cases h) (fun a h => by cases h; exact .inl hsp) hr HT1.out HE1.out)
    have HRD : Hid (Rd (w.alloc (.cells #[.int .i64 2, .int .i64 Z] 130)) (addA (some ⟨b, o, none⟩) c N) (bs.length - N) 1 (bcells (bs.drop N))) := Lib.hid (HX1.out.fromA hnc hN)
    have hni : (N : Int) ≤ (c : Int) := by omega
    have hnl : (N : Int) ≤ (bs.length : Int) := by omega
    have HBB := Lib.hid (fun h => M.body_cut (bs := bs) (N := N) (z := Z) h)
    have HBG := Lib.hid (fun h => M.body_chunks (bs := bs) (N := N) (z := Z) h)
    obtain ⟨R, hR⟩ : ∃ R, M.body bs N 2 Z = R := ⟨_, rfl⟩
    rw [hR] at HBB HBG ⊢
    obtain ⟨Q, hQ⟩ : ∃ Q, C.decode (bs.drop N) = Q := ⟨_, rfl⟩
    rw [hQ] at HBB HBG HCD hdl hdn
    obtain ⟨qd, qf, qn, qe⟩ := Q
    replace hdl : qd.length ≤ 65536 ∧ qf.length ≤ 100 := hdl
    replace hdn : qn ≤ bs.length - N := hdn
    clear hR hQ
    by_cases hNc : N = c
    · subst hNc
      rw [addA_end] at HRD
      have hc0 : N - N = 0 := by omega
      have hl0 : bs.length - N = 0 := by omega
      have HCC := Lib.hid (HCD.out ⟨b, o, none⟩ 0 rfl (by omega) HRD.out)
      rw [hl0] at HCC
      clear HCD HRD
      go_enter Tryz.func75, Tryz.ntmps75
      go_wp2_with fail
      refine HCC.out.mono ?_
      rintro e w2 ⟨A2, c2, T2, t2, rfl, hr2, hf2, hb2⟩
      have hL2 := below_then HL1.out.size HL1.out hb2
      have HL2 := Lib.hid hL2
      have HK2 := Lib.hid (HK1.out.below hb2)
      have HR2 := Lib.hid (hr2.crow.mono (show p + 1 ≤ _ by omega))
      have HF2 := Lib.hid (hf2.mono (show p + 1 ≤ _ by omega))
      have f82 := HK2.out.free 8
      have z82 : w2.cell? ⟨p, 8, none⟩ = some (.slice none 0 0) := HK2.out.cell 8 rfl
      have f92 := HK2.out.free 9
      have z92 : w2.cell? ⟨p, 9, none⟩ = some (.slice none 0 0) := HK2.out.cell 9 rfl
      clear hr2 hf2 hb2 hL2 HCC HL1 HK1 HF1 HX1 HT1 HE1 y0 y1 f8 f9 z8 z9 hp1
      by_cases hqe : qe = 0
      · subst hqe
        by_cases hqn : qn = 0
        · have HR := Lib.hid (HBB.out (.inr hqn))
          subst hqn
          clear HBB HBG
          go_wp2
          go_ret2
          exact RetFill.bad (Fills.of HL2.out) HK2.out HR.out
        · exact absurd (show qn = 0 by omega) hqn
      · have HR := Lib.hid (HBB.out (.inl hqe))
        have hqb : (qe != 0) = true := by rw [bne_iff_ne]; exact hqe
        clear HBB HBG
        go_wp2
        go_ret2
        exact RetFill.bad (Fills.of HL2.out) HK2.out HR.out
    · have hNi : (N : Int) < c := by omega
      rw [addA_in hNc] at HRD
      have HCC := Lib.hid (HCD.out ⟨b, o + N, none⟩ (c - N) rfl (by omega) HRD.out)
      clear HCD HRD
      go_enter Tryz.func75, Tryz.ntmps75
      go_wp2_with fail
      refine HCC.out.mono ?_
      rintro e w2 ⟨A2, c2, T2, t2, rfl, hr2, hf2, hb2⟩
      have hL2 := below_then HL1.out.size HL1.out hb2
      have HL2 := Lib.hid hL2
      have HK2 := Lib.hid (HK1.out.below hb2)
      have HR2 := Lib.hid (hr2.crow.mono (show p + 1 ≤ _ by omega))
      have HF2 := Lib.hid (hf2.mono (show p + 1 ≤ _ by omega))
      have f82 := HK2.out.free 8
      have z82 : w2.cell? ⟨p, 8, none⟩ = some (.slice none 0 0) := HK2.out.cell 8 rfl
      have f92 := HK2.out.free 9
      have z92 : w2.cell? ⟨p, 9, none⟩ = some (.slice none 0 0) := HK2.out.cell 9 rfl
      clear hr2 hf2 hb2 hL2 HCC HL1 HK1 HF1 HX1 HT1 HE1 y0 y1 f8 f9 z8 z9 hp1
      by_cases hqe : qe = 0
      · subst hqe
        by_cases hqn : qn = 0
        · have HR := Lib.hid (HBB.out (.inr hqn))
          subst hqn
          clear HBB HBG
          go_wp2
          go_ret2
          exact RetFill.bad (Fills.of HL2.out) HK2.out HR.out
        · have HR := Lib.hid (HBG.out (by rintro (h | h); exact h rfl; exact hqn h))
          have hqi : ¬ (qn : Int) = 0 := by omega
          have hqb : ((qn : Int) == 0) = false := beq_eq_false_iff_ne.2 hqi
          have HK3 := Lib.hid ((HK2.out.set 8 (.slice A2 qd.length c2)).set 9 (.slice T2 qf.length t2))
          have HL3 := Lib.hid (Fills.two (p := p) HL2.out (.slice A2 qd.length c2) (.slice T2 qf.length t2))
          have HR3 := Lib.hid ((HR2.out.farB (show p < p + 1 by omega) 8 (.slice A2 qd.length c2)).farB (show p < p + 1 by omega) 9 (.slice T2 qf.length t2))
          have HF3 := Lib.hid ((HF2.out.farT HK2.out neM 8 (.slice A2 qd.length c2)).farT (HK2.out.set 8 (.slice A2 qd.length c2)) neM 9 (.slice T2 qf.length t2))
          clear HBB HBG
          go_wp2
          go_ret2
          rw [HR.out]
          exact ⟨rfl, HL3.out, A2, c2, T2, t2, HK3.out, HR3.out, HF3.out⟩
      · have HR := Lib.hid (HBB.out (.inl hqe))
        have hqb : (qe != 0) = true := by rw [bne_iff_ne]; exact hqe
        clear HBB HBG
        go_wp2
        go_ret2
        exact RetFill.bad (Fills.of HL2.out) HK2.out HR.out
end Go.Proofs.YteehjkfmlcfffaaGreatDoor

namespace Go.Proofs.YteehjkfmlcfffaaGreatDoor
open Go.RowKit

section
variable {w : World} {b : Nat} {t : TypeId} {x0 x1 x2 x3 x4 x5 x6 x7 x8 x9 : Value}
theorem Blk.cells10 (h : Blk w b #[x0, x1, x2, x3, x4, x5, x6, x7, x8, x9] t) : w.cell? ⟨b, 0, none⟩ = some x0 ∧ w.cell? ⟨b, 1, none⟩ = some x1 ∧ w.cell? ⟨b, 2, none⟩ = some x2 ∧ w.cell? ⟨b, 3, none⟩ = some x3 ∧ w.cell? ⟨b, 4, none⟩ = some x4 ∧ w.cell? ⟨b, 5, none⟩ = some x5 ∧ w.cell? ⟨b, 6, none⟩ = some x6 ∧ w.cell? ⟨b, 7, none⟩ = some x7 ∧ w.cell? ⟨b, 8, none⟩ = some x8 ∧ w.cell? ⟨b, 9, none⟩ = some x9 := ⟨h.cell 0 rfl, h.cell 1 rfl, h.cell 2 rfl, h.cell 3 rfl, h.cell 4 rfl, h.cell 5 rfl, h.cell 6 rfl, h.cell 7 rfl, h.cell 8 rfl, h.cell 9 rfl⟩
theorem Blk.free10 {cs : Array Value} (h : Blk w b cs t) : w.frozen? ⟨b, 0, none⟩ = false ∧ w.frozen? ⟨b, 1, none⟩ = false ∧ w.frozen? ⟨b, 2, none⟩ = false ∧ w.frozen? ⟨b, 3, none⟩ = false ∧ w.frozen? ⟨b, 4, none⟩ = false ∧ w.frozen? ⟨b, 5, none⟩ = false ∧ w.frozen? ⟨b, 6, none⟩ = false ∧ w.frozen? ⟨b, 7, none⟩ = false ∧ w.frozen? ⟨b, 8, none⟩ = false ∧ w.frozen? ⟨b, 9, none⟩ = false := ⟨h.free 0, h.free 1, h.free 2, h.free 3, h.free 4, h.free 5, h.free 6, h.free 7, h.free 8, h.free 9⟩
/-- A struct of ten written over, cell by cell. -/
def ten (w : World) (b : Nat) (y0 y1 y2 y3 y4 y5 y6 y7 y8 y9 : Value) : World := ((((((((((w.setCell ⟨b, 0, none⟩ y0).setCell ⟨b, 1, none⟩ y1).setCell ⟨b, 2, none⟩ y2).setCell ⟨b, 3, none⟩ y3).setCell ⟨b, 4, none⟩ y4).setCell ⟨b, 5, none⟩ y5).setCell ⟨b, 6, none⟩ y6).setCell ⟨b, 7, none⟩ y7).setCell ⟨b, 8, none⟩ y8).setCell ⟨b, 9, none⟩ y9)
theorem Blk.set10 (h : Blk w b #[x0, x1, x2, x3, x4, x5, x6, x7, x8, x9] t) (y0 y1 y2 y3 y4 y5 y6 y7 y8 y9 : Value) : Blk (ten w b y0 y1 y2 y3 y4 y5 y6 y7 y8 y9) b #[y0, y1, y2, y3, y4, y5, y6, y7, y8, y9] t := by
  have h0 : Blk (w.setCell ⟨b, 0, none⟩ y0) b #[y0, x1, x2, x3, x4, x5, x6, x7, x8, x9] t := h.set 0 y0
  have h1 : Blk ((w.setCell ⟨b, 0, none⟩ y0).setCell ⟨b, 1, none⟩ y1) b #[y0, y1, x2, x3, x4, x5, x6, x7, x8, x9] t := h0.set 1 y1
  have h2 : Blk (((w.setCell ⟨b, 0, none⟩ y0).setCell ⟨b, 1, none⟩ y1).setCell ⟨b, 2, none⟩ y2) b #[y0, y1, y2, x3, x4, x5, x6, x7, x8, x9] t := h1.set 2 y2
  have h3 : Blk ((((w.setCell ⟨b, 0, none⟩ y0).setCell ⟨b, 1, none⟩ y1).setCell ⟨b, 2, none⟩ y2).setCell ⟨b, 3, none⟩ y3) b #[y0, y1, y2, y3, x4, x5, x6, x7, x8, x9] t := h2.set 3 y3
  have h4 : Blk (((((w.setCell ⟨b, 0, none⟩ y0).setCell ⟨b, 1, none⟩ y1).setCell ⟨b, 2, none⟩ y2).setCell ⟨b, 3, none⟩ y3).setCell ⟨b, 4, none⟩ y4) b #[y0, y1, y2, y3, y4, x5, x6, x7, x8, x9] t := h3.set 4 y4
  have h5 : Blk ((((((w.setCell ⟨b, 0, none⟩ y0).setCell ⟨b, 1, none⟩ y1).setCell ⟨b, 2, none⟩ y2).setCell ⟨b, 3, none⟩ y3).setCell ⟨b, 4, none⟩ y4).setCell ⟨b, 5, none⟩ y5) b #[y0, y1, y2, y3, y4, y5, x6, x7, x8, x9] t := h4.set 5 y5
  have h6 : Blk (((((((w.setCell ⟨b, 0, none⟩ y0).setCell ⟨b, 1, none⟩ y1).setCell ⟨b, 2, none⟩ y2).setCell ⟨b, 3, none⟩ y3).setCell ⟨b, 4, none⟩ y4).setCell ⟨b, 5, none⟩ y5).setCell ⟨b, 6, none⟩ y6) b #[y0, y1, y2, y3, y4, y5, y6, x7, x8, x9] t := h5.set 6 y6
  have h7 : Blk ((((((((w.setCell ⟨b, 0, none⟩ y0).setCell ⟨b, 1, none⟩ y1).setCell ⟨b, 2, none⟩ y2).setCell ⟨b, 3, none⟩ y3).setCell ⟨b, 4, none⟩ y4).setCell ⟨b, 5, none⟩ y5).setCell ⟨b, 6, none⟩ y6).setCell ⟨b, 7, none⟩ y7) b #[y0, y1, y2, y3, y4, y5, y6, y7, x8, x9] t := h6.set 7 y7
  have h8 : Blk (((((((((w.setCell ⟨b, 0, none⟩ y0).setCell ⟨b, 1, none⟩ y1).setCell ⟨b, 2, none⟩ y2).setCell ⟨b, 3, none⟩ y3).setCell ⟨b, 4, none⟩ y4).setCell ⟨b, 5, none⟩ y5).setCell ⟨b, 6, none⟩ y6).setCell ⟨b, 7, none⟩ y7).setCell ⟨b, 8, none⟩ y8) b #[y0, y1, y2, y3, y4, y5, y6, y7, y8, x9] t := h7.set 8 y8
  have h9 : Blk ((((((((((w.setCell ⟨b, 0, none⟩ y0).setCell ⟨b, 1, none⟩ y1).setCell ⟨b, 2, none⟩ y2).setCell ⟨b, 3, none⟩ y3).setCell ⟨b, 4, none⟩ y4).setCell ⟨b, 5, none⟩ y5).setCell ⟨b, 6, none⟩ y6).setCell ⟨b, 7, none⟩ y7).setCell ⟨b, 8, none⟩ y8).setCell ⟨b, 9, none⟩ y9) b #[y0, y1, y2, y3, y4, y5, y6, y7, y8, y9] t := h8.set 9 y9
  exact h9
theorem Blk.far10 {cs : Array Value} {b2 : Nat} (h : Blk w b2 cs t) (hne : b ≠ b2) (y0 y1 y2 y3 y4 y5 y6 y7 y8 y9 : Value) : Blk (ten w b y0 y1 y2 y3 y4 y5 y6 y7 y8 y9) b2 cs t := ((((((((((h.far 0 y0 hne).far 1 y1 hne).far 2 y2 hne).far 3 y3 hne).far 4 y4 hne).far 5 y5 hne).far 6 y6 hne).far 7 y7 hne).far 8 y8 hne).far 9 y9 hne)
theorem Row.farT10 {base : Nat} {e : TypeId} {size n c : Nat} {A : Option Addr} {vs : List Value} {cs : Array Value} (h : Row w base e size A n c vs) (hb : Blk w b cs t) (hne : t ≠ e) (y0 y1 y2 y3 y4 y5 y6 y7 y8 y9 : Value) : Row (ten w b y0 y1 y2 y3 y4 y5 y6 y7 y8 y9) base e size A n c vs := ((((((((((h.farT hb hne 0 y0).farT (hb.set 0 y0) hne 1 y1).farT ((hb.set 0 y0).set 1 y1) hne 2 y2).farT (((hb.set 0 y0).set 1 y1).set 2 y2) hne 3 y3).farT ((((hb.set 0 y0).set 1 y1).set 2 y2).set 3 y3) hne 4 y4).farT (((((hb.set 0 y0).set 1 y1).set 2 y2).set 3 y3).set 4 y4) hne 5 y5).farT ((((((hb.set 0 y0).set 1 y1).set 2 y2).set 3 y3).set 4 y4).set 5 y5) hne 6 y6).farT (((((((hb.set 0 y0).set 1 y1).set 2 y2).set 3 y3).set 4 y4).set 5 y5).set 6 y6) hne 7 y7).farT ((((((((hb.set 0 y0).set 1 y1).set 2 y2).set 3 y3).set 4 y4).set 5 y5).set 6 y6).set 7 y7) hne 8 y8).farT (((((((((hb.set 0 y0).set 1 y1).set 2 y2).set 3 y3).set 4 y4).set 5 y5).set 6 y6).set 7 y7).set 8 y8) hne 9 y9)
theorem CRow.far10 {base n c : Nat} {A : Option Addr} {bs : List UInt8} (h : CRow w base A n c bs) (hb : b < base) (y0 y1 y2 y3 y4 y5 y6 y7 y8 y9 : Value) : CRow (ten w b y0 y1 y2 y3 y4 y5 y6 y7 y8 y9) base A n c bs := ((((((((((h.farB hb 0 y0).farB hb 1 y1).farB hb 2 y2).farB hb 3 y3).farB hb 4 y4).farB hb 5 y5).farB hb 6 y6).farB hb 7 y7).farB hb 8 y8).farB hb 9 y9)
theorem below_ten {B : Nat} {a : World} (h : Below B a w) (hb : B ≤ b) (y0 y1 y2 y3 y4 y5 y6 y7 y8 y9 : Value) : Below B a (ten w b y0 y1 y2 y3 y4 y5 y6 y7 y8 y9) := (below_set (below_set (below_set (below_set (below_set (below_set (below_set (below_set (below_set (below_set h hb 0 y0) hb 1 y1) hb 2 y2) hb 3 y3) hb 4 y4) hb 5 y5) hb 6 y6) hb 7 y7) hb 8 y8) hb 9 y9)
end
namespace M
/-- A message told: the request's parts, the body, the trailers, its length, the error. -/
structure MQ where
  m : ByteArray
  t : ByteArray
  v : Int
  fs : List FD
  d : List UInt8
  f : List FD
  n : Int
  e : Int
def MQ.bad (e : Int) : MQ := ⟨⟨#[]⟩, ⟨#[]⟩, 0, [], [], [], 0, e⟩
def whole (q : P.RQ) (b : BD) : MQ := if b.e ≠ 0 ∨ b.n = 0 then .bad b.e else ⟨q.m, q.t, q.v, q.fs, b.d, b.f, b.n, 0⟩
def framed (bs : List UInt8) (q : P.RQ) (f : F.FR) : MQ := if f.e ≠ 0 then .bad f.e else whole q (body bs q.n.toNat f.k f.n)
/-- The three ways that a head's reading ends. -/
theorem req_ways (bs : List UInt8) : ((P.request bs).e = 0 ∧ (P.request bs).n = 0) ∨ ((P.request bs).e ≠ 0 ∧ (P.request bs).n = 0) ∨ ((P.request bs).e = 0 ∧ ∃ k : Nat, 0 < k ∧ k ≤ bs.length ∧ (P.request bs).n = (k : Int)) := by
  by_cases hn : (P.request bs).n = 0
  · by_cases he : (P.request bs).e = 0
    · exact .inl ⟨he, hn⟩
    · exact .inr (.inl ⟨he, hn⟩)
  · obtain ⟨i, h1, h2, h3⟩ := P.request_n hn
    have he : (P.request bs).e = 0 := by
      by_cases he : (P.request bs).e = 0
      · exact he
      · exact absurd ((request_facts bs).2.1 (.inl he)).1 hn
    exact .inr (.inr ⟨he, P.skip bs + i + 4, by omega, h2, h3⟩)
def request (bs : List UInt8) : MQ := if (P.request bs).e ≠ 0 ∨ (P.request bs).n = 0 then .bad (P.request bs).e else framed bs (P.request bs) (F.frame (P.request bs).v (P.request bs).fs 0)
end M
/-- A message answered: all of its lists are the call's own. -/
def RetMsg (w : World) (r : M.MQ) (e : Ending) (w' : World) : Prop :=
  ∃ A c D d T k, e = .returned (.tuple #[.agg #[.string r.m, .string r.t, .int .i64 r.v, .slice A r.fs.length c, .int .i64 0, .string ⟨#[]⟩, .int .i64 0, .slice none 0 0, .slice D r.d.length d, .slice T r.f.length k], .int .i64 r.n, .int .i64 r.e]) ∧
    Row w' w.heap.size 148 2 A r.fs.length c (fcells r.fs) ∧ CRow w' w.heap.size D r.d.length d r.d ∧ Row w' w.heap.size 148 2 T r.f.length k (fcells r.f) ∧ Below w.heap.size w w'
theorem RetMsg.bad {w w' : World} {r : M.MQ} {code : Int} (hb : Below w.heap.size w w') (h : r = .bad code) : RetMsg w r (.returned (.tuple #[.agg #[.string ⟨#[]⟩, .string ⟨#[]⟩, .int .i64 0, .slice none 0 0, .int .i64 0, .string ⟨#[]⟩, .int .i64 0, .slice none 0 0, .slice none 0 0, .slice none 0 0], .int .i64 0, .int .i64 code])) w' := by
  subst h
  exact ⟨none, 0, none, 0, none, 0, rfl, Row.none_ _ _ _ _, CRow.none_ _ _, Row.none_ _ _ _ _, hb⟩
set_option maxHeartbeats 4000000 in
set_option maxRecDepth 100000 in
theorem inboxRequest_any (A : Option Addr) (n c : Nat) (bs : List UInt8) (w : World) (hnm : n ≤ 268435456) (hnc : n ≤ c) (hA : A = none → n = 0 ∧ c = 0) (hpl : ∀ a, A = some a → a.spot = none ∨ c = 0) (hx : Rd w A n 1 (bcells bs)) (ht : LibOk w) (he : ErrOk w) :
    Calls Tryz.prog 20 #[.slice A n c] w (RetMsg w (M.request bs)) := by
  have hll := rd_len hx
  subst hll
  have HQ := Lib.hid (fun (u : World) (hu : Below w.heap.size w u) => request_any A bs.length c bs u (by omega) hnc hA hpl (hx.below hu) (ht.below hu))
  have hfb := P.request_bulk bs
  have hw := M.req_ways bs
  obtain ⟨G, hG⟩ : ∃ G, M.request bs = G := ⟨_, rfl⟩
  have HG : Hid (G = if (P.request bs).e ≠ 0 ∨ (P.request bs).n = 0 then .bad (P.request bs).e else M.framed bs (P.request bs) (F.frame (P.request bs).v (P.request bs).fs 0)) := Lib.hid (by rw [← hG]; rfl)
  rw [hG]
  obtain ⟨Q, hQ⟩ : ∃ Q, P.request bs = Q := ⟨_, rfl⟩
  rw [hQ] at HQ hfb hw HG
  obtain ⟨s, t, v, fs, N, E⟩ := Q
  have hfb2 : F.bulk fs ≤ 1073741824 := by
    have : F.bulk fs ≤ bs.length := hfb
    omega
  replace hw : (E = 0 ∧ N = 0) ∨ (E ≠ 0 ∧ N = 0) ∨ (E = 0 ∧ ∃ k : Nat, 0 < k ∧ k ≤ bs.length ∧ N = (k : Int)) := by
    exact hw
  replace HG : Hid (G = if E ≠ 0 ∨ N = 0 then .bad E else M.framed bs ⟨s, t, v, fs, N, E⟩ (F.frame v fs 0)) := HG
  have hlb := F.len_le_bulk fs
  have HFR := Lib.hid (fun (A1 : Option Addr) (c1 : Nat) (u : World) (hr : Rd u A1 fs.length 2 (fcells fs)) => ofRequest_any s t v A1 c1 fs u hfb2 hr)
  have hkd := P.frame_kinds v fs
  have hkr := F.frame_range v fs 0
  obtain ⟨FR, hFR⟩ : ∃ FR, F.frame v fs 0 = FR := ⟨_, rfl⟩
  rw [hFR] at HFR HG hkd hkr
  obtain ⟨fk, fn, fe⟩ := FR
  replace hkd : fk = 0 ∨ fk = 1 ∨ fk = 2 := hkd
  obtain ⟨hn0, hn1, _⟩ : 0 ≤ fn ∧ fn ≤ 65536 ∧ (fk ≠ 1 → fn = 0) := hkr
  have HFI := Lib.hid (fun (k : Nat) (h1 : 0 < k) (h2 : k ≤ bs.length) (x0 x1 x2 x3 x4 x5 x6 x7 : Value) (u : World) (hu : Below w.heap.size w u) (hk : Blk u (w.heap.size + 1) #[x0, x1, x2, x3, x4, x5, x6, x7, .slice none 0 0, .slice none 0 0] 29) =>
    fill_any (w.heap.size + 1) x0 x1 x2 x3 x4 x5 x6 x7 A c bs k fk fn u hnm hnc h1 h2 hkd hn0 hn1 hpl (hx.below hu) (ht.below hu) (he.below hu) hk)
  have HT0 := Lib.hid (Two.start w #[.string ⟨#[]⟩, .string ⟨#[]⟩, .int .i64 0, .slice none 0 0, .int .i64 0, .string ⟨#[]⟩, .int .i64 0, .slice none 0 0, .slice none 0 0, .slice none 0 0] 29 #[.string ⟨#[]⟩, .string ⟨#[]⟩, .int .i64 0, .slice none 0 0, .int .i64 0, .string ⟨#[]⟩, .int .i64 0, .slice none 0 0, .slice none 0 0, .slice none 0 0] 29)
  clear hx hQ hG hFR hfb ht he hA hpl
  go_enter Tryz.func20, Tryz.ntmps20
  go_upto_region 2 with fail
  generalize (w.alloc (.cells #[.string ⟨#[]⟩, .string ⟨#[]⟩, .int .i64 0, .slice none 0 0, .int .i64 0, .string ⟨#[]⟩, .int .i64 0, .slice none 0 0, .slice none 0 0, .slice none 0 0] 29)).alloc (.cells #[.string ⟨#[]⟩, .string ⟨#[]⟩, .int .i64 0, .slice none 0 0, .int .i64 0, .string ⟨#[]⟩, .int .i64 0, .slice none 0 0, .slice none 0 0, .slice none 0 0] 29) = w0 at *
  have hz0 := HT0.out.size
  go_wp2_with fail
  refine (HQ.out _ HT0.out.2.2).mono ?_
  rintro e w1 ⟨A1, c1, rfl, hr1, hb1⟩
  have HT1 := Lib.hid ((HT0.out.below hb1).alloc (.cells #[.string s, .string t, .int .i64 v, .slice A1 fs.length c1] 25))
  have HK1 := Lib.hid (Blk.new w1 #[.string s, .string t, .int .i64 v, .slice A1 fs.length c1] 25)
  have HR1 := Lib.hid ((hr1.mono (base' := w.heap.size + 2) (by omega)).alloc (.cells #[.string s, .string t, .int .i64 v, .slice A1 fs.length c1] 25))
  have hz1 : w.heap.size + 2 ≤ w1.heap.size := by have := hb1.size; omega
  clear hb1 hr1 HQ HT0 hz0
  go_upto_region 3 with fail
  generalize w1.alloc (.cells #[.string s, .string t, .int .i64 v, .slice A1 fs.length c1] 25) = w2 at *
  rcases hw with ⟨rfl, rfl⟩ | ⟨hE, rfl⟩ | ⟨rfl, k, hk0, hkn, rfl⟩
  · have HF := Lib.hid (HG.out.trans (if_pos (.inr rfl)))
    clear HG HFR HFI hkd
    obtain ⟨a0, a1, a2, a3, a4, a5, a6, a7, a8, a9⟩ := HT1.out.1.cells10
    obtain ⟨g0, g1, g2, g3, g4, g5, g6, g7, g8, g9⟩ := HT1.out.1.free10
    go_wp2
    obtain ⟨z0, z1, z2, z3, z4, z5, z6, z7, z8, z9⟩ := (HT1.out.1.set10 (.string ⟨#[]⟩) (.string ⟨#[]⟩) (.int .i64 0) (.slice none 0 0) (.int .i64 0) (.string ⟨#[]⟩) (.int .i64 0) (.slice none 0 0) (.slice none 0 0) (.slice none 0 0)).cells10
    unfold ten at z0 z1 z2 z3 z4 z5 z6 z7 z8 z9
    refine bodyPost_ret (v := .tuple #[.agg #[.string ⟨#[]⟩, .string ⟨#[]⟩, .int .i64 0, .slice none 0 0, .int .i64 0, .string ⟨#[]⟩, .int .i64 0, .slice none 0 0, .slice none 0 0, .slice none 0 0], .int .i64 0, .int .i64 0]) (by simp [results, Tryz.results20, go_sem, z0, z1, z2, z3, z4, z5, z6, z7, z8, z9]) rfl ?_
    exact RetMsg.bad (below_ten HT1.out.2.2 (Nat.le_refl _) _ _ _ _ _ _ _ _ _ _) HF.out
  · have HF := Lib.hid (HG.out.trans (if_pos (.inl hE)))
    have hEb : (E != 0) = true := by rw [bne_iff_ne]; exact hE
    clear HG HFR HFI hkd
    obtain ⟨a0, a1, a2, a3, a4, a5, a6, a7, a8, a9⟩ := HT1.out.1.cells10
    obtain ⟨g0, g1, g2, g3, g4, g5, g6, g7, g8, g9⟩ := HT1.out.1.free10
    go_wp2
    obtain ⟨z0, z1, z2, z3, z4, z5, z6, z7, z8, z9⟩ := (HT1.out.1.set10 (.string ⟨#[]⟩) (.string ⟨#[]⟩) (.int .i64 0) (.slice none 0 0) (.int .i64 0) (.string ⟨#[]⟩) (.int .i64 0) (.slice none 0 0) (.slice none 0 0) (.slice none 0 0)).cells10
    unfold ten at z0 z1 z2 z3 z4 z5 z6 z7 z8 z9
    refine bodyPost_ret (v := .tuple #[.agg #[.string ⟨#[]⟩, .string ⟨#[]⟩, .int .i64 0, .slice none 0 0, .int .i64 0, .string ⟨#[]⟩, .int .i64 0, .slice none 0 0, .slice none 0 0, .slice none 0 0], .int .i64 0, .int .i64 E]) (by simp [results, Tryz.results20, go_sem, z0, z1, z2, z3, z4, z5, z6, z7, z8, z9]) rfl ?_
    exact RetMsg.bad (below_ten HT1.out.2.2 (Nat.le_refl _) _ _ _ _ _ _ _ _ _ _) HF.out
  · have hNi : ¬ (k : Int) = 0 := by omega
    have hNb : ((k : Int) == 0) = false := beq_eq_false_iff_ne.2 hNi
    have HG2 := Lib.hid (HG.out.trans (if_neg (by rintro (h | h); exact h rfl; exact hNi h)))
    clear HG
    obtain ⟨q0, q1, q2, q3⟩ := HK1.out.cells4
    go_wp2_with fail
    refine (HFR.out A1 c1 _ HR1.out.rd).mono ?_
    rintro e w3 ⟨rfl, hb3⟩
    have HT3 := Lib.hid ((HT1.out.below hb3).alloc (.cells #[.int .i64 fk, .int .i64 fn] 130))
    have HK3 := Lib.hid ((HK1.out.below hb3).alloc (.cells #[.int .i64 fk, .int .i64 fn] 130))
    have HF3 := Lib.hid (Blk.new w3 #[.int .i64 fk, .int .i64 fn] 130)
    have HR3 := Lib.hid ((HR1.out.below hb3).alloc (.cells #[.int .i64 fk, .int .i64 fn] 130))
    have hz3 : w1.heap.size < w3.heap.size := by have := HK1.out.lt; have := hb3.size; omega
    clear hb3 HT1 HK1 HR1 HFR q0 q1 q2 q3
    go_upto_region 6 with fail
    generalize w3.alloc (.cells #[.int .i64 fk, .int .i64 fn] 130) = w4 at *
    by_cases hfe : fe = 0
    · have HG3 : Hid (G = M.whole ⟨s, t, v, fs, (k : Int), 0⟩ (M.body bs k fk fn)) := Lib.hid (HG2.out.trans (if_neg (fun h => h hfe)))
      subst hfe
      obtain ⟨q0, q1, q2, q3⟩ := HK3.out.cells4
      obtain ⟨a0, a1, a2, a3, a4, a5, a6, a7, a8, a9⟩ := HT3.out.2.1.cells10
      obtain ⟨g0, g1, g2, g3, g4, g5, g6, g7, g8, g9⟩ := HT3.out.2.1.free10
      have HT5 : Hid (Two w #[.string ⟨#[]⟩, .string ⟨#[]⟩, .int .i64 0, .slice none 0 0, .int .i64 0, .string ⟨#[]⟩, .int .i64 0, .slice none 0 0, .slice none 0 0, .slice none 0 0] 29 #[.string s, .string t, .int .i64 v, .slice A1 fs.length c1, .int .i64 0, .string ⟨#[]⟩, .int .i64 0, .slice none 0 0, .slice none 0 0, .slice none 0 0] 29 ((((w4.setCell ⟨w.heap.size + 1, 0, none⟩ (.string s)).setCell ⟨w.heap.size + 1, 1, none⟩ (.string t)).setCell ⟨w.heap.size + 1, 2, none⟩ (.int .i64 v)).setCell ⟨w.heap.size + 1, 3, none⟩ (.slice A1 fs.length c1))) := Lib.hid ⟨HT3.out.1.far4 (by omega) _ _ _ _, (((HT3.out.2.1.set 0 (.string s)).set 1 (.string t)).set 2 (.int .i64 v)).set 3 (.slice A1 fs.length c1), below_four HT3.out.2.2 (by omega) _ _ _ _⟩
      have HF5 := Lib.hid (HF3.out.far4 (show w.heap.size + 1 ≠ w3.heap.size by omega) (.string s) (.string t) (.int .i64 v) (.slice A1 fs.length c1))
      have HR5 := Lib.hid (HR3.out.farT4 HT3.out.2.1 neM (.string s) (.string t) (.int .i64 v) (.slice A1 fs.length c1))
      clear HT3 HF3 HR3 HK3 HG2
      go_upto_region 9 with fail
      generalize ((((w4.setCell ⟨w.heap.size + 1, 0, none⟩ (.string s)).setCell ⟨w.heap.size + 1, 1, none⟩ (.string t)).setCell ⟨w.heap.size + 1, 2, none⟩ (.int .i64 v)).setCell ⟨w.heap.size + 1, 3, none⟩ (.slice A1 fs.length c1)) = w5 at *
      clear a0 g0 a1 g1 a2 g2 a3 g3 a4 g4 a5 g5 a6 g6 a7 g7 a8 g8 a9 g9 q0 q1 q2 q3
      obtain ⟨y0, y1⟩ := HF5.out.cells2
      go_wp2_with fail
      refine (HFI.out k hk0 hkn _ _ _ _ _ _ _ _ _ HT5.out.2.2 HT5.out.2.1).mono ?_
      rintro e w6 ⟨rfl, hl6, D, d, T, j, hk6, hd6, ht6⟩
      have HX6 := Lib.hid (hl6.blk HT5.out.1 (show w.heap.size + 1 ≠ w.heap.size by omega))
      have HO6 := Lib.hid hk6
      have HR6 := Lib.hid (hl6.row HR5.out HT5.out.2.1 neM)
      have HD6 := Lib.hid hd6
      have HV6 := Lib.hid ht6
      have HL6 := Lib.hid (hl6.low HT5.out.2.2 (by have := HT5.out.size; omega) (show w.heap.size ≤ w.heap.size + 1 by omega))
      clear hl6 hk6 hd6 ht6 HT5 HR5 HF5 HFI y0 y1
      obtain ⟨BB, hBB⟩ : ∃ BB, M.body bs k fk fn = BB := ⟨_, rfl⟩
      rw [hBB] at HG3 HO6 HD6 HV6 ⊢
      clear hBB
      obtain ⟨bd, bf, bn, be⟩ := BB
      replace HO6 : Hid (Blk w6 (w.heap.size + 1) #[.string s, .string t, .int .i64 v, .slice A1 fs.length c1, .int .i64 0, .string ⟨#[]⟩, .int .i64 0, .slice none 0 0, .slice D bd.length d, .slice T bf.length j] 29) := HO6
      replace HD6 : Hid (CRow w6 (w.heap.size + 1 + 1) D bd.length d bd) := HD6
      replace HV6 : Hid (Row w6 (w.heap.size + 1 + 1) 148 2 T bf.length j (fcells bf)) := HV6
      replace HG3 : Hid (G = if be ≠ 0 ∨ bn = 0 then .bad be else ⟨s, t, v, fs, bd, bf, bn, 0⟩) := HG3
      go_upto_region 10 with fail
      by_cases hbe : be = 0
      · subst hbe
        by_cases hbn : bn = 0
        · have HF := Lib.hid (HG3.out.trans (if_pos (.inr hbn)))
          subst hbn
          clear HG3 HO6 HR6 HD6 HV6
          obtain ⟨a0, a1, a2, a3, a4, a5, a6, a7, a8, a9⟩ := HX6.out.cells10
          obtain ⟨g0, g1, g2, g3, g4, g5, g6, g7, g8, g9⟩ := HX6.out.free10
          go_wp2
          obtain ⟨z0, z1, z2, z3, z4, z5, z6, z7, z8, z9⟩ := (HX6.out.set10 (.string ⟨#[]⟩) (.string ⟨#[]⟩) (.int .i64 0) (.slice none 0 0) (.int .i64 0) (.string ⟨#[]⟩) (.int .i64 0) (.slice none 0 0) (.slice none 0 0) (.slice none 0 0)).cells10
          unfold ten at z0 z1 z2 z3 z4 z5 z6 z7 z8 z9
          refine bodyPost_ret (v := .tuple #[.agg #[.string ⟨#[]⟩, .string ⟨#[]⟩, .int .i64 0, .slice none 0 0, .int .i64 0, .string ⟨#[]⟩, .int .i64 0, .slice none 0 0, .slice none 0 0, .slice none 0 0], .int .i64 0, .int .i64 0]) (by simp [results, Tryz.results20, go_sem, z0, z1, z2, z3, z4, z5, z6, z7, z8, z9]) rfl ?_
          exact RetMsg.bad (below_ten HL6.out (Nat.le_refl _) _ _ _ _ _ _ _ _ _ _) HF.out
        · have HF := Lib.hid (HG3.out.trans (if_neg (by rintro (h | h); exact h rfl; exact hbn h)))
          have hbb : (bn == 0) = false := beq_eq_false_iff_ne.2 hbn
          clear HG3
          obtain ⟨a0, a1, a2, a3, a4, a5, a6, a7, a8, a9⟩ := HX6.out.cells10
          obtain ⟨g0, g1, g2, g3, g4, g5, g6, g7, g8, g9⟩ := HX6.out.free10
          obtain ⟨b0, b1, b2, b3, b4, b5, b6, b7, b8, b9⟩ := HO6.out.cells10
          go_wp2
          obtain ⟨z0, z1, z2, z3, z4, z5, z6, z7, z8, z9⟩ := (HX6.out.set10 (.string s) (.string t) (.int .i64 v) (.slice A1 fs.length c1) (.int .i64 0) (.string ⟨#[]⟩) (.int .i64 0) (.slice none 0 0) (.slice D bd.length d) (.slice T bf.length j)).cells10
          unfold ten at z0 z1 z2 z3 z4 z5 z6 z7 z8 z9
          refine bodyPost_ret (v := .tuple #[.agg #[.string s, .string t, .int .i64 v, .slice A1 fs.length c1, .int .i64 0, .string ⟨#[]⟩, .int .i64 0, .slice none 0 0, .slice D bd.length d, .slice T bf.length j], .int .i64 bn, .int .i64 0]) (by simp [results, Tryz.results20, go_sem, z0, z1, z2, z3, z4, z5, z6, z7, z8, z9]) rfl ?_
          rw [HF.out]
          exact ⟨A1, c1, D, d, T, j, rfl, (HR6.out.farT10 HX6.out neM _ _ _ _ _ _ _ _ _ _).mono (by omega), (HD6.out.far10 (by omega) _ _ _ _ _ _ _ _ _ _).mono (by omega), (HV6.out.farT10 HX6.out neM _ _ _ _ _ _ _ _ _ _).mono (by omega), below_ten HL6.out (Nat.le_refl _) _ _ _ _ _ _ _ _ _ _⟩
      · have HF := Lib.hid (HG3.out.trans (if_pos (.inl hbe)))
        have hbb : (be != 0) = true := by rw [bne_iff_ne]; exact hbe
        clear HG3 HO6 HR6 HD6 HV6
        obtain ⟨a0, a1, a2, a3, a4, a5, a6, a7, a8, a9⟩ := HX6.out.cells10
        obtain ⟨g0, g1, g2, g3, g4, g5, g6, g7, g8, g9⟩ := HX6.out.free10
        go_wp2
        obtain ⟨z0, z1, z2, z3, z4, z5, z6, z7, z8, z9⟩ := (HX6.out.set10 (.string ⟨#[]⟩) (.string ⟨#[]⟩) (.int .i64 0) (.slice none 0 0) (.int .i64 0) (.string ⟨#[]⟩) (.int .i64 0) (.slice none 0 0) (.slice none 0 0) (.slice none 0 0)).cells10
        unfold ten at z0 z1 z2 z3 z4 z5 z6 z7 z8 z9
        refine bodyPost_ret (v := .tuple #[.agg #[.string ⟨#[]⟩, .string ⟨#[]⟩, .int .i64 0, .slice none 0 0, .int .i64 0, .string ⟨#[]⟩, .int .i64 0, .slice none 0 0, .slice none 0 0, .slice none 0 0], .int .i64 0, .int .i64 be]) (by simp [results, Tryz.results20, go_sem, z0, z1, z2, z3, z4, z5, z6, z7, z8, z9]) rfl ?_
        exact RetMsg.bad (below_ten HL6.out (Nat.le_refl _) _ _ _ _ _ _ _ _ _ _) HF.out
    · have HF := Lib.hid (HG2.out.trans (if_pos hfe))
      have hfb : (fe != 0) = true := by rw [bne_iff_ne]; exact hfe
      clear HG2 HFI HK3 HF3 HR3
      obtain ⟨a0, a1, a2, a3, a4, a5, a6, a7, a8, a9⟩ := HT3.out.1.cells10
      obtain ⟨g0, g1, g2, g3, g4, g5, g6, g7, g8, g9⟩ := HT3.out.1.free10
      go_wp2
      obtain ⟨z0, z1, z2, z3, z4, z5, z6, z7, z8, z9⟩ := (HT3.out.1.set10 (.string ⟨#[]⟩) (.string ⟨#[]⟩) (.int .i64 0) (.slice none 0 0) (.int .i64 0) (.string ⟨#[]⟩) (.int .i64 0) (.slice none 0 0) (.slice none 0 0) (.slice none 0 0)).cells10
      unfold ten at z0 z1 z2 z3 z4 z5 z6 z7 z8 z9
      refine bodyPost_ret (v := .tuple #[.agg #[.string ⟨#[]⟩, .string ⟨#[]⟩, .int .i64 0, .slice none 0 0, .int .i64 0, .string ⟨#[]⟩, .int .i64 0, .slice none 0 0, .slice none 0 0, .slice none 0 0], .int .i64 0, .int .i64 fe]) (by simp [results, Tryz.results20, go_sem, z0, z1, z2, z3, z4, z5, z6, z7, z8, z9]) rfl ?_
      exact RetMsg.bad (below_ten HT3.out.2.2 (Nat.le_refl _) _ _ _ _ _ _ _ _ _ _) HF.out
end Go.Proofs.YteehjkfmlcfffaaGreatDoor
