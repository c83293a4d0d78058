/- An argument that is a list of fields, a string or a struct of these, opened to what a walk reads; its bulk; and read again behind the call. No condition: plain lemmas. A parameter that is a response, opened. No condition: plain lemmas. A parameter that is a request, a target, a list of bytes, opened. No condition: plain lemmas. A parameter that is an entry, opened. No condition: plain lemmas. -/
import Derived.Test.YtkempjcphpnocaaGreatDoorZ03
import Derived.Test.YtkempjcphpnocaaGreatDoorZ11
import Derived.Deep.Slices
import Derived.Deep.Fields
import Derived.ChangeSame
import Derived.DataReads
import Derived.WideKeyArgs
import Derived.Lib.SmallJoins
import Derived.ChangeSlices
import Derived.ChangeArms
namespace Go.Proofs.YtkempjcphpnocaaGreatDoor
open Go.ChangeShapes Go.WideShapes Go.ChangeAt Go.RowKit Go.Deep

theorem laidOut_ : laidOutB Tryz.prog = true := by kernel_rfl
theorem fsz : (Tryz.prog.fieldsOf 167).size = 2 := by kernel_rfl
theorem fs0 : ((Tryz.prog.fieldsOf 167)[0]?).map (fun f => (f.type, f.offset)) = some (9, 0) := by kernel_rfl
theorem fs1 : ((Tryz.prog.fieldsOf 167)[1]?).map (fun f => (f.type, f.offset)) = some (9, 1) := by kernel_rfl
theorem cellsF : Tryz.prog.cellsOf 167 = 2 := by kernel_rfl
theorem cellsS : Tryz.prog.cellsOf 9 = 1 := by kernel_rfl
theorem array_two {α : Type} {a : Array α} (h : a.size = 2) : ∃ x y, a = #[x, y] := by
  obtain ⟨l⟩ := a
  match l, h with
  | [x, y], _ => exact ⟨x, y, rfl⟩
theorem field_two : ∃ f0 f1 : Field, Tryz.prog.underlying 167 = some (.struct #[f0, f1]) ∧ f0.type = 9 ∧ f0.offset = 0 ∧ f1.type = 9 ∧ f1.offset = 1 := by
  obtain ⟨f0, f1, h⟩ := array_two fsz
  have h0 := fs0
  have h1 := fs1
  rw [h] at h0 h1
  simp at h0 h1
  exact ⟨f0, f1, by rw [← h]; exact fieldT_st, h0.1, h0.2, h1.1, h1.2⟩

section
variable {H : Type} {enc : TypeId × Value → H} {W : World} {base : Nat} {spare : Nat → Bool} {held : Bool}
theorem open_field {fuel : Nat} {cs : List Value} {x : DataW H × List MemPlace} (h : DataW.trod enc Tryz.prog W base spare held fuel 167 cs = some x) :
    ∃ f : FD, cs = [.string f.1, .string f.2] ∧ x.1 = .agg [.lit (.string f.1.data.toList), .lit (.string f.2.data.toList)] := by
  obtain ⟨f0, f1, hs, t0, o0, t1, o1⟩ := field_two
  obtain ⟨y0, y1, n, rfl, hl, h0, h1⟩ := trod_struct2 hs h
  rw [t0, o0, cellsS] at h0
  rw [t1, o1, cellsS] at h1
  rw [cellsF] at hl
  obtain ⟨s0, e0, rfl, _⟩ := DataW.trod_string Tryz.underlying9 h0
  obtain ⟨s1, e1, rfl, _⟩ := DataW.trod_string Tryz.underlying9 h1
  refine ⟨(s0, s1), ?_, rfl⟩
  match cs, hl with
  | [a, b], _ =>
    simp at e0 e1
    rw [e0, e1]

/-- what a field's reading weighs -/
theorem bulk_field (f : FD) : f.1.size + f.2.size + 1 ≤ Rows.uptoBulk (DataW.agg (H := H) [.lit (.string f.1.data.toList), .lit (.string f.2.data.toList)]) := by
  simp only [Rows.uptoBulk, Rows.uptoBulkAll, Array.length_toList]
  have : f.1.size = f.1.data.size := rfl
  have : f.2.size = f.2.data.size := rfl
  omega
theorem bulk_list {D : Nat → DataW H} {g : Nat → FD} : ∀ l : List Nat, (∀ i ∈ l, (g i).1.size + (g i).2.size + 1 ≤ Rows.uptoBulk (D i)) → F.bulk (l.map g) ≤ Rows.uptoBulkAll (l.map D)
  | [], _ => by simp [F.bulk]
  | i :: l, h => by
    have h1 := h i (by simp)
    have h2 := bulk_list l (fun j hj => h j (by simp [hj]))
    simp only [List.map_cons, F.bulk, Rows.uptoBulkAll]
    omega

theorem Rd.of_at {A : Addr} {n : Nat} {fs : List FD} (hl : fs.length = n) (h : ∀ i (hi : i < fs.length), W.cell? (A.add (i * 2)) = some (.string (fs[i]).1) ∧ W.cell? (A.add (i * 2 + 1)) = some (.string (fs[i]).2)) : Rd W (some A) n 2 (fcells fs) := by
  refine ⟨by rw [fcells_length, hl], fun hn => ?_⟩
  have h0 := (h 0 (by omega)).1
  have hspot : (A.add (0 * 2)).spot = none := World.cell?_spot h0
  obtain ⟨b, o, sp⟩ := A
  have : sp = none := by cases sp <;> simp_all [Addr.add]
  subst this
  refine ⟨b, o, rfl, World.block_lt_of_cell? W _ h0, fun j u hu => ?_⟩
  have hj : j < fs.length * 2 := by rw [← fcells_length]; exact (List.getElem?_eq_some_iff.1 hu).1
  have ea : ∀ k, (⟨b, o, none⟩ : Addr).add k = ⟨b, o + k, none⟩ := fun k => by unfold Addr.add; split <;> simp_all
  obtain ⟨i, hi⟩ : ∃ i, j = i * 2 ∨ j = i * 2 + 1 := ⟨j / 2, by omega⟩
  rcases hi with rfl | rfl
  · have hil : i < fs.length := by omega
    have := (h i hil).1
    rw [ea] at this
    rw [this]
    exact (fcells_at fs i hil).1.symm.trans hu
  · have hil : i < fs.length := by omega
    have := (h i hil).2
    rw [ea] at this
    rw [this]
    exact (fcells_at fs i hil).2.symm.trans hu

theorem cells_fields {A : Option Addr} {n c : Nat} {fuel : Nat} {x : DataW H × List MemPlace} (h : DataW.trod enc Tryz.prog W base (fun _ => true) held fuel 23 [.slice A n c] = some x) :
    ∃ fs : List FD, fs.length = n ∧ Rd W A n 2 (fcells fs) ∧ F.bulk fs ≤ Rows.uptoBulk x.1 ∧ (A = none → n = 0 ∧ c = 0) := by
  rcases open_slice Tryz.underlying23 h with ⟨h0, rfl⟩ | ⟨a, len, cap, m, k, D, Pl, hcs, _, hl, hm, hmm, rfl, hi⟩
  · simp only [List.cons.injEq, Value.slice.injEq, and_true] at h0
    obtain ⟨rfl, rfl, rfl⟩ := h0
    exact ⟨[], rfl, Rd.nil _ _ _, by simp [F.bulk], fun _ => ⟨rfl, rfl⟩⟩
  · simp only [List.cons.injEq, Value.slice.injEq, and_true] at hcs
    obtain ⟨rfl, rfl, rfl⟩ := hcs
    simp only [if_true] at hmm
    subst hmm
    have each : ∀ i, ∃ f : FD, i < n → W.cell? (a.add (i * 2)) = some (.string f.1) ∧ W.cell? (a.add (i * 2 + 1)) = some (.string f.2) ∧ D i = .agg [.lit (.string f.1.data.toList), .lit (.string f.2.data.toList)] := by
      intro i
      by_cases hin : i < n
      · obtain ⟨cs', hc, ht⟩ := hi i (by omega)
        rw [cellsF] at hc
        obtain ⟨f, rfl, hx⟩ := open_field ht
        obtain ⟨_, _, hat⟩ := World.cells?_some hc
        have h0 := hat 0 (by omega)
        have h1 := hat 1 (by omega)
        rw [Go.Deep.add_add] at h0 h1
        exact ⟨f, fun _ => ⟨h0, h1, hx⟩⟩
      · exact ⟨(⟨#[]⟩, ⟨#[]⟩), fun h => absurd h hin⟩
    obtain ⟨g, hg⟩ : ∃ g : Nat → FD, ∀ i, i < n → W.cell? (a.add (i * 2)) = some (.string (g i).1) ∧ W.cell? (a.add (i * 2 + 1)) = some (.string (g i).2) ∧ D i = .agg [.lit (.string (g i).1.data.toList), .lit (.string (g i).2.data.toList)] :=
      ⟨fun i => (each i).choose, fun i => (each i).choose_spec⟩
    refine ⟨(List.range n).map g, by simp, Rd.of_at (by simp) (fun i hi => ?_), ?_, fun h => by cases h⟩
    · rw [List.length_map, List.length_range] at hi
      have := hg i hi
      simp only [List.getElem_map, List.getElem_range]
      exact ⟨this.1, this.2.1⟩
    · have := bulk_list (D := D) (g := g) (List.range n) (fun i hi => by
        have := hg i (List.mem_range.1 hi)
        rw [this.2.2]
        exact bulk_field _)
      simp only [Rows.uptoBulk]
      omega

end

/-- What an argument read, it reads behind a call that leaves what was there. -/
theorem again {H : Type} {enc : TypeId × Value → H} {t : TypeId} (hr : Tryz.prog.readableRec t = true) (hrow : t < Tryz.prog.types.size) {W W' : World} {v : Value} {d : DataW H} {ps : List MemPlace}
    (h : DataW.Trod enc Tryz.prog W 0 (fun _ => true) true t v d ps) (hb : Below W.heap.size W W') (hlt : ∀ x ∈ ps, x.block < W.heap.size) (sp : Nat → Bool) (hsp : ∀ x ∈ ps, sp x.block = true) :
    DataW.Trod enc Tryz.prog W' 0 sp true t v d ps :=
  WideElems.Trod_stays laidOut_ hr hrow h (fun x hx => hb.same (hlt x hx)) hsp
end Go.Proofs.YtkempjcphpnocaaGreatDoor

namespace Go.Proofs.YtkempjcphpnocaaGreatDoor
open Go.ChangeShapes Go.WideShapes Go.ChangeAt Go.RowKit Go.Deep

theorem resp_sz : (Tryz.prog.fieldsOf 25).size = 4 := by kernel_rfl
theorem resp_st : Tryz.prog.underlying 25 = some (.struct (Tryz.prog.fieldsOf 25)) := by kernel_rfl
theorem resp_cells : Tryz.prog.cellsOf 25 = 4 := by kernel_rfl

section
variable {H : Type} {enc : TypeId × Value → H} {W : World} {base : Nat} {held : Bool}
theorem slice_shape {fuel : Nat} {v : Value} {x : DataW H × List MemPlace} (h : DataW.trod enc Tryz.prog W base (fun _ => true) held fuel 23 [v] = some x) : ∃ A n c, v = .slice A n c := by
  rcases open_slice Tryz.underlying23 h with ⟨h0, _⟩ | ⟨a, len, cap, m, k, D, Pl, hcs, _⟩
  · exact ⟨_, _, _, by simpa using h0⟩
  · exact ⟨_, _, _, by simpa using hcs⟩

end
end Go.Proofs.YtkempjcphpnocaaGreatDoor

namespace Go.Proofs.YtkempjcphpnocaaGreatDoor
open Go.ChangeShapes Go.WideShapes Go.ChangeAt Go.RowKit Go.Deep

theorem cellsB : Tryz.prog.cellsOf 5 = 1 := by kernel_rfl

section
variable {H : Type} {enc : TypeId × Value → H} {W : World} {base : Nat} {held : Bool}
theorem Rd.of_bytes {A : Addr} {n : Nat} {bs : List UInt8} (hl : bs.length = n) (h : ∀ i (hi : i < bs.length), W.cell? (A.add i) = some (.int .u8 (bs[i]).toNat)) : Rd W (some A) n 1 (bcells bs) := by
  refine ⟨by simp [bcells, hl], fun hn => ?_⟩
  have h0 := h 0 (by omega)
  have hspot : (A.add 0).spot = none := World.cell?_spot h0
  obtain ⟨b, o, sp⟩ := A
  have : sp = none := by cases sp <;> simp_all [Addr.add]
  subst this
  refine ⟨b, o, rfl, World.block_lt_of_cell? W _ h0, fun j u hu => ?_⟩
  have hj : j < bs.length := by
    have := (List.getElem?_eq_some_iff.1 hu).1
    simpa [bcells] using this
  have ea : ∀ k, (⟨b, o, none⟩ : Addr).add k = ⟨b, o + k, none⟩ := fun k => by unfold Addr.add; split <;> simp_all
  have := h j hj
  rw [ea] at this
  rw [this]
  simp [bcells, hj] at hu
  rw [hu]
theorem u8_back {x : Int} (h : (Lit.int .u8 x).wf = true) : ((UInt8.ofNat x.toNat).toNat : Int) = x := by
  have h1 : IntKind.u8.min = 0 := rfl
  have h2 : IntKind.u8.max = 255 := rfl
  simp only [Lit.wf, Bool.and_eq_true, decide_eq_true_eq] at h
  simp only [UInt8.toNat_ofNat']
  omega
set_option maxRecDepth 100000 in
theorem bulk_lits (k : IntKind) : ∀ zs : List Int, Rows.uptoBulkAll (lits (H := H) k zs) = zs.length
  | [] => rfl
  | z :: zs => by
    have := bulk_lits k zs
    unfold lits at this ⊢
    simp only [List.map_cons, Rows.uptoBulkAll, Rows.uptoBulk, List.length_cons]
    omega
set_option maxRecDepth 100000 in
theorem cells_bytes {A : Option Addr} {n c : Nat} {fuel : Nat} {x : DataW H × List MemPlace} (h : DataW.trod enc Tryz.prog W base (fun _ => true) held fuel 26 [.slice A n c] = some x) :
    ∃ bs : List UInt8, bs.length = n ∧ Rd W A n 1 (bcells bs) ∧ n ≤ c ∧ bs.length ≤ Rows.uptoBulk x.1 ∧ (A = none → n = 0 ∧ c = 0) ∧ (∀ a, A = some a → a.spot = none ∨ c = 0) := by
  rcases open_ints Tryz.underlying26 Tryz.underlying5 cellsB h with ⟨h0, rfl⟩ | ⟨a, len, cap, zs, hcs, _, hl, hm, hz, rfl, hcell, hwf⟩
  · simp only [List.cons.injEq, Value.slice.injEq, and_true] at h0
    obtain ⟨rfl, rfl, rfl⟩ := h0
    exact ⟨[], rfl, Rd.nil _ _ _, Nat.le_refl _, by simp, fun _ => ⟨rfl, rfl⟩, fun a h => by cases h⟩
  · simp only [List.cons.injEq, Value.slice.injEq, and_true] at hcs
    obtain ⟨rfl, rfl, rfl⟩ := hcs
    simp only [if_true] at hz
    refine ⟨(zs.take n).map fun z => UInt8.ofNat z.toNat, by simp; omega, Rd.of_bytes (by simp; omega) (fun i hi => ?_), hl, ?_, (fun h => by cases h), fun a' h => ?_⟩
    · have hi' : i < n := by simp at hi; omega
      rw [hcell i (by omega)]
      have e : zs.getD i 0 = zs[i]'(by omega) := by simp [List.getD, List.getElem?_eq_getElem (show i < zs.length by omega)]
      rw [e]
      simp only [List.getElem_map, List.getElem_take]
      rw [u8_back (hwf _ (List.getElem_mem _))]
    · simp only [Rows.uptoBulk, bulk_lits, List.length_map]
      omega
    · cases h
      rcases Nat.eq_zero_or_pos c with h0 | h0
      · exact .inr h0
      · have h1 := World.cell?_spot (hcell 0 (by omega))
        obtain ⟨b, o, sp⟩ := a
        left
        cases sp <;> simp_all [Addr.add]
end
end Go.Proofs.YtkempjcphpnocaaGreatDoor

namespace Go.Proofs.YtkempjcphpnocaaGreatDoor
open Go.ChangeShapes Go.WideShapes Go.ChangeAt Go.RowKit Go.Deep

theorem entry_st : Tryz.prog.underlying 28 = some (.struct (Tryz.prog.fieldsOf 28)) := by kernel_rfl
theorem entry_cells : Tryz.prog.cellsOf 28 = 9 := by kernel_rfl
theorem entry_ty : (Tryz.prog.fieldsOf 28).map (fun f => (f.type, f.offset)) = #[(9, 0), (9, 1), (25, 2), (26, 6), (3, 7), (3, 8)] := by kernel_rfl
theorem resp_ty2 : (Tryz.prog.fieldsOf 25).map (fun f => (f.type, f.offset)) = #[(3, 0), (9, 1), (3, 2), (23, 3)] := by kernel_rfl
theorem cells_one : Tryz.prog.cellsOf 9 = 1 ∧ Tryz.prog.cellsOf 3 = 1 ∧ Tryz.prog.cellsOf 26 = 1 ∧ Tryz.prog.cellsOf 23 = 1 := ⟨by kernel_rfl, by kernel_rfl, by kernel_rfl, by kernel_rfl⟩
theorem array_nine {α : Type} {a : Array α} (h : a.size = 9) : ∃ x0 x1 x2 x3 x4 x5 x6 x7 x8, a = #[x0, x1, x2, x3, x4, x5, x6, x7, x8] := by
  obtain ⟨l⟩ := a
  match l, h with
  | [x0, x1, x2, x3, x4, x5, x6, x7, x8], _ => exact ⟨x0, x1, x2, x3, x4, x5, x6, x7, x8, rfl⟩
theorem field_at {fs : Array Field} {ts : Array (TypeId × Nat)} (h : fs.map (fun f => (f.type, f.offset)) = ts) (i : Nat) (t : TypeId) (o : Nat) (hi : ts[i]? = some (t, o)) : ∃ f, fs[i]? = some f ∧ f.type = t ∧ f.offset = o := by
  rw [← h, Array.getElem?_map] at hi
  obtain ⟨f, hf, he⟩ := Option.map_eq_some_iff.1 hi
  cases he
  exact ⟨f, hf, rfl, rfl⟩

section
variable {H : Type} {enc : TypeId × Value → H} {W : World} {base : Nat} {held : Bool}
theorem slice_shapeB {fuel : Nat} {v : Value} {x : DataW H × List MemPlace} (h : DataW.trod enc Tryz.prog W base (fun _ => true) held fuel 26 [v] = some x) : ∃ A n c, v = .slice A n c := by
  rcases open_ints Tryz.underlying26 Tryz.underlying5 cellsB h with ⟨h0, _⟩ | ⟨a, len, cap, zs, hcs, _⟩
  · exact ⟨_, _, _, by simpa using h0⟩
  · exact ⟨_, _, _, by simpa using hcs⟩
set_option maxRecDepth 100000 in
theorem open_entry {rr : Reach} {b0 : Nat} {v : Value} {d : DataW H} {p : List MemPlace} (hv : Value.okWide Tryz.prog W rr b0 28 v) (h : DataW.Trod enc Tryz.prog W base (fun _ => true) held 28 v d p) :
    ∃ k u s r m A n c fs X nb cb body asked got, v = .agg #[.string k, .string u, .int .i64 s, .string r, .int .i64 m, .slice A n c, .slice X nb cb, .int .i64 asked, .int .i64 got] ∧ fs.length = n ∧ Rd W A n 2 (fcells fs) ∧ body.length = nb ∧ Rd W X nb 1 (bcells body) ∧ F.bulk fs + k.size + u.size + r.size + body.length ≤ Rows.uptoBulk d := by
  obtain ⟨cs, rfl, hcs⟩ := okWide_struct entry_st hv
  rw [entry_cells] at hcs
  obtain ⟨a0, a1, a2, a3, a4, a5, a6, a7, a8, rfl⟩ := array_nine hcs
  obtain ⟨fuel, hf⟩ := h
  obtain ⟨xs, n, rfl, hx, _, hxl, hall⟩ := DataW.trod_struct entry_st hf
  obtain ⟨c1, c2, c3, c4⟩ := cells_one
  obtain ⟨g0, e0, t0, o0⟩ := field_at entry_ty 0 _ _ rfl
  obtain ⟨g1, e1, t1, o1⟩ := field_at entry_ty 1 _ _ rfl
  obtain ⟨g2, e2, t2, o2⟩ := field_at entry_ty 2 _ _ rfl
  obtain ⟨g3, e3, t3, o3⟩ := field_at entry_ty 3 _ _ rfl
  obtain ⟨g4, e4, t4, o4⟩ := field_at entry_ty 4 _ _ rfl
  obtain ⟨g5, e5, t5, o5⟩ := field_at entry_ty 5 _ _ rfl
  have h0 := hall 0 g0 e0
  have h1 := hall 1 g1 e1
  have h2 := hall 2 g2 e2
  have h3 := hall 3 g3 e3
  have h4 := hall 4 g4 e4
  have h5 := hall 5 g5 e5
  rw [t0, o0, c1] at h0
  rw [t1, o1, c1] at h1
  rw [t2, o2, resp_cells] at h2
  rw [t3, o3, c3] at h3
  rw [t4, o4, c2] at h4
  rw [t5, o5, c2] at h5
  have hz : (Tryz.prog.fieldsOf 28).size = 6 := by have := congrArg Array.size entry_ty; simpa using this
  rw [hz] at hxl
  obtain ⟨y0, y1, y2, y3, y4, y5, rfl⟩ : ∃ y0 y1 y2 y3 y4 y5, xs = [y0, y1, y2, y3, y4, y5] := by
    match xs, hxl with
    | [y0, y1, y2, y3, y4, y5], _ => exact ⟨y0, y1, y2, y3, y4, y5, rfl⟩
  change DataW.trod _ _ _ _ _ _ _ _ [a0] = some y0 at h0
  change DataW.trod _ _ _ _ _ _ _ _ [a1] = some y1 at h1
  change DataW.trod _ _ _ _ _ _ _ _ [a2, a3, a4, a5] = some y2 at h2
  change DataW.trod _ _ _ _ _ _ _ _ [a6] = some y3 at h3
  change DataW.trod _ _ _ _ _ _ _ _ [a7] = some y4 at h4
  change DataW.trod _ _ _ _ _ _ _ _ [a8] = some y5 at h5
  obtain ⟨zs, n2, rfl, hzx, _, hzl, hall2⟩ := DataW.trod_struct resp_st h2
  have hz2 : (Tryz.prog.fieldsOf 25).size = 4 := resp_sz
  rw [hz2] at hzl
  obtain ⟨z0, z1, z2, z3, rfl⟩ : ∃ z0 z1 z2 z3, zs = [z0, z1, z2, z3] := by
    match zs, hzl with
    | [z0, z1, z2, z3], _ => exact ⟨z0, z1, z2, z3, rfl⟩
  obtain ⟨q0, f0, u0, p0⟩ := field_at resp_ty2 0 _ _ rfl
  obtain ⟨q1, f1, u1, p1⟩ := field_at resp_ty2 1 _ _ rfl
  obtain ⟨q2, f2, u2, p2⟩ := field_at resp_ty2 2 _ _ rfl
  obtain ⟨q3, f3, u3, p3⟩ := field_at resp_ty2 3 _ _ rfl
  have k0 := hall2 0 q0 f0
  have k1 := hall2 1 q1 f1
  have k2 := hall2 2 q2 f2
  have k3 := hall2 3 q3 f3
  rw [u0, p0, c2] at k0
  rw [u1, p1, c1] at k1
  rw [u2, p2, c2] at k2
  rw [u3, p3, c4] at k3
  change DataW.trod _ _ _ _ _ _ _ _ [a2] = some z0 at k0
  change DataW.trod _ _ _ _ _ _ _ _ [a3] = some z1 at k1
  change DataW.trod _ _ _ _ _ _ _ _ [a4] = some z2 at k2
  change DataW.trod _ _ _ _ _ _ _ _ [a5] = some z3 at k3
  obtain ⟨k, r0, rfl, _⟩ := DataW.trod_string Tryz.underlying9 h0
  obtain ⟨u, r1, rfl, _⟩ := DataW.trod_string Tryz.underlying9 h1
  obtain ⟨s, r2, rfl, _⟩ := DataW.trod_int Tryz.underlying3 k0
  obtain ⟨r, r3, rfl, _⟩ := DataW.trod_string Tryz.underlying9 k1
  obtain ⟨m, r4, rfl, _⟩ := DataW.trod_int Tryz.underlying3 k2
  obtain ⟨asked, r5, rfl, _⟩ := DataW.trod_int Tryz.underlying3 h4
  obtain ⟨got, r6, rfl, _⟩ := DataW.trod_int Tryz.underlying3 h5
  obtain ⟨A, na, ca, rfl⟩ := slice_shape k3
  obtain ⟨fs, l1, l2, l3, _⟩ := cells_fields k3
  simp only [List.cons.injEq, and_true] at r0 r1 r2 r3 r4 r5 r6
  subst r0 r1 r2 r3 r4 r5 r6
  obtain ⟨X, nb, cb, rfl⟩ := slice_shapeB h3
  obtain ⟨body, m1, m2, _, m4, _⟩ := cells_bytes h3
  have hd : d = .agg _ := congrArg Prod.fst hx
  have hy : y2.1 = .agg _ := congrArg Prod.fst hzx
  refine ⟨k, u, s, r, m, A, na, ca, fs, X, nb, cb, body, asked, got, rfl, l1, l2, m1, m2, ?_⟩
  rw [hd]
  simp only [List.map_cons, List.map_nil, hy, Rows.uptoBulk, Rows.uptoBulkAll, Array.length_toList]
  have : k.size = k.data.size := rfl
  have : u.size = u.data.size := rfl
  have : r.size = r.data.size := rfl
  omega
end
end Go.Proofs.YtkempjcphpnocaaGreatDoor
