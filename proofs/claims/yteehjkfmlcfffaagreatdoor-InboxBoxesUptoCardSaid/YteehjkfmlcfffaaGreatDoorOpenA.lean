/- An argument that is a list of fields, a string or a struct of these, opened to what a walk reads; its bulk; and read again behind the call. No condition: plain lemmas. A parameter that is a response, opened. No condition: plain lemmas. A parameter that is a request, a target, a list of bytes, opened. No condition: plain lemmas. A parameter that is an entry, opened. No condition: plain lemmas. -/
import Derived.Test.YteehjkfmlcfffaaGreatDoorLaid
import Derived.Test.YteehjkfmlcfffaaGreatDoorStripA
import Derived.Deep.Slices
import Derived.Deep.Fields
import Derived.ChangeSame
import Derived.DataReads
import Derived.WideKeyArgs
import Derived.Lib.SmallJoins
import Derived.ChangeSlices
import Derived.ChangeArms
namespace Go.Proofs.YteehjkfmlcfffaaGreatDoor
open Go.ChangeShapes Go.WideShapes Go.ChangeAt Go.RowKit Go.Deep

theorem laidOut_ : laidOutB Tryz.prog = true := by kernel_rfl
theorem fsz : (Tryz.prog.fieldsOf 148).size = 2 := by kernel_rfl
theorem fs0 : ((Tryz.prog.fieldsOf 148)[0]?).map (fun f => (f.type, f.offset)) = some (9, 0) := by kernel_rfl
theorem fs1 : ((Tryz.prog.fieldsOf 148)[1]?).map (fun f => (f.type, f.offset)) = some (9, 1) := by kernel_rfl
theorem cellsF : Tryz.prog.cellsOf 148 = 2 := by kernel_rfl
theorem cellsS : Tryz.prog.cellsOf 9 = 1 := by kernel_rfl
theorem array_two {α : Type} {a : Array α} (h : a.size = 2) : ∃ x y, a = #[x, y] := by
  obtain ⟨l⟩ := a
  match l, h with
  | [x, y], _ => exact ⟨x, y, rfl⟩
theorem field_two : ∃ f0 f1 : Field, Tryz.prog.underlying 148 = some (.struct #[f0, f1]) ∧ f0.type = 9 ∧ f0.offset = 0 ∧ f1.type = 9 ∧ f1.offset = 1 := by
  obtain ⟨f0, f1, h⟩ := array_two fsz
  have h0 := fs0
  have h1 := fs1
  rw [h] at h0 h1
  simp at h0 h1
  exact ⟨f0, f1, by rw [← h]; exact fieldT_st, h0.1, h0.2, h1.1, h1.2⟩

section
variable {H : Type} {enc : TypeId × Value → H} {W : World} {base : Nat} {spare : Nat → Bool} {held : Bool}
theorem open_field {fuel : Nat} {cs : List Value} {x : DataW H × List MemPlace} (h : DataW.trod enc Tryz.prog W base spare held fuel 148 cs = some x) :
    ∃ f : FD, cs = [.string f.1, .string f.2] ∧ x.1 = .agg [.lit (.string f.1.data.toList), .lit (.string f.2.data.toList)] := by
  obtain ⟨f0, f1, hs, t0, o0, t1, o1⟩ := field_two
  obtain ⟨y0, y1, n, rfl, hl, h0, h1⟩ := trod_struct2 hs h
  rw [t0, o0, cellsS] at h0
  rw [t1, o1, cellsS] at h1
  rw [cellsF] at hl
  obtain ⟨s0, e0, rfl, _⟩ := DataW.trod_string Tryz.underlying9 h0
  obtain ⟨s1, e1, rfl, _⟩ := DataW.trod_string Tryz.underlying9 h1
  refine ⟨(s0, s1), ?_, rfl⟩
  match cs, hl with
  | [a, b], _ =>
    simp at e0 e1
    rw [e0, e1]

/-- what a field's reading weighs -/
theorem bulk_field (f : FD) : f.1.size + f.2.size + 1 ≤ Rows.uptoBulk (DataW.agg (H := H) [.lit (.string f.1.data.toList), .lit (.string f.2.data.toList)]) := by
  simp only [Rows.uptoBulk, Rows.uptoBulkAll, Array.length_toList]
  have : f.1.size = f.1.data.size := rfl
  have : f.2.size = f.2.data.size := rfl
  omega
theorem bulk_list {D : Nat → DataW H} {g : Nat → FD} : ∀ l : List Nat, (∀ i ∈ l, (g i).1.size + (g i).2.size + 1 ≤ Rows.uptoBulk (D i)) → F.bulk (l.map g) ≤ Rows.uptoBulkAll (l.map D)
  | [], _ => by simp [F.bulk]
  | i :: l, h => by
    have h1 := h i (by simp)
    have h2 := bulk_list l (fun j hj => h j (by simp [hj]))
    simp only [List.map_cons, F.bulk, Rows.uptoBulkAll]
    omega

theorem Rd.of_at {A : Addr} {n : Nat} {fs : List FD} (hl : fs.length = n) (h : ∀ i (hi : i < fs.length), W.cell? (A.add (i * 2)) = some (.string (fs[i]).1) ∧ W.cell? (A.add (i * 2 + 1)) = some (.string (fs[i]).2)) : Rd W (some A) n 2 (fcells fs) := by
  refine ⟨by rw [fcells_length, hl], fun hn => ?_⟩
  have h0 := (h 0 (by omega)).1
  have hspot : (A.add (0 * 2)).spot = none := World.cell?_spot h0
  obtain ⟨b, o, sp⟩ := A
  have : sp = none := by cases sp <;> simp_all [Addr.add]
  subst this
  refine ⟨b, o, rfl, World.block_lt_of_cell? W _ h0, fun j u hu => ?_⟩
  have hj : j < fs.length * 2 := by rw [← fcells_length]; exact (List.getElem?_eq_some_iff.1 hu).1
  have ea : ∀ k, (⟨b, o, none⟩ : Addr).add k = ⟨b, o + k, none⟩ := fun k => by unfold Addr.add; split <;> simp_all
  obtain ⟨i, hi⟩ : ∃ i, j = i * 2 ∨ j = i * 2 + 1 := ⟨j / 2, by omega⟩
  rcases hi with rfl | rfl
  · have hil : i < fs.length := by omega
    have := (h i hil).1
    rw [ea] at this
    rw [this]
    exact (fcells_at fs i hil).1.symm.trans hu
  · have hil : i < fs.length := by omega
    have := (h i hil).2
    rw [ea] at this
    rw [this]
    exact (fcells_at fs i hil).2.symm.trans hu

theorem cells_fields {A : Option Addr} {n c : Nat} {fuel : Nat} {x : DataW H × List MemPlace} (h : DataW.trod enc Tryz.prog W base (fun _ => true) held fuel 23 [.slice A n c] = some x) :
    ∃ fs : List FD, fs.length = n ∧ Rd W A n 2 (fcells fs) ∧ F.bulk fs ≤ Rows.uptoBulk x.1 ∧ (A = none → n = 0 ∧ c = 0) := by
  rcases open_slice Tryz.underlying23 h with ⟨h0, rfl⟩ | ⟨a, len, cap, m, k, D, Pl, hcs, _, hl, hm, hmm, rfl, hi⟩
  · simp only [List.cons.injEq, Value.slice.injEq, and_true] at h0
    obtain ⟨rfl, rfl, rfl⟩ := h0
    exact ⟨[], rfl, Rd.nil _ _ _, by simp [F.bulk], fun _ => ⟨rfl, rfl⟩⟩
  · simp only [List.cons.injEq, Value.slice.injEq, and_true] at hcs
    obtain ⟨rfl, rfl, rfl⟩ := hcs
    simp only [if_true] at hmm
    subst hmm
    have each : ∀ i, ∃ f : FD, i < n → W.cell? (a.add (i * 2)) = some (.string f.1) ∧ W.cell? (a.add (i * 2 + 1)) = some (.string f.2) ∧ D i = .agg [.lit (.string f.1.data.toList), .lit (.string f.2.data.toList)] := by
      intro i
      by_cases hin : i < n
      · obtain ⟨cs', hc, ht⟩ := hi i (by omega)
        rw [cellsF] at hc
        obtain ⟨f, rfl, hx⟩ := open_field ht
        obtain ⟨_, _, hat⟩ := World.cells?_some hc
        have h0 := hat 0 (by omega)
        have h1 := hat 1 (by omega)
        rw [Go.Deep.add_add] at h0 h1
        exact ⟨f, fun _ => ⟨h0, h1, hx⟩⟩
      · exact ⟨(⟨#[]⟩, ⟨#[]⟩), fun h => absurd h hin⟩
    obtain ⟨g, hg⟩ : ∃ g : Nat → FD, ∀ i, i < n → W.cell? (a.add (i * 2)) = some (.string (g i).1) ∧ W.cell? (a.add (i * 2 + 1)) = some (.string (g i).2) ∧ D i = .agg [.lit (.string (g i).1.data.toList), .lit (.string (g i).2.data.toList)] :=
      ⟨fun i => (each i).choose, fun i => (each i).choose_spec⟩
    refine ⟨(List.range n).map g, by simp, Rd.of_at (by simp) (fun i hi => ?_), ?_, fun h => by cases h⟩
    · rw [List.length_map, List.length_range] at hi
      have := hg i hi
      simp only [List.getElem_map, List.getElem_range]
      exact ⟨this.1, this.2.1⟩
    · have := bulk_list (D := D) (g := g) (List.range n) (fun i hi => by
        have := hg i (List.mem_range.1 hi)
        rw [this.2.2]
        exact bulk_field _)
      simp only [Rows.uptoBulk]
      omega

end

/-- What an argument read, it reads behind a call that leaves what was there. -/
theorem again {H : Type} {enc : TypeId × Value → H} {t : TypeId} (hr : Tryz.prog.readableRec t = true) (hrow : t < Tryz.prog.types.size) {W W' : World} {v : Value} {d : DataW H} {ps : List MemPlace}
    (h : DataW.Trod enc Tryz.prog W 0 (fun _ => true) true t v d ps) (hb : Below W.heap.size W W') (hlt : ∀ x ∈ ps, x.block < W.heap.size) (sp : Nat → Bool) (hsp : ∀ x ∈ ps, sp x.block = true) :
    DataW.Trod enc Tryz.prog W' 0 sp true t v d ps :=
  WideElems.Trod_stays laidOut_ hr hrow h (fun x hx => hb.same (hlt x hx)) hsp
end Go.Proofs.YteehjkfmlcfffaaGreatDoor

namespace Go.Proofs.YteehjkfmlcfffaaGreatDoor
open Go.ChangeShapes Go.WideShapes Go.ChangeAt Go.RowKit Go.Deep

theorem array_four {α : Type} {a : Array α} (h : a.size = 4) : ∃ x y z u, a = #[x, y, z, u] := by
  obtain ⟨l⟩ := a
  match l, h with
  | [x, y, z, u], _ => exact ⟨x, y, z, u, rfl⟩
theorem resp_sz : (Tryz.prog.fieldsOf 27).size = 4 := by kernel_rfl
theorem resp_ty : (Tryz.prog.fieldsOf 27).map (·.type) = #[3, 9, 3, 23] := by kernel_rfl
theorem resp_st : Tryz.prog.underlying 27 = some (.struct (Tryz.prog.fieldsOf 27)) := by kernel_rfl
theorem resp_one : oneCellFields Tryz.prog (Tryz.prog.fieldsOf 27) = true := by kernel_rfl
theorem resp_cells : Tryz.prog.cellsOf 27 = 4 := by kernel_rfl

section
variable {H : Type} {enc : TypeId × Value → H} {W : World} {base : Nat} {held : Bool}
theorem slice_shape {fuel : Nat} {v : Value} {x : DataW H × List MemPlace} (h : DataW.trod enc Tryz.prog W base (fun _ => true) held fuel 23 [v] = some x) : ∃ A n c, v = .slice A n c := by
  rcases open_slice Tryz.underlying23 h with ⟨h0, _⟩ | ⟨a, len, cap, m, k, D, Pl, hcs, _⟩
  · exact ⟨_, _, _, by simpa using h0⟩
  · exact ⟨_, _, _, by simpa using hcs⟩

set_option maxRecDepth 100000 in
theorem open_resp {r : Reach} {b0 : Nat} {v : Value} {d : DataW H} {p : List MemPlace} (hv : Value.okWide Tryz.prog W r b0 27 v) (h : DataW.Trod enc Tryz.prog W base (fun _ => true) held 27 v d p) :
    ∃ s t m A n c fs, v = .agg #[.int .i64 s, .string t, .int .i64 m, .slice A n c] ∧ (Lit.int .i64 s).wf = true ∧ (Lit.int .i64 m).wf = true ∧ fs.length = n ∧ Rd W A n 2 (fcells fs) ∧ F.bulk fs + t.size ≤ Rows.uptoBulk d ∧ (A = none → n = 0 ∧ c = 0) := by
  obtain ⟨f0, f1, f2, f3, hf⟩ := array_four resp_sz
  have ht := resp_ty
  have hs := resp_st
  have ho := resp_one
  rw [hf] at ht hs ho
  simp at ht
  obtain ⟨t0, t1, t2, t3⟩ := ht
  obtain ⟨v0, v1, v2, v3, y0, y1, y2, y3, n, rfl, rfl, rfl, h0, h1, h2, h3⟩ := Go.Joins.open_agg4 hs ho resp_cells hv h
  rw [t0] at h0
  rw [t1] at h1
  rw [t2] at h2
  rw [t3] at h3
  obtain ⟨s, e0, rfl, w0⟩ := DataW.trod_int Tryz.underlying3 h0
  obtain ⟨t, e1, rfl, _⟩ := DataW.trod_string Tryz.underlying9 h1
  obtain ⟨m, e2, rfl, w2⟩ := DataW.trod_int Tryz.underlying3 h2
  obtain ⟨A, k, c, rfl⟩ := slice_shape h3
  obtain ⟨fs, l1, l2, l3, l4⟩ := cells_fields h3
  simp only [List.cons.injEq, and_true] at e0 e1 e2
  subst e0
  subst e1
  subst e2
  refine ⟨s, t, m, A, k, c, fs, rfl, w0, w2, l1, l2, ?_, l4⟩
  simp only [Rows.uptoBulk, Rows.uptoBulkAll, Array.length_toList]
  have : t.size = t.data.size := rfl
  omega
end
end Go.Proofs.YteehjkfmlcfffaaGreatDoor

namespace Go.Proofs.YteehjkfmlcfffaaGreatDoor
open Go.ChangeShapes Go.WideShapes Go.ChangeAt Go.RowKit Go.Deep

theorem array_three {α : Type} {a : Array α} (h : a.size = 3) : ∃ x y z, a = #[x, y, z] := by
  obtain ⟨l⟩ := a
  match l, h with
  | [x, y, z], _ => exact ⟨x, y, z, rfl⟩
theorem req_sz : (Tryz.prog.fieldsOf 25).size = 4 := by kernel_rfl
theorem req_ty : (Tryz.prog.fieldsOf 25).map (·.type) = #[9, 9, 3, 23] := by kernel_rfl
theorem req_st : Tryz.prog.underlying 25 = some (.struct (Tryz.prog.fieldsOf 25)) := by kernel_rfl
theorem req_one : oneCellFields Tryz.prog (Tryz.prog.fieldsOf 25) = true := by kernel_rfl
theorem req_cells : Tryz.prog.cellsOf 25 = 4 := by kernel_rfl
theorem tgt_sz : (Tryz.prog.fieldsOf 66).size = 3 := by kernel_rfl
theorem tgt_ty : (Tryz.prog.fieldsOf 66).map (·.type) = #[9, 3, 9] := by kernel_rfl
theorem tgt_st : Tryz.prog.underlying 66 = some (.struct (Tryz.prog.fieldsOf 66)) := by kernel_rfl
theorem tgt_one : oneCellFields Tryz.prog (Tryz.prog.fieldsOf 66) = true := by kernel_rfl
theorem tgt_cells : Tryz.prog.cellsOf 66 = 3 := by kernel_rfl
theorem cellsB : Tryz.prog.cellsOf 5 = 1 := by kernel_rfl

section
variable {H : Type} {enc : TypeId × Value → H} {W : World} {base : Nat} {held : Bool}
set_option maxRecDepth 100000 in
theorem open_req {r : Reach} {b0 : Nat} {v : Value} {d : DataW H} {p : List MemPlace} (hv : Value.okWide Tryz.prog W r b0 25 v) (h : DataW.Trod enc Tryz.prog W base (fun _ => true) held 25 v d p) :
    ∃ s t m A n c fs, v = .agg #[.string s, .string t, .int .i64 m, .slice A n c] ∧ (Lit.int .i64 m).wf = true ∧ fs.length = n ∧ Rd W A n 2 (fcells fs) ∧ F.bulk fs + s.size + t.size ≤ Rows.uptoBulk d ∧ (A = none → n = 0 ∧ c = 0) := by
  obtain ⟨f0, f1, f2, f3, hf⟩ := array_four req_sz
  have ht := req_ty
  have hs := req_st
  have ho := req_one
  rw [hf] at ht hs ho
  simp at ht
  obtain ⟨t0, t1, t2, t3⟩ := ht
  obtain ⟨v0, v1, v2, v3, y0, y1, y2, y3, n, rfl, rfl, rfl, h0, h1, h2, h3⟩ := Go.Joins.open_agg4 hs ho req_cells hv h
  rw [t0] at h0
  rw [t1] at h1
  rw [t2] at h2
  rw [t3] at h3
  obtain ⟨s, e0, rfl, _⟩ := DataW.trod_string Tryz.underlying9 h0
  obtain ⟨t, e1, rfl, _⟩ := DataW.trod_string Tryz.underlying9 h1
  obtain ⟨m, e2, rfl, w2⟩ := DataW.trod_int Tryz.underlying3 h2
  obtain ⟨A, k, c, rfl⟩ := slice_shape h3
  obtain ⟨fs, l1, l2, l3, l4⟩ := cells_fields h3
  simp only [List.cons.injEq, and_true] at e0 e1 e2
  subst e0
  subst e1
  subst e2
  refine ⟨s, t, m, A, k, c, fs, rfl, w2, l1, l2, ?_, l4⟩
  simp only [Rows.uptoBulk, Rows.uptoBulkAll, Array.length_toList]
  have : t.size = t.data.size := rfl
  have : s.size = s.data.size := rfl
  omega
set_option maxRecDepth 100000 in
theorem open_tgt {r : Reach} {b0 : Nat} {v : Value} {d : DataW H} {p : List MemPlace} (hv : Value.okWide Tryz.prog W r b0 66 v) (h : DataW.Trod enc Tryz.prog W base (fun _ => true) held 66 v d p) :
    ∃ s m t, v = .agg #[.string s, .int .i64 m, .string t] ∧ (Lit.int .i64 m).wf = true ∧ s.size + t.size ≤ Rows.uptoBulk d := by
  obtain ⟨f0, f1, f2, hf⟩ := array_three tgt_sz
  have ht := tgt_ty
  have hs := tgt_st
  have ho := tgt_one
  rw [hf] at ht hs ho
  simp at ht
  obtain ⟨t0, t1, t2⟩ := ht
  obtain ⟨v0, v1, v2, y0, y1, y2, n, rfl, rfl, rfl, h0, h1, h2⟩ := Go.Joins.open_agg3 hs ho tgt_cells hv h
  rw [t0] at h0
  rw [t1] at h1
  rw [t2] at h2
  obtain ⟨s, e0, rfl, _⟩ := DataW.trod_string Tryz.underlying9 h0
  obtain ⟨m, e1, rfl, w1⟩ := DataW.trod_int Tryz.underlying3 h1
  obtain ⟨t, e2, rfl, _⟩ := DataW.trod_string Tryz.underlying9 h2
  simp only [List.cons.injEq, and_true] at e0 e1 e2
  subst e0
  subst e1
  subst e2
  refine ⟨s, m, t, rfl, w1, ?_⟩
  simp only [Rows.uptoBulk, Rows.uptoBulkAll, Array.length_toList]
  have : t.size = t.data.size := rfl
  have : s.size = s.data.size := rfl
  omega

theorem Rd.of_bytes {A : Addr} {n : Nat} {bs : List UInt8} (hl : bs.length = n) (h : ∀ i (hi : i < bs.length), W.cell? (A.add i) = some (.int .u8 (bs[i]).toNat)) : Rd W (some A) n 1 (bcells bs) := by
  refine ⟨by simp [bcells, hl], fun hn => ?_⟩
  have h0 := h 0 (by omega)
  have hspot : (A.add 0).spot = none := World.cell?_spot h0
  obtain ⟨b, o, sp⟩ := A
  have : sp = none := by cases sp <;> simp_all [Addr.add]
  subst this
  refine ⟨b, o, rfl, World.block_lt_of_cell? W _ h0, fun j u hu => ?_⟩
  have hj : j < bs.length := by
    have := (List.getElem?_eq_some_iff.1 hu).1
    simpa [bcells] using this
  have ea : ∀ k, (⟨b, o, none⟩ : Addr).add k = ⟨b, o + k, none⟩ := fun k => by unfold Addr.add; split <;> simp_all
  have := h j hj
  rw [ea] at this
  rw [this]
  simp [bcells, hj] at hu
  rw [hu]
theorem u8_back {x : Int} (h : (Lit.int .u8 x).wf = true) : ((UInt8.ofNat x.toNat).toNat : Int) = x := by
  have h1 : IntKind.u8.min = 0 := rfl
  have h2 : IntKind.u8.max = 255 := rfl
  simp only [Lit.wf, Bool.and_eq_true, decide_eq_true_eq] at h
  simp only [UInt8.toNat_ofNat']
  omega
set_option maxRecDepth 100000 in
theorem bulk_lits (k : IntKind) : ∀ zs : List Int, Rows.uptoBulkAll (lits (H := H) k zs) = zs.length
  | [] => rfl
  | z :: zs => by
    have := bulk_lits k zs
    unfold lits at this ⊢
    simp only [List.map_cons, Rows.uptoBulkAll, Rows.uptoBulk, List.length_cons]
    omega
set_option maxRecDepth 100000 in
theorem cells_bytes {A : Option Addr} {n c : Nat} {fuel : Nat} {x : DataW H × List MemPlace} (h : DataW.trod enc Tryz.prog W base (fun _ => true) held fuel 22 [.slice A n c] = some x) :
    ∃ bs : List UInt8, bs.length = n ∧ Rd W A n 1 (bcells bs) ∧ n ≤ c ∧ bs.length ≤ Rows.uptoBulk x.1 ∧ (A = none → n = 0 ∧ c = 0) ∧ (∀ a, A = some a → a.spot = none ∨ c = 0) := by
  rcases open_ints Tryz.underlying22 Tryz.underlying5 cellsB h with ⟨h0, rfl⟩ | ⟨a, len, cap, zs, hcs, _, hl, hm, hz, rfl, hcell, hwf⟩
  · simp only [List.cons.injEq, Value.slice.injEq, and_true] at h0
    obtain ⟨rfl, rfl, rfl⟩ := h0
    exact ⟨[], rfl, Rd.nil _ _ _, Nat.le_refl _, by simp, fun _ => ⟨rfl, rfl⟩, fun a h => by cases h⟩
  · simp only [List.cons.injEq, Value.slice.injEq, and_true] at hcs
    obtain ⟨rfl, rfl, rfl⟩ := hcs
    simp only [if_true] at hz
    refine ⟨(zs.take n).map fun z => UInt8.ofNat z.toNat, by simp; omega, Rd.of_bytes (by simp; omega) (fun i hi => ?_), hl, ?_, (fun h => by cases h), fun a' h => ?_⟩
    · have hi' : i < n := by simp at hi; omega
      rw [hcell i (by omega)]
      have e : zs.getD i 0 = zs[i]'(by omega) := by simp [List.getD, List.getElem?_eq_getElem (show i < zs.length by omega)]
      rw [e]
      simp only [List.getElem_map, List.getElem_take]
      rw [u8_back (hwf _ (List.getElem_mem _))]
    · simp only [Rows.uptoBulk, bulk_lits, List.length_map]
      omega
    · cases h
      rcases Nat.eq_zero_or_pos c with h0 | h0
      · exact .inr h0
      · have h1 := World.cell?_spot (hcell 0 (by omega))
        obtain ⟨b, o, sp⟩ := a
        left
        cases sp <;> simp_all [Addr.add]
set_option maxRecDepth 100000 in
/-- A parameter that is a list of bytes. -/
theorem open_bytes {r : Reach} {b0 : Nat} {v : Value} {d : DataW H} {p : List MemPlace} (hv : Value.okWide Tryz.prog W r b0 22 v) (h : DataW.Trod enc Tryz.prog W base (fun _ => true) held 22 v d p) :
    ∃ A n c bs, v = .slice A n c ∧ bs.length = n ∧ Rd W A n 1 (bcells bs) ∧ n ≤ c ∧ bs.length ≤ Rows.uptoBulk d ∧ (A = none → n = 0 ∧ c = 0) ∧ (∀ a, A = some a → a.spot = none ∨ c = 0) := by
  obtain ⟨A, n, c, rfl⟩ := okWide_slice Tryz.underlying22 hv
  obtain ⟨fuel, hf⟩ := h
  obtain ⟨bs, h1, h2, h3, h4, h5, h6⟩ := cells_bytes (A := A) (n := n) (c := c) hf
  exact ⟨A, n, c, bs, rfl, h1, h2, h3, h4, h5, h6⟩
end
end Go.Proofs.YteehjkfmlcfffaaGreatDoor

