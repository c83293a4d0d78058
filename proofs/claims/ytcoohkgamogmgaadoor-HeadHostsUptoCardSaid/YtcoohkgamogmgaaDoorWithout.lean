/- The walks of fields.Without, with the library's Clone, DeleteFunc, IndexFunc, ContainsFunc at its closures. -/
import Derived.Test.YtcoohkgamogmgaaDoorFld2
namespace Go.Proofs.YtcoohkgamogmgaaDoor
open Go.RowKit

def NSmall (ns : List ByteArray) : Prop := ∀ s ∈ ns, s.size ≤ 1099511627776
/-- Is the field's name among the names? -/
def among (ns : List ByteArray) (f : FD) : Bool := ns.any fun n => F.is f n

set_option maxHeartbeats 400000 in
theorem inner_any (f : FD) (name : ByteArray) (g : Nat) (w : World) (h1 : f.1.size ≤ 1099511627776) (h2 : name.size ≤ 1099511627776)
    (c0 : w.cell? ⟨g, 0, none⟩ = some (.string f.1)) (c1 : w.cell? ⟨g, 1, none⟩ = some (.string f.2)) :
    Calls Tryd.prog 89 #[.string name, .pointer (some ⟨g, 0, none⟩)] w (RetB w (F.is f name)) := by
  go_enter Tryd.func89, Tryd.ntmps89
  go_wp2_with fail
  refine (is_any f name _ h1 h2).mono ?_
  rintro e w1 ⟨rfl, hb1⟩
  go_wp2
  go_ret
  exact ⟨rfl, hb1⟩

def RetIdx (w : World) (b : Bool) (e : Ending) (w' : World) : Prop := ∃ r : Int, e = .returned (.int .i64 r) ∧ decide (0 ≤ r) = b ∧ Below w.heap.size w w'

theorem any_take_snoc {α : Type} (p : α → Bool) (l : List α) (k : Nat) (h : k < l.length) : (l.take (k + 1)).any p = ((l.take k).any p || p l[k]) := by
  rw [List.take_succ_eq_append_getElem h, List.any_append]; simp

set_option maxHeartbeats 400000 in
theorem indexS_any (X : Option Addr) (m d : Nat) (ns : List ByteArray) (f : FD) (g : Nat) (w : World) (hm : m ≤ 1099511627776) (hl : ns.length = m) (hn : NSmall ns) (h1 : f.1.size ≤ 1099511627776)
    (hx : Rd w X m 1 (scells ns)) (c0 : w.cell? ⟨g, 0, none⟩ = some (.string f.1)) (c1 : w.cell? ⟨g, 1, none⟩ = some (.string f.2)) :
    Calls Tryd.prog 116 #[.slice X m d, .func (.func 89) #[] #[.pointer (some ⟨g, 0, none⟩)]] w (RetIdx w (among ns f)) := by
  have HL := Lib.hid hl; clear hl
  have hg : g < w.heap.size := cell_lt c0
  go_enter Tryd.func116, Tryd.ntmps116
  go_wp2
  go_loopw [5, 8] (fun _ i wr => ∃ k : Nat, k ≤ m ∧ i = .int .i64 k ∧ (ns.take k).any (fun n => F.is f n) = false ∧ Below w.heap.size w wr) (fun _ i _ => m - (intOf i).toNat)
  case atStart => exact ⟨0, Nat.zero_le _, rfl, rfl, Below.refl _ _⟩
  case round =>
    obtain ⟨k, hk, rfl, ha, hbel⟩ := hrel
    have HA := Lib.hid ha; clear ha
    by_cases hlt : k < m
    · have hkl : k < ns.length := by rw [HL.out]; exact hlt
      obtain ⟨b, o, rfl, hb, cx⟩ := (hx.below hbel).str hlt HL.out
      have hsx := hn _ (List.getElem_mem hkl)
      have hmem := List.getElem_mem hkl
      have hsn := any_take_snoc (fun n => F.is f n) ns k hkl
      obtain ⟨x, hxk⟩ : ∃ x, x = ns[k]'hkl := ⟨_, rfl⟩
      rw [← hxk] at cx hsx hsn hmem
      clear hxk
      rw [HA.out, Bool.false_or] at hsn
      have HSN := Lib.hid hsn; clear hsn
      have d0 : wr.cell? ⟨g, 0, none⟩ = some (.string f.1) := (hbel.cell (p := ⟨g, 0, none⟩) hg).trans c0
      have d1 : wr.cell? ⟨g, 1, none⟩ = some (.string f.2) := (hbel.cell (p := ⟨g, 1, none⟩) hg).trans c1
      have hcc := inner_any f x g wr h1 hsx d0 d1
      rcases tf (F.is f x) with his | his
      · have hall : among ns f = true := List.any_eq_true.2 ⟨x, hmem, his⟩
        have HALL := Lib.hid hall; clear hall
        rw [his] at hcc
        go_wp2_with fail
        refine hcc.mono ?_
        rintro e w1 ⟨rfl, hb1⟩
        clear hcc
        go_wp2
        go_ret
        exact ⟨k, rfl, by rw [HALL.out]; simp, below_next hbel hb1⟩
      · have HSN2 : Hid ((ns.take (k + 1)).any (fun n => F.is f n) = false) := by have := HSN.out; rw [this]; exact his
        rw [his] at hcc
        go_wp2_with fail
        refine hcc.mono ?_
        rintro e w1 ⟨rfl, hb1⟩
        clear hcc
        have hB1 := below_next hbel hb1
        go_wp2
        go_roundw
        case rel => exact ⟨k + 1, by omega, by go_num, HSN2.out, hB1⟩
        case measure => simp [intOf]; omega
    · have hall : among ns f = false := by
        have := HA.out
        rw [List.take_of_length_le (by rw [HL.out]; omega)] at this
        exact this
      have HALL := Lib.hid hall; clear hall
      go_wp2
      go_ret
      exact ⟨-1, rfl, by rw [HALL.out]; rfl, hbel⟩

set_option maxHeartbeats 400000 in
theorem containsS_any (X : Option Addr) (m d : Nat) (ns : List ByteArray) (f : FD) (g : Nat) (w : World) (hm : m ≤ 1099511627776) (hl : ns.length = m) (hn : NSmall ns) (h1 : f.1.size ≤ 1099511627776)
    (hx : Rd w X m 1 (scells ns)) (c0 : w.cell? ⟨g, 0, none⟩ = some (.string f.1)) (c1 : w.cell? ⟨g, 1, none⟩ = some (.string f.2)) :
    Calls Tryd.prog 88 #[.slice X m d, .func (.func 89) #[] #[.pointer (some ⟨g, 0, none⟩)]] w (RetB w (among ns f)) := by
  have H := Lib.hid (indexS_any X m d ns f g w hm hl hn h1 hx c0 c1)
  clear hl hn
  go_enter Tryd.func88, Tryd.ntmps88
  go_wp2_with fail
  refine H.out.mono ?_
  rintro e w1 ⟨r, rfl, hr, hb1⟩
  have HR := Lib.hid hr; clear hr
  go_wp2
  go_ret
  exact ⟨ret_bool HR.out, hb1⟩

set_option maxHeartbeats 400000 in
theorem outer_any (X : Option Addr) (m d : Nat) (ns : List ByteArray) (f : FD) (g : Nat) (w : World) (hm : m ≤ 1099511627776) (hl : ns.length = m) (hn : NSmall ns) (h1 : f.1.size ≤ 1099511627776)
    (hx : Rd w X m 1 (scells ns)) (c0 : w.cell? ⟨g, 0, none⟩ = some (.slice X m d)) :
    Calls Tryd.prog 87 #[.agg #[.string f.1, .string f.2], .pointer (some ⟨g, 0, none⟩)] w (RetB w (among ns f)) := by
  have hg : g < w.heap.size := cell_lt c0
  have H := Lib.hid (containsS_any X m d ns f w.heap.size (w.alloc (.cells #[.string f.1, .string f.2] 67)) hm hl hn h1 (hx.alloc _) (by simp) (by simp))
  clear hl hn
  go_enter Tryd.func87, Tryd.ntmps87
  go_wp2_with fail
  refine H.out.mono ?_
  rintro e w1 ⟨rfl, hb1⟩
  go_wp2
  go_ret
  exact ⟨rfl, below_new (Below.refl _ _) (Nat.le_refl _) hb1⟩

/-- What the closure needs of memory, told of an earlier world. -/
structure Names (w0 : World) (X : Option Addr) (m d : Nat) (ns : List ByteArray) (g : Nat) : Prop where
  hm : m ≤ 1099511627776
  hl : ns.length = m
  hn : NSmall ns
  hx : Rd w0 X m 1 (scells ns)
  c0 : w0.cell? ⟨g, 0, none⟩ = some (.slice X m d)
theorem Names.call {w0 w : World} {X : Option Addr} {m d : Nat} {ns : List ByteArray} {g : Nat} (h : Names w0 X m d ns g) (hb : Below w0.heap.size w0 w) (f : FD) (h1 : f.1.size ≤ 1099511627776) :
    Calls Tryd.prog 87 #[.agg #[.string f.1, .string f.2], .pointer (some ⟨g, 0, none⟩)] w (RetB w (among ns f)) :=
  outer_any X m d ns f g w h.hm h.hl h.hn h1 (h.hx.below hb) ((hb.cell (p := ⟨g, 0, none⟩) (cell_lt h.c0)).trans h.c0)

/-- The place of the first field among the names, or -1. -/
def FirstAt (p : FD → Bool) (fs : List FD) (r : Int) : Prop := (r = -1 ∧ ∀ f ∈ fs, p f = false) ∨ ∃ (k : Nat) (h : k < fs.length), r = k ∧ p fs[k] = true ∧ ∀ f ∈ fs.take k, p f = false
def RetAt (w : World) (p : FD → Bool) (fs : List FD) (e : Ending) (w' : World) : Prop := ∃ r : Int, e = .returned (.int .i64 r) ∧ FirstAt p fs r ∧ Below w.heap.size w w'

set_option maxHeartbeats 400000 in
theorem indexF_any (A : Option Addr) (n c : Nat) (fs : List FD) (w0 : World) (X : Option Addr) (m d : Nat) (ns : List ByteArray) (g : Nat) (w : World) (hn : n ≤ 1099511627776) (hl : fs.length = n) (hf : FSmall fs)
    (H0 : Names w0 X m d ns g) (hb0 : Below w0.heap.size w0 w) (hx : Rd w A n 2 (fcells fs)) :
    Calls Tryd.prog 115 #[.slice A n c, .func (.func 87) #[] #[.pointer (some ⟨g, 0, none⟩)]] w (RetAt w (among ns) fs) := by
  have HL := Lib.hid hl; clear hl
  go_enter Tryd.func115, Tryd.ntmps115
  go_wp2
  go_loopw [5, 8] (fun _ i wr => ∃ k : Nat, k ≤ n ∧ i = .int .i64 k ∧ (∀ f ∈ fs.take k, among ns f = false) ∧ Below w.heap.size w wr) (fun _ i _ => n - (intOf i).toNat)
  case atStart => exact ⟨0, Nat.zero_le _, rfl, by simp, Below.refl _ _⟩
  case round =>
    obtain ⟨k, hk, rfl, ha, hbel⟩ := hrel
    have HA := Lib.hid ha; clear ha
    by_cases hlt : k < n
    · have hkl : k < fs.length := by rw [HL.out]; exact hlt
      obtain ⟨b, o, rfl, hb, c1, c2⟩ := (hx.below hbel).field hlt HL.out
      have hfs := hf _ (List.getElem_mem hkl)
      obtain ⟨f, hfk⟩ : ∃ f, f = fs[k]'hkl := ⟨_, rfl⟩
      rw [← hfk] at c1 c2 hfs
      have HK := Lib.hid hfk; clear hfk
      have hcc := H0.call (below_then hb0.size hb0 hbel) f hfs.1
      rcases tf (among ns f) with his | his
      · rw [his] at hcc
        have HI := Lib.hid his; clear his
        go_wp2_with fail
        refine hcc.mono ?_
        rintro e w1 ⟨rfl, hb1⟩
        clear hcc
        go_wp2
        go_ret
        exact ⟨k, rfl, .inr ⟨k, hkl, rfl, by rw [← HK.out]; exact HI.out, HA.out⟩, below_next hbel hb1⟩
      · rw [his] at hcc
        have HI := Lib.hid his; clear his
        go_wp2_with fail
        refine hcc.mono ?_
        rintro e w1 ⟨rfl, hb1⟩
        clear hcc
        have hB1 := below_next hbel hb1
        go_wp2
        go_roundw
        case rel =>
          refine ⟨k + 1, by omega, by go_num, ?_, hB1⟩
          intro h hh
          rw [List.take_succ_eq_append_getElem hkl] at hh
          rcases List.mem_append.1 hh with hh | hh
          · exact HA.out h hh
          · rw [List.mem_singleton.1 hh, ← HK.out]; exact HI.out
        case measure => simp [intOf]; omega
    · have hall : ∀ f ∈ fs, among ns f = false := by
        have := HA.out
        rw [List.take_of_length_le (by rw [HL.out]; omega)] at this
        exact this
      have HALL := Lib.hid hall; clear hall
      go_wp2
      go_ret
      exact ⟨-1, rfl, .inl ⟨rfl, HALL.out⟩, hbel⟩

theorem fcells_set : ∀ (l : List FD) (i : Nat) (f : FD), ((fcells l).set (i * 2) (.string f.1)).set (i * 2 + 1) (.string f.2) = fcells (l.set i f)
  | [], i, f => by simp [fcells]
  | g :: l, 0, f => by simp [fcells]
  | g :: l, i + 1, f => by
    rw [show (i + 1) * 2 = i * 2 + 1 + 1 from by omega]
    simp only [fcells, List.set_cons_succ]
    rw [fcells_set l i f]
theorem fcells_take : ∀ (l : List FD) (i : Nat), (fcells l).take (i * 2) = fcells (l.take i)
  | [], i => by simp [fcells]
  | g :: l, 0 => by simp [fcells]
  | g :: l, i + 1 => by
    rw [show (i + 1) * 2 = i * 2 + 1 + 1 from by omega]
    simp only [fcells, List.take_succ_cons]
    rw [fcells_take l i]

/-- Of a row of the call's own its first elements are kept, the rest is cleared. -/
theorem clear_row {w : World} {base g n c i : Nat} {xs : List FD} (h : w.ownsRow base 67 2 (.slice (some ⟨g, 0, none⟩) n c) n (fcells xs)) (hi : i < n) (_hn : n ≤ 1099511627776) :
    ∃ W, (∀ ty, (Builtin.clear_ #[22] ty #[.slice (some ⟨g, i * 2, none⟩) (n - i) (c - i)]).run Tryd.prog w = .ok (.tuple #[]) W) ∧ Row W base 67 2 (some ⟨g, 0, none⟩) i c (fcells (xs.take i)) ∧ w.grownBy W (some g) := by
  rcases h.2 with ⟨h', _⟩ | ⟨g', cap, cur, hv, hb, hg, hnc, hcm, hcs, ht⟩
  · cases h'
  · cases hv
    have hz : ∀ w : World, (zeroValue 67).run Tryd.prog w = .ok (.agg #[.string ⟨#[]⟩, .string ⟨#[]⟩]) w := Tryd.zeroValue67
    have hzs : (Builtin.zeroCells #[.string ⟨#[]⟩, .string ⟨#[]⟩] (n - i)).size = (n - i) * 2 := by simp [Builtin.zeroCells]
    have hz1 : ∀ v ∈ (Builtin.zeroCells #[.string ⟨#[]⟩, .string ⟨#[]⟩] (n - i)).toList, v.oneCell' = true := by
      intro v hv
      simp only [Builtin.zeroCells, Array.toList_map, List.mem_map] at hv
      obtain ⟨j, _, rfl⟩ := hv
      have : j % 2 = 0 ∨ j % 2 = 1 := by omega
      show Value.oneCell' (#[Value.string ⟨#[]⟩, Value.string ⟨#[]⟩][j % 2]!) = true
      rcases this with e | e <;> rw [e] <;> rfl
    have hst := run_storeCells_at Tryd.prog g (i * 2) 67 (Builtin.zeroCells #[.string ⟨#[]⟩, .string ⟨#[]⟩] (n - i)).toList 0 cur w hg (by rw [Array.length_toList, hzs]; omega) hz1
    generalize hnew : (List.take (i * 2 + 0) cur.toList ++ (Builtin.zeroCells #[.string ⟨#[]⟩, .string ⟨#[]⟩] (n - i)).toList ++ List.drop (i * 2 + 0 + (Builtin.zeroCells #[.string ⟨#[]⟩, .string ⟨#[]⟩] (n - i)).toList.length) cur.toList).toArray = new at hst
    have hs1 : new.size = c * 2 := by
      rw [← hnew]
      simp only [List.size_toArray, List.length_append, List.length_take, List.length_drop, Array.length_toList, hzs]
      omega
    have hs2 : new.toList.take (i * 2) = fcells (xs.take i) := by
      rw [← hnew, Nat.add_zero, List.toList_toArray, List.append_assoc, List.take_append_of_le_length (by simp; omega), List.take_take, Nat.min_self, ← fcells_take, ← ht, List.take_take, Nat.min_eq_left (by omega)]
    have hs3 : (fcells (xs.take i)).length = i * 2 := by
      rw [fcells_length, List.length_take]
      have : xs.length = n := by have := h.1; rw [fcells_length] at this; omega
      omega
    refine ⟨w.setRow g new, fun ty => ?_, .inl ⟨hs3, .inr ⟨g, c, new, rfl, hb, setRow_heap w g cur _ _ _ hg, by omega, hcm, hs1, hs2⟩⟩, ⟨rfl, rfl, rfl, by simp, fun k hk hne => setRow_other w g k _ (fun e => hne (by rw [e]))⟩⟩
    have hni : n - i ≠ 0 := by omega
    obtain ⟨q, hq⟩ : ∃ q, n - i = q + 1 := ⟨n - i - 1, by omega⟩
    rw [hq] at hst ⊢
    simp [Builtin.clear_, run_underlying Tryd.underlying22, hz, Value.cells, hst]

end Go.Proofs.YtcoohkgamogmgaaDoor
