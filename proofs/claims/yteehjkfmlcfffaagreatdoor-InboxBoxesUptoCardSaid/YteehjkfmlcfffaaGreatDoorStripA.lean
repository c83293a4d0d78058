/- The walks of fields.Without, with the library's Clone, DeleteFunc, IndexFunc, ContainsFunc at its closures. The walk of the library's DeleteFunc at fields.Without's closure; fields.Without. The walk of the document's Without. The walks of hop.Strip and of its document's twin. -/
import Derived.Test.YteehjkfmlcfffaaGreatDoorFldA
import Derived.Deep.RegionHeld3
import Derived.Test.YteehjkfmlcfffaaGreatDoorPlainA
namespace Go.Proofs.YteehjkfmlcfffaaGreatDoor
open Go.RowKit

def NSmall (ns : List ByteArray) : Prop := ∀ s ∈ ns, s.size ≤ 1099511627776
/-- Is the field's name among the names? -/
def among (ns : List ByteArray) (f : FD) : Bool := ns.any fun n => F.is f n

set_option maxHeartbeats 400000 in
theorem inner_any (f : FD) (name : ByteArray) (g : Nat) (w : World) (h1 : f.1.size ≤ 1099511627776) (h2 : name.size ≤ 1099511627776)
    (c0 : w.cell? ⟨g, 0, none⟩ = some (.string f.1)) (c1 : w.cell? ⟨g, 1, none⟩ = some (.string f.2)) :
    Calls Tryz.prog 164 #[.string name, .pointer (some ⟨g, 0, none⟩)] w (RetB w (F.is f name)) := by
  go_enter Tryz.func164, Tryz.ntmps164
  go_wp2_with fail
  refine (is_any f name _ h1 h2).mono ?_
  rintro e w1 ⟨rfl, hb1⟩
  go_wp2
  go_ret
  exact ⟨rfl, hb1⟩

def RetIdx (w : World) (b : Bool) (e : Ending) (w' : World) : Prop := ∃ r : Int, e = .returned (.int .i64 r) ∧ decide (0 ≤ r) = b ∧ Below w.heap.size w w'

theorem any_take_snoc {α : Type} (p : α → Bool) (l : List α) (k : Nat) (h : k < l.length) : (l.take (k + 1)).any p = ((l.take k).any p || p l[k]) := by
  rw [List.take_succ_eq_append_getElem h, List.any_append]; simp

set_option maxHeartbeats 400000 in
theorem indexS_any (X : Option Addr) (m d : Nat) (ns : List ByteArray) (f : FD) (g : Nat) (w : World) (hm : m ≤ 1099511627776) (hl : ns.length = m) (hn : NSmall ns) (h1 : f.1.size ≤ 1099511627776)
    (hx : Rd w X m 1 (scells ns)) (c0 : w.cell? ⟨g, 0, none⟩ = some (.string f.1)) (c1 : w.cell? ⟨g, 1, none⟩ = some (.string f.2)) :
    Calls Tryz.prog 236 #[.slice X m d, .func (.func 164) #[] #[.pointer (some ⟨g, 0, none⟩)]] w (RetIdx w (among ns f)) := by
  have HL := Lib.hid hl; clear hl
  have hg : g < w.heap.size := cell_lt c0
  go_enter Tryz.func236, Tryz.ntmps236
  go_wp2
  go_loopw [5, 8] (fun _ i wr => ∃ k : Nat, k ≤ m ∧ i = .int .i64 k ∧ (ns.take k).any (fun n => F.is f n) = false ∧ Below w.heap.size w wr) (fun _ i _ => m - (intOf i).toNat)
  case atStart => exact ⟨0, Nat.zero_le _, rfl, rfl, Below.refl _ _⟩
  case round =>
    obtain ⟨k, hk, rfl, ha, hbel⟩ := hrel
    have HA := Lib.hid ha; clear ha
    by_cases hlt : k < m
    · have hkl : k < ns.length := by rw [HL.out]; exact hlt
      obtain ⟨b, o, rfl, hb, cx⟩ := (hx.below hbel).str hlt HL.out
      have hsx := hn _ (List.getElem_mem hkl)
      have hmem := List.getElem_mem hkl
      have hsn := any_take_snoc (fun n => F.is f n) ns k hkl
      obtain ⟨x, hxk⟩ : ∃ x, x = ns[k]'hkl := ⟨_, rfl⟩
      rw [← hxk] at cx hsx hsn hmem
      clear hxk
      rw [HA.out, Bool.false_or] at hsn
      have HSN := Lib.hid hsn; clear hsn
      have d0 : wr.cell? ⟨g, 0, none⟩ = some (.string f.1) := (hbel.cell (p := ⟨g, 0, none⟩) hg).trans c0
      have d1 : wr.cell? ⟨g, 1, none⟩ = some (.string f.2) := (hbel.cell (p := ⟨g, 1, none⟩) hg).trans c1
      have hcc := inner_any f x g wr h1 hsx d0 d1
      rcases tf (F.is f x) with his | his
      · have hall : among ns f = true := List.any_eq_true.2 ⟨x, hmem, his⟩
        have HALL := Lib.hid hall; clear hall
        rw [his] at hcc
        go_wp2_with fail
        refine hcc.mono ?_
        rintro e w1 ⟨rfl, hb1⟩
        clear hcc
        go_wp2
        go_ret
        exact ⟨k, rfl, by rw [HALL.out]; simp, below_next hbel hb1⟩
      · have HSN2 : Hid ((ns.take (k + 1)).any (fun n => F.is f n) = false) := by have := HSN.out; rw [this]; exact his
        rw [his] at hcc
        go_wp2_with fail
        refine hcc.mono ?_
        rintro e w1 ⟨rfl, hb1⟩
        clear hcc
        have hB1 := below_next hbel hb1
        go_wp2
        go_roundw
        case rel => exact ⟨k + 1, by omega, by go_num, HSN2.out, hB1⟩
        case measure => simp [intOf]; omega
    · have hall : among ns f = false := by
        have := HA.out
        rw [List.take_of_length_le (by rw [HL.out]; omega)] at this
        exact this
      have HALL := Lib.hid hall; clear hall
      go_wp2
      go_ret
      exact ⟨-1, rfl, by rw [HALL.out]; rfl, hbel⟩

set_option maxHeartbeats 400000 in
theorem containsS_any (X : Option Addr) (m d : Nat) (ns : List ByteArray) (f : FD) (g : Nat) (w : World) (hm : m ≤ 1099511627776) (hl : ns.length = m) (hn : NSmall ns) (h1 : f.1.size ≤ 1099511627776)
    (hx : Rd w X m 1 (scells ns)) (c0 : w.cell? ⟨g, 0, none⟩ = some (.string f.1)) (c1 : w.cell? ⟨g, 1, none⟩ = some (.string f.2)) :
    Calls Tryz.prog 163 #[.slice X m d, .func (.func 164) #[] #[.pointer (some ⟨g, 0, none⟩)]] w (RetB w (among ns f)) := by
  have H := Lib.hid (indexS_any X m d ns f g w hm hl hn h1 hx c0 c1)
  clear hl hn
  go_enter Tryz.func163, Tryz.ntmps163
  go_wp2_with fail
  refine H.out.mono ?_
  rintro e w1 ⟨r, rfl, hr, hb1⟩
  have HR := Lib.hid hr; clear hr
  go_wp2
  go_ret
  exact ⟨ret_bool HR.out, hb1⟩

set_option maxHeartbeats 400000 in
theorem outer_any (X : Option Addr) (m d : Nat) (ns : List ByteArray) (f : FD) (g : Nat) (w : World) (hm : m ≤ 1099511627776) (hl : ns.length = m) (hn : NSmall ns) (h1 : f.1.size ≤ 1099511627776)
    (hx : Rd w X m 1 (scells ns)) (c0 : w.cell? ⟨g, 0, none⟩ = some (.slice X m d)) :
    Calls Tryz.prog 162 #[.agg #[.string f.1, .string f.2], .pointer (some ⟨g, 0, none⟩)] w (RetB w (among ns f)) := by
  have hg : g < w.heap.size := cell_lt c0
  have H := Lib.hid (containsS_any X m d ns f w.heap.size (w.alloc (.cells #[.string f.1, .string f.2] 148)) hm hl hn h1 (hx.alloc _) (by simp) (by simp))
  clear hl hn
  go_enter Tryz.func162, Tryz.ntmps162
  go_wp2_with fail
  refine H.out.mono ?_
  rintro e w1 ⟨rfl, hb1⟩
  go_wp2
  go_ret
  exact ⟨rfl, below_new (Below.refl _ _) (Nat.le_refl _) hb1⟩

/-- What the closure needs of memory, told of an earlier world. -/
structure Names (w0 : World) (X : Option Addr) (m d : Nat) (ns : List ByteArray) (g : Nat) : Prop where
  hm : m ≤ 1099511627776
  hl : ns.length = m
  hn : NSmall ns
  hx : Rd w0 X m 1 (scells ns)
  c0 : w0.cell? ⟨g, 0, none⟩ = some (.slice X m d)
theorem Names.call {w0 w : World} {X : Option Addr} {m d : Nat} {ns : List ByteArray} {g : Nat} (h : Names w0 X m d ns g) (hb : Below w0.heap.size w0 w) (f : FD) (h1 : f.1.size ≤ 1099511627776) :
    Calls Tryz.prog 162 #[.agg #[.string f.1, .string f.2], .pointer (some ⟨g, 0, none⟩)] w (RetB w (among ns f)) :=
  outer_any X m d ns f g w h.hm h.hl h.hn h1 (h.hx.below hb) ((hb.cell (p := ⟨g, 0, none⟩) (cell_lt h.c0)).trans h.c0)

/-- The place of the first field among the names, or -1. -/
def FirstAt (p : FD → Bool) (fs : List FD) (r : Int) : Prop := (r = -1 ∧ ∀ f ∈ fs, p f = false) ∨ ∃ (k : Nat) (h : k < fs.length), r = k ∧ p fs[k] = true ∧ ∀ f ∈ fs.take k, p f = false
def RetAt (w : World) (p : FD → Bool) (fs : List FD) (e : Ending) (w' : World) : Prop := ∃ r : Int, e = .returned (.int .i64 r) ∧ FirstAt p fs r ∧ Below w.heap.size w w'

set_option maxHeartbeats 400000 in
theorem indexF_any (A : Option Addr) (n c : Nat) (fs : List FD) (w0 : World) (X : Option Addr) (m d : Nat) (ns : List ByteArray) (g : Nat) (w : World) (hn : n ≤ 1099511627776) (hl : fs.length = n) (hf : FSmall fs)
    (H0 : Names w0 X m d ns g) (hb0 : Below w0.heap.size w0 w) (hx : Rd w A n 2 (fcells fs)) :
    Calls Tryz.prog 235 #[.slice A n c, .func (.func 162) #[] #[.pointer (some ⟨g, 0, none⟩)]] w (RetAt w (among ns) fs) := by
  have HL := Lib.hid hl; clear hl
  go_enter Tryz.func235, Tryz.ntmps235
  go_wp2
  go_loopw [5, 8] (fun _ i wr => ∃ k : Nat, k ≤ n ∧ i = .int .i64 k ∧ (∀ f ∈ fs.take k, among ns f = false) ∧ Below w.heap.size w wr) (fun _ i _ => n - (intOf i).toNat)
  case atStart => exact ⟨0, Nat.zero_le _, rfl, by simp, Below.refl _ _⟩
  case round =>
    obtain ⟨k, hk, rfl, ha, hbel⟩ := hrel
    have HA := Lib.hid ha; clear ha
    by_cases hlt : k < n
    · have hkl : k < fs.length := by rw [HL.out]; exact hlt
      obtain ⟨b, o, rfl, hb, c1, c2⟩ := (hx.below hbel).field hlt HL.out
      have hfs := hf _ (List.getElem_mem hkl)
      obtain ⟨f, hfk⟩ : ∃ f, f = fs[k]'hkl := ⟨_, rfl⟩
      rw [← hfk] at c1 c2 hfs
      have HK := Lib.hid hfk; clear hfk
      have hcc := H0.call (below_then hb0.size hb0 hbel) f hfs.1
      rcases tf (among ns f) with his | his
      · rw [his] at hcc
        have HI := Lib.hid his; clear his
        go_wp2_with fail
        refine hcc.mono ?_
        rintro e w1 ⟨rfl, hb1⟩
        clear hcc
        go_wp2
        go_ret
        exact ⟨k, rfl, .inr ⟨k, hkl, rfl, by rw [← HK.out]; exact HI.out, HA.out⟩, below_next hbel hb1⟩
      · rw [his] at hcc
        have HI := Lib.hid his; clear his
        go_wp2_with fail
        refine hcc.mono ?_
        rintro e w1 ⟨rfl, hb1⟩
        clear hcc
        have hB1 := below_next hbel hb1
        go_wp2
        go_roundw
        case rel =>
          refine ⟨k + 1, by omega, by go_num, ?_, hB1⟩
          intro h hh
          rw [List.take_succ_eq_append_getElem hkl] at hh
          rcases List.mem_append.1 hh with hh | hh
          · exact HA.out h hh
          · rw [List.mem_singleton.1 hh, ← HK.out]; exact HI.out
        case measure => simp [intOf]; omega
    · have hall : ∀ f ∈ fs, among ns f = false := by
        have := HA.out
        rw [List.take_of_length_le (by rw [HL.out]; omega)] at this
        exact this
      have HALL := Lib.hid hall; clear hall
      go_wp2
      go_ret
      exact ⟨-1, rfl, .inl ⟨rfl, HALL.out⟩, hbel⟩

theorem fcells_set : ∀ (l : List FD) (i : Nat) (f : FD), ((fcells l).set (i * 2) (.string f.1)).set (i * 2 + 1) (.string f.2) = fcells (l.set i f)
  | [], i, f => by simp [fcells]
  | g :: l, 0, f => by simp [fcells]
  | g :: l, i + 1, f => by
    rw [show (i + 1) * 2 = i * 2 + 1 + 1 from by omega]
    simp only [fcells, List.set_cons_succ]
    rw [fcells_set l i f]
theorem fcells_take : ∀ (l : List FD) (i : Nat), (fcells l).take (i * 2) = fcells (l.take i)
  | [], i => by simp [fcells]
  | g :: l, 0 => by simp [fcells]
  | g :: l, i + 1 => by
    rw [show (i + 1) * 2 = i * 2 + 1 + 1 from by omega]
    simp only [fcells, List.take_succ_cons]
    rw [fcells_take l i]

/-- Of a row of the call's own its first elements are kept, the rest is cleared. -/
theorem clear_row {w : World} {base g n c i : Nat} {xs : List FD} (h : w.ownsRow base 148 2 (.slice (some ⟨g, 0, none⟩) n c) n (fcells xs)) (hi : i < n) (_hn : n ≤ 1099511627776) :
    ∃ W, (∀ ty, (Builtin.clear_ #[23] ty #[.slice (some ⟨g, i * 2, none⟩) (n - i) (c - i)]).run Tryz.prog w = .ok (.tuple #[]) W) ∧ Row W base 148 2 (some ⟨g, 0, none⟩) i c (fcells (xs.take i)) ∧ w.grownBy W (some g) := by
  rcases h.2 with ⟨h', _⟩ | ⟨g', cap, cur, hv, hb, hg, hnc, hcm, hcs, ht⟩
  · cases h'
  · cases hv
    have hz : ∀ w : World, (zeroValue 148).run Tryz.prog w = .ok (.agg #[.string ⟨#[]⟩, .string ⟨#[]⟩]) w := Tryz.zeroValue148
    have hzs : (Builtin.zeroCells #[.string ⟨#[]⟩, .string ⟨#[]⟩] (n - i)).size = (n - i) * 2 := by simp [Builtin.zeroCells]
    have hz1 : ∀ v ∈ (Builtin.zeroCells #[.string ⟨#[]⟩, .string ⟨#[]⟩] (n - i)).toList, v.oneCell' = true := by
      intro v hv
      simp only [Builtin.zeroCells, Array.toList_map, List.mem_map] at hv
      obtain ⟨j, _, rfl⟩ := hv
      have : j % 2 = 0 ∨ j % 2 = 1 := by omega
      show Value.oneCell' (#[Value.string ⟨#[]⟩, Value.string ⟨#[]⟩][j % 2]!) = true
      rcases this with e | e <;> rw [e] <;> rfl
    have hst := run_storeCells_at Tryz.prog g (i * 2) 148 (Builtin.zeroCells #[.string ⟨#[]⟩, .string ⟨#[]⟩] (n - i)).toList 0 cur w hg (by rw [Array.length_toList, hzs]; omega) hz1
    generalize hnew : (List.take (i * 2 + 0) cur.toList ++ (Builtin.zeroCells #[.string ⟨#[]⟩, .string ⟨#[]⟩] (n - i)).toList ++ List.drop (i * 2 + 0 + (Builtin.zeroCells #[.string ⟨#[]⟩, .string ⟨#[]⟩] (n - i)).toList.length) cur.toList).toArray = new at hst
    have hs1 : new.size = c * 2 := by
      rw [← hnew]
      simp only [List.size_toArray, List.length_append, List.length_take, List.length_drop, Array.length_toList, hzs]
      omega
    have hs2 : new.toList.take (i * 2) = fcells (xs.take i) := by
      rw [← hnew, Nat.add_zero, List.toList_toArray, List.append_assoc, List.take_append_of_le_length (by simp; omega), List.take_take, Nat.min_self, ← fcells_take, ← ht, List.take_take, Nat.min_eq_left (by omega)]
    have hs3 : (fcells (xs.take i)).length = i * 2 := by
      rw [fcells_length, List.length_take]
      have : xs.length = n := by have := h.1; rw [fcells_length] at this; omega
      omega
    refine ⟨w.setRow g new, fun ty => ?_, .inl ⟨hs3, .inr ⟨g, c, new, rfl, hb, setRow_heap w g cur _ _ _ hg, by omega, hcm, hs1, hs2⟩⟩, ⟨rfl, rfl, rfl, by simp, fun k hk hne => setRow_other w g k _ (fun e => hne (by rw [e]))⟩⟩
    have hni : n - i ≠ 0 := by omega
    obtain ⟨q, hq⟩ : ∃ q, n - i = q + 1 := ⟨n - i - 1, by omega⟩
    rw [hq] at hst ⊢
    simp [Builtin.clear_, run_underlying Tryz.underlying23, hz, Value.cells, hst]

end Go.Proofs.YteehjkfmlcfffaaGreatDoor

namespace Go.Proofs.YteehjkfmlcfffaaGreatDoor
open Go.RowKit

def kept (p : FD → Bool) (fs : List FD) : List FD := fs.filter fun f => !p f
theorem kept_snoc (p : FD → Bool) (fs : List FD) (k : Nat) (h : k < fs.length) : kept p (fs.take (k + 1)) = kept p (fs.take k) ++ (if p fs[k] then [] else [fs[k]]) := by
  unfold kept
  rw [F.filter_snoc _ _ _ h]
  congr 1
  by_cases hp : p fs[k] = true <;> simp [hp]
theorem kept_all {p : FD → Bool} {fs : List FD} (h : ∀ f ∈ fs, p f = false) : kept p fs = fs := by
  unfold kept
  exact List.filter_eq_self.2 (fun f hf => by simp [h f hf])
/-- What the loop of DeleteFunc keeps: the elements kept so far, in front; those not yet looked at, in their places. -/
def Moved (p : FD → Bool) (fs xs : List FD) (i j : Nat) : Prop := xs.length = fs.length ∧ i < j ∧ j ≤ fs.length ∧ xs.take i = kept p (fs.take j) ∧ xs.drop j = fs.drop j
theorem Moved.at_ {p : FD → Bool} {fs xs : List FD} {i j : Nat} (h : Moved p fs xs i j) (hj : j < fs.length) : ∃ hx : j < xs.length, xs[j] = fs[j] := by
  have hx : j < xs.length := by rw [h.1]; exact hj
  refine ⟨hx, ?_⟩
  have := h.2.2.2.2
  rw [List.drop_eq_getElem_cons hx, List.drop_eq_getElem_cons hj] at this
  injection this
theorem Moved.skip {p : FD → Bool} {fs xs : List FD} {i j : Nat} (h : Moved p fs xs i j) (hj : j < fs.length) (hp : p fs[j] = true) : Moved p fs xs i (j + 1) := by
  obtain ⟨h1, h2, h3, h4, h5⟩ := h
  refine ⟨h1, by omega, by omega, ?_, ?_⟩
  · rw [kept_snoc p fs j hj, if_pos hp, List.append_nil]; exact h4
  · rw [← List.drop_drop, ← List.drop_drop, h5]
theorem Moved.move {p : FD → Bool} {fs xs : List FD} {i j : Nat} (h : Moved p fs xs i j) (hj : j < fs.length) (hp : p fs[j] = false) : Moved p fs (xs.set i fs[j]) (i + 1) (j + 1) := by
  obtain ⟨h1, h2, h3, h4, h5⟩ := h
  have hi : i < xs.length := by omega
  refine ⟨by simpa using h1, by omega, by omega, ?_, ?_⟩
  · rw [kept_snoc p fs j hj, if_neg (by simp [hp]), ← h4, List.take_succ_eq_append_getElem (by simpa using hi)]
    simp [List.take_set_of_le]
  · rw [List.drop_set_of_lt (by omega), ← List.drop_drop, ← List.drop_drop, h5]

theorem own_new {w w1 : World} {base : Nat} {e : TypeId} {size : Nat} {v : Value} {n : Nat} {xs : List Value} {o : Obj} (h : w.ownsRow base e size v n xs) (hb : Below (w.alloc o).heap.size (w.alloc o) w1) : w1.ownsRow base e size v n xs := by
  refine (h.alloc o).kept (row := none) ⟨hb.os, hb.tape, hb.output, hb.size, fun k hk _ => hb.block k hk⟩ ?_
  cases v.ownBlock <;> simp

set_option maxHeartbeats 1000000 in
theorem delete_any (A : Option Addr) (n c : Nat) (fs : List FD) (w0 : World) (X : Option Addr) (m d : Nat) (ns : List ByteArray) (g : Nat) (w : World) (hn : n ≤ 1099511627776) (hl : fs.length = n) (hf : FSmall fs)
    (H0 : Names w0 X m d ns g) (hb0 : Below w0.heap.size w0 w) (hr : Row w w0.heap.size 148 2 A n c (fcells fs)) :
    Calls Tryz.prog 161 #[.slice A n c, .func (.func 162) #[] #[.pointer (some ⟨g, 0, none⟩)]] w
      (fun e w' => ∃ A' k, e = .returned (.slice A' k c) ∧ k = (kept (among ns) fs).length ∧ Row w' w0.heap.size 148 2 A' k c (fcells (kept (among ns) fs)) ∧ Below w0.heap.size w w') := by
  have hcap := hr.cap
  have HI := Lib.hid (indexF_any A n c fs w0 X m d ns g w hn hl hf H0 hb0 hr.rd)
  have HL := Lib.hid hl; clear hl
  go_enter Tryz.func161, Tryz.ntmps161
  go_wp2_with fail
  refine HI.out.mono ?_
  rintro e w1 ⟨r, rfl, hat, hb1⟩
  have hr1 := hr.below hb1
  have hB1 := below_then hb0.size hb0 hb1
  have hb1' : Below w0.heap.size w w1 := hb1.mono hb0.size
  clear HI hr hb1
  rcases hat with ⟨rfl, hall⟩ | ⟨i0, hi0, rfl, hp0, hbef⟩
  · have hk := kept_all hall
    have HK := Lib.hid hk
    clear hk hall
    go_wp2
    go_ret
    exact ⟨A, n, rfl, by rw [HK.out, HL.out], by rw [HK.out]; exact hr1, hb1'⟩
  · have hin : i0 < n := by rw [← HL.out]; exact hi0
    rcases hr1 with hr1 | ⟨h0, _, _⟩
    case inr => omega
    have hM0 : Moved (among ns) fs fs i0 (i0 + 1) := by
      refine ⟨rfl, by omega, by omega, ?_, rfl⟩
      have hk0 := kept_snoc (among ns) fs i0 hi0
      rw [if_pos hp0, List.append_nil] at hk0
      rw [hk0]
      exact (kept_all hbef).symm
    have HM0 := Lib.hid hM0
    obtain ⟨ga, cap, hga, hbase, hlt⟩ := hr1.form (by omega)
    cases hga
    have hne : ((i0 : Int) == -1) = false := by rw [beq_eq_false_iff_ne]; omega
    clear hp0 hbef hM0
    go_wp2
    go_loopw [5, 6, 7] (fun i j _ wr => ∃ (a b : Nat) (xs : List FD), i = .int .i64 a ∧ j = .int .i64 b ∧ b ≤ n ∧ a < b ∧ Moved (among ns) fs xs a b ∧ wr.ownsRow w0.heap.size 148 2 (.slice (some ⟨ga, 0, none⟩) n c) n (fcells xs) ∧ Below w0.heap.size w1 wr) (fun _ j _ _ => n - (intOf j).toNat)
    case atStart => exact ⟨i0, i0 + 1, fs, rfl, by go_num, by omega, by omega, HM0.out, hr1, Below.refl _ _⟩
    case round =>
      clear hr1
      obtain ⟨a, b, xs, rfl, rfl, hbn, hab, hmv, hrow, hbel⟩ := hrel
      have HMV := Lib.hid hmv
      clear hmv
      have hsz : w0.heap.size ≤ wr.heap.size := by have := (hB1.trans hbel).size; exact this
      by_cases hltb : b < n
      · have hbl : b < fs.length := by rw [HL.out]; exact hltb
        obtain ⟨hxl, hxe⟩ := HMV.out.at_ hbl
        have hal : a < xs.length := by omega
        obtain ⟨e1, e2⟩ := fcells_at xs b hxl
        obtain ⟨e3, e4⟩ := fcells_at xs a hal
        have hxlen : xs.length = n := by rw [HMV.out.1, HL.out]
        have cb1 := hrow.cellAt (b * 2) (by omega)
        have cb2 := hrow.cellAt (b * 2 + 1) (by omega)
        have ca1 := hrow.cellAt (a * 2) (by omega)
        have ca2 := hrow.cellAt (a * 2 + 1) (by omega)
        rw [e1, hxe] at cb1
        rw [e2, hxe] at cb2
        rw [e3] at ca1
        rw [e4] at ca2
        have fa1 := hrow.frozenAt (a * 2)
        have fa2 := hrow.frozenAt (a * 2 + 1)
        have hfs := hf _ (List.getElem_mem hbl)
        have hskip := fun h => HMV.out.skip hbl h
        have hmove := fun h => HMV.out.move hbl h
        obtain ⟨f, hfk⟩ : ∃ f, f = fs[b]'hbl := ⟨_, rfl⟩
        rw [← hfk] at cb1 cb2 hfs hskip hmove
        have hcc := fun o => H0.call ((hB1.trans hbel).alloc (by have := (hB1.trans hbel).size; omega) o) f hfs.1
        rcases tf (among ns f) with his | his
        · have HS := Lib.hid (hskip his)
          rw [his] at hcc
          clear hskip hmove his e1 e2 e3 e4 hxe hfk hxlen hal ca1 ca2 fa1 fa2
          go_wp2_with fail
          refine (hcc _).mono ?_
          rintro e w2 ⟨rfl, hb2⟩
          have hr2 := own_new hrow hb2
          have hB2 := below_new hbel hsz hb2
          clear hcc hrow hbel hb2 cb1 cb2
          go_wp2
          go_roundw
          case rel => exact ⟨a, b + 1, xs, rfl, by go_num, by omega, by omega, HS.out, hr2, hB2⟩
          case measure => simp [intOf]; omega
        · have hmv2 := hmove his
          have HS := Lib.hid (hmove his)
          rw [his] at hcc
          have hset := fcells_set xs a f
          have HK := Lib.hid hfk
          have HSET := Lib.hid hset
          clear hskip hmove his e1 e2 e3 e4 hxe hxlen hset hmv2 hfk
          go_wp2_with fail
          refine (hcc _).mono ?_
          rintro e w2 ⟨rfl, hb2⟩
          have hr2 := own_new hrow hb2
          have hB2 := below_new hbel hsz hb2
          have hc0 := newCell hb2 0 rfl
          have hc1 := newCell hb2 1 rfl
          have ca1 := hr2.cellAt (a * 2) (by omega)
          have ca2 := hr2.cellAt (a * 2 + 1) (by omega)
          have fa1 := hr2.frozenAt (a * 2)
          have fa2 := hr2.frozenAt (a * 2 + 1)
          obtain ⟨e3, e4⟩ := fcells_at xs a hal
          rw [e3] at ca1
          rw [e4] at ca2
          have hst1 := hr2.stored (a * 2) (.string f.1)
          have hst2 := hst1.1.stored (a * 2 + 1) (.string f.2)
          have HST1 := Lib.hid hst1.2
          have HST2 := Lib.hid hst2.2
          have hrw := hst2.1
          rw [HSET.out] at hrw
          have HRW := Lib.hid hrw
          clear hcc hrow hbel hb2 cb1 cb2 hr2 hst1 hst2 e3 e4 hrw
          go_wp2
          go_roundw
          case rel =>
            refine ⟨a + 1, b + 1, _, by go_num, by go_num, by omega, by omega, HS.out, HRW.out, ?_⟩
            exact (hB2.setCell (p := ⟨ga, a * 2, none⟩) hbase _).setCell (p := ⟨ga, a * 2 + 1, none⟩) hbase _
          case measure => simp [intOf]; omega
      · have hbn' : b = fs.length := by rw [HL.out]; omega
        have hxt : xs.take a = kept (among ns) fs := by
          have := HMV.out.2.2.2.1
          rw [hbn', List.take_length] at this
          exact this
        have hal : a = (kept (among ns) fs).length := by
          rw [← hxt, List.length_take, HMV.out.1]; omega
        have han : a < n := by omega
        obtain ⟨W, hcl, hrW, hgW⟩ := clear_row hrow han hn
        rw [hxt] at hrW
        have HAL := Lib.hid hal
        have hca : ¬ c = a := by omega
        have hca2 : ¬ (c : Int) = (a : Int) := by omega
        have hac : (a : Int) ≤ (n : Int) := by omega
        have han2 : a ≤ n := by omega
        have hac2 : a ≤ c := by omega
        clear hbn' hxt hal hrow
        go_wp2
        go_ret
        refine ⟨_, a, rfl, HAL.out, hrW, ?_⟩
        exact hb1'.trans (hbel.grown hgW hsz (fun k hk => by cases hk; exact hbase))

set_option maxHeartbeats 400000 in
theorem clone_any (A : Option Addr) (n c : Nat) (fs : List FD) (w : World) (hn : n ≤ 1099511627776) (hx : Rd w A n 2 (fcells fs)) (hnil : A = none → n = 0 ∧ c = 0) :
    Calls Tryz.prog 91 #[.slice A n c] w (fun e w' => ∃ A' c', e = .returned (.slice A' n c') ∧ Row w' w.heap.size 148 2 A' n c' (fcells fs) ∧ Below w.heap.size w w') := by
  cases A with
  | none =>
    obtain ⟨rfl, rfl⟩ := hnil rfl
    have hfs : fcells fs = [] := List.eq_nil_of_length_eq_zero (by simpa using hx.1)
    have HF := Lib.hid hfs
    clear hfs
    have he := fun w => Lib.run_eql_slice_nil (P := Tryz.prog) w 23 _ none 0 0 (h := Tryz.underlying23)
    go_enter Tryz.func91, Tryz.ntmps91
    go_wp2
    go_ret
    exact ⟨none, 0, rfl, by rw [HF.out]; exact Row.none_ _ _ _ _, Below.refl _ _⟩
  | some ad =>
    have he := fun w => Lib.run_eql_slice_nil (P := Tryz.prog) w 23 _ (some ad) n c (h := Tryz.underlying23)
    clear hnil
    go_enter Tryz.func91, Tryz.ntmps91
    go_wp2_with (at_builtin; refine appF _ rfl (.tmp 5) (.tmp 6) rfl w.heap.size _ 0 0 [] rfl (Row.empty _ _ _ _ _) (some ad) n c fs rfl (hx.alloc _) (by omega) (by simp) ?_; intro A1 c1 w1 hr1 ha1; simp only [Nat.zero_add, List.nil_append] at hr1)
    go_ret
    exact ⟨A1, c1, by simp, hr1, ((Below.refl _ _).alloc (Nat.le_refl _) _).trans (ha1.below (Row.empty _ _ 148 2 _) (by simp))⟩

theorem Row.nil {w : World} {base : Nat} {e : TypeId} {size : Nat} {A : Option Addr} {n c : Nat} {xs : List Value} (h : Row w base e size A n c xs) (hA : A = none) : n = 0 ∧ c = 0 := by
  subst hA
  rcases h with ⟨_, h | ⟨g, cap, cur, hv, _⟩⟩ | ⟨h1, h2, _⟩
  · obtain ⟨hv, h0⟩ := h
    cases hv
    exact ⟨rfl, rfl⟩
  · cases hv
  · exact ⟨h1, h2⟩

set_option maxHeartbeats 400000 in
theorem without_any (A : Option Addr) (n c : Nat) (fs : List FD) (X : Option Addr) (m d : Nat) (ns : List ByteArray) (w : World) (hn : n ≤ 1099511627776) (hl : fs.length = n) (hf : FSmall fs) (hx : Rd w A n 2 (fcells fs)) (hnil : A = none → n = 0 ∧ c = 0)
    (hm : m ≤ 1099511627776) (hml : ns.length = m) (hns : NSmall ns) (hX : Rd w X m 1 (scells ns)) :
    Calls Tryz.prog 81 #[.slice A n c, .slice X m d] w (RetRow w 148 2 (F.without fs ns).length (fcells (F.without fs ns))) := by
  have H0 : Names (w.alloc (.cells #[.slice X m d] 62)) X m d ns w.heap.size := ⟨hm, hml, hns, hX.alloc _, by simp⟩
  have HC := Lib.hid (clone_any A n c fs (w.alloc (.cells #[.slice X m d] 62)) hn (hx.alloc _) hnil)
  have HD := Lib.hid (fun (A' : Option Addr) (c' : Nat) (w1 : World) (h1 : Below (w.alloc (.cells #[.slice X m d] 62)).heap.size (w.alloc (.cells #[.slice X m d] 62)) w1) (h2 : Row w1 (w.alloc (.cells #[.slice X m d] 62)).heap.size 148 2 A' n c' (fcells fs)) =>
    delete_any A' n c' fs (w.alloc (.cells #[.slice X m d] 62)) X m d ns w.heap.size w1 hn hl hf H0 h1 h2)
  clear hl hml hns hnil H0 hf
  go_enter Tryz.func81, Tryz.ntmps81
  go_wp2_with fail
  refine HC.out.mono ?_
  rintro e w1 ⟨A1, c1, rfl, hr1, hb1⟩
  go_wp2_with fail
  refine (HD.out A1 c1 w1 hb1 hr1).mono ?_
  rintro e w2 ⟨A2, k, rfl, hk, hr2, hb2⟩
  have HK := Lib.hid hk
  clear hk
  go_wp2
  go_ret
  have hb12 := hb1.trans hb2
  refine ⟨A2, c1, ?_, ?_, below_new (Below.refl _ _) (Nat.le_refl _) hb12⟩
  · show Ending.returned _ = Ending.returned (.slice A2 (kept (among ns) fs).length c1)
    rw [← HK.out]; rfl
  · show Row w2 _ _ _ A2 (kept (among ns) fs).length c1 (fcells (kept (among ns) fs))
    rw [← HK.out]; exact hr2.mono (by simp)
end Go.Proofs.YteehjkfmlcfffaaGreatDoor


namespace Go.Proofs.YteehjkfmlcfffaaGreatDoor
open Go.RowKit

theorem small_of_bulk {fs : List FD} (h : F.bulk fs ≤ 1073741824) : FSmall fs := fun f hf => by
  have := F.mem_bulk hf
  omega
theorem toks_sum : ∀ fs : List FD, ∀ name : ByteArray, (F.tokens fs name).length ≤ F.bulk fs := by
  intro fs name
  induction fs with
  | nil => simp [F.tokens, F.values, F.bulk]
  | cons f l ih =>
    have hl := list_len f.2
    unfold F.tokens F.values at ih ⊢
    rw [List.filter_cons]
    simp only [F.bulk]
    split
    · rw [List.map_cons, List.flatMap_cons, List.length_append, List.length_map]; omega
    · omega
theorem mem_toks {fs : List FD} {name x : ByteArray} (hx : x ∈ F.tokens fs name) : x.size ≤ F.bulk fs := by
  unfold F.tokens at hx
  obtain ⟨v, hv, hx⟩ := List.mem_flatMap.1 hx
  obtain ⟨el, hel, rfl⟩ := List.mem_map.1 hx
  have h1 := mem_list hel
  unfold F.values at hv
  obtain ⟨f, hf, rfl⟩ := List.mem_map.1 hv
  have h2 := F.mem_bulk (List.mem_filter.1 hf).1
  rw [B_size]
  unfold T.fold
  rw [List.length_map, ← L_size]
  omega
theorem nine_small : NSmall F.nine := by unfold NSmall F.nine; decide
theorem nsmall_append {a b : List ByteArray} (ha : NSmall a) (hb : NSmall b) : NSmall (a ++ b) := fun s hs => by
  rcases List.mem_append.1 hs with h | h
  · exact ha s h
  · exact hb s h

set_option maxHeartbeats 400000 in
theorem strip_any (A : Option Addr) (n c : Nat) (fs : List FD) (w : World) (hl : fs.length = n) (hf : F.bulk fs ≤ 1073741824) (hx : Rd w A n 2 (fcells fs)) (hnil : A = none → n = 0 ∧ c = 0) :
    Calls Tryz.prog 79 #[.slice A n c] w (RetRow w 148 2 (F.strip fs).length (fcells (F.strip fs))) := by
  have hn : n ≤ 1073741824 := by have := F.len_le_bulk fs; omega
  have ht := Nat.le_trans (toks_sum fs ⟨#[67, 111, 110, 110, 101, 99, 116, 105, 111, 110]⟩) hf
  have HT := Lib.hid (tokens_any A n c fs ⟨#[67, 111, 110, 110, 101, 99, 116, 105, 111, 110]⟩ w (by omega) hl (small_of_bulk hf) (by decide) (by omega) hx)
  have hns : NSmall (F.tokens fs ⟨#[67, 111, 110, 110, 101, 99, 116, 105, 111, 110]⟩ ++ F.nine) := nsmall_append (fun s hs => by have := mem_toks hs; omega) nine_small
  have HW := Lib.hid (fun X d w1 (hb : Below w.heap.size w w1) (hX : Rd w1 X ((F.tokens fs ⟨#[67, 111, 110, 110, 101, 99, 116, 105, 111, 110]⟩).length + 9) 1 (scells (F.tokens fs ⟨#[67, 111, 110, 110, 101, 99, 116, 105, 111, 110]⟩ ++ F.nine))) =>
    without_any A n c fs X ((F.tokens fs ⟨#[67, 111, 110, 110, 101, 99, 116, 105, 111, 110]⟩).length + 9) d (F.tokens fs ⟨#[67, 111, 110, 110, 101, 99, 116, 105, 111, 110]⟩ ++ F.nine) w1 (by omega) hl (small_of_bulk hf) (hx.below hb) hnil (by omega) (by rw [List.length_append]; rfl) hns hX)
  clear hl hns hnil hf
  obtain ⟨ts, hts⟩ : ∃ ts, ts = F.tokens fs ⟨#[67, 111, 110, 110, 101, 99, 116, 105, 111, 110]⟩ := ⟨_, rfl⟩
  have hfin : F.strip fs = F.without fs (ts ++ F.nine) := by rw [hts]; rfl
  rw [← hts] at HT HW ht
  have HF := Lib.hid hfin
  clear hts hfin
  go_enter Tryz.func79, Tryz.ntmps79
  go_wp2_with fail
  refine HT.out.mono ?_
  rintro e w1 ⟨T, dt, rfl, hT, hb1⟩
  have hz1 := hb1.size
  go_wp2_with (at_builtin; refine appS _ rfl (.tmp 5) (.tmp 6) rfl w.heap.size T ts.length dt ts rfl (hT.alloc _) _ 9 9 F.nine rfl (Rd.newRow _ _ _ 9 1 rfl) (by omega) (by simp; omega) ?_; intro A1 c1 w2 hr2 ha2)
  have hB2 : Below w.heap.size w w2 := (hb1.alloc hz1 _).trans (ha2.below (hT.alloc _) (by simp; omega))
  go_wp2_with fail
  refine (HW.out A1 c1 w2 hB2 hr2.rd).mono ?_
  rintro e w3 ⟨R, dr, rfl, hR, hb3⟩
  clear hT hr2 ha2 HT HW
  go_wp2
  go_ret
  refine ⟨R, dr, ?_, ?_, below_next hB2 hb3⟩
  · rw [HF.out]; rfl
  · rw [HF.out]; exact hR.mono hB2.size

end Go.Proofs.YteehjkfmlcfffaaGreatDoor
