/- A list of pieces of bytes, each of its own; the walk of use.Cut: some pieces that are the whole, one behind the other. Conditions: at most 2^40 bytes and lengths. -/
import Derived.Test.YteehjkfmlcfffaaGreatDoorCopyB
import Derived.Test.YteehjkfmlcfffaaGreatDoorMarkL
import Derived.Test.YteehjkfmlcfffaaGreatDoorChunkAA
import Derived.Test.YteehjkfmlcfffaaGreatDoorHeadB
import Derived.Laws.BitsLemmas
namespace Go.Proofs.YteehjkfmlcfffaaGreatDoor
open Go.RowKit

/-- A piece: where it lies, its room, its bytes. -/
abbrev PQ := Option Addr × Nat × List UInt8
def pq (x : PQ) : Value := .slice x.1 x.2.2.length x.2.1
def pcells (l : List PQ) : List Value := l.map pq
theorem pcells_append (l m : List PQ) : pcells (l ++ m) = pcells l ++ pcells m := List.map_append
theorem pcells_one (l : List PQ) : ∀ u ∈ pcells l, u.oneCell' = true := by
  intro u hu
  obtain ⟨x, _, rfl⟩ := List.mem_map.1 hu
  rfl
theorem Tryz.infoP : (Tryz.prog.info? 22).map (fun i => (i.zero, i.size, i.bytes)) = some (some (.slice none 0 0), 1, 24) := by kernel_rfl
theorem Tryz.underlyingP : Tryz.prog.underlying 42 = some (.slice 22) := by kernel_rfl
section
variable {ops : Array Oper} {o : Oper} {rest : List Oper} {a : Act} {Q : Exit → Act → World → Prop} (w : World)
theorem appP (hgd : o.guard = none) (s x : Operand) (ho : o.op = .call { callee := .builtin .append, args := #[s, x], argTypes := #[42, 42] })
    (base : Nat) (A : Option Addr) (n c : Nat) (xs : List PQ) (hs : a.eval s = .slice A n c) (hown : Row w base 22 1 A n c (pcells xs))
    (S : Option Addr) (m d : Nat) (news : List PQ) (hx : a.eval x = .slice S m d) (hr : Rd w S m 1 (pcells news)) (h63 : n + m ≤ 4398046511104) (hbase : base ≤ w.heap.size)
    (h : ∀ A' c' w', Row w' base 22 1 A' (n + m) c' (pcells (xs ++ news)) → App w w' A c A' c' → wpList Tryz.prog ops Q rest (a.put o.dst (.slice A' (n + m) c')) w') : wpList Tryz.prog ops Q (o :: rest) a w := by
  refine wpList_plain hgd fun _ hK => ?_
  obtain ⟨i0, hi0, hz0, hz1, hz2⟩ := info_parts Tryz.infoP
  exact wp_app w s x _ ho _ i0 _ 1 24 Tryz.underlyingP hi0 hz0 hz1 hz2 rfl (by omega) base A n c _ hs hown S m d _ hx hr (pcells_one news) (by simp only [maxLen]; omega) (by omega) hbase (fun A' c' w' h2 h3 => hK _ _ (h A' c' w' (by rw [pcells_append]; exact h2) h3))
end
/-- What is still to come. -/
def later (l : List PQ) (k : Nat) : List UInt8 := ((l.drop k).map (·.2.2)).flatten
theorem later_zero (l : List PQ) : later l 0 = (l.map (·.2.2)).flatten := rfl
theorem later_next {l : List PQ} {k : Nat} (h : k < l.length) : later l k = (l[k]'h).2.2 ++ later l (k + 1) := by
  unfold later
  rw [List.drop_eq_getElem_cons h, List.map_cons, List.flatten_cons]
theorem later_end {l : List PQ} {k : Nat} (h : l.length ≤ k) : later l k = [] := by
  unfold later
  rw [List.drop_eq_nil_of_le h]
  rfl
/-- A list of pieces of the call's own: their blocks are not the list's. -/
structure PRow (w : World) (base : Nat) (A : Option Addr) (c : Nat) (l : List PQ) : Prop where
  row : Row w base 22 1 A l.length c (pcells l)
  all : ∀ x ∈ l, CRow w base x.1 x.2.2.length x.2.1 x.2.2
  sep : ∀ x ∈ l, ∀ k, ownB x.1 x.2.1 = some k → ownB A c ≠ some k
section
variable {w w' : World} {base : Nat} {A : Option Addr} {c : Nat} {l : List PQ}
theorem PRow.nil (w : World) (base : Nat) (A : Option Addr) : PRow w base A 0 [] := ⟨Row.empty _ _ _ _ _, by simp, by simp⟩
theorem PRow.below (h : PRow w base A c l) (hb : Below w.heap.size w w') : PRow w' base A c l := ⟨h.row.below hb, fun x hx => (h.all x hx).below hb, h.sep⟩
/-- Behind an append of one piece that was made after the list. -/
theorem PRow.snoc {w1 w2 : World} {A' : Option Addr} {c' : Nat} {x : PQ} (h : PRow w base A c l) (hb : Below w.heap.size w w1) (hx : CRow w1 w.heap.size x.1 x.2.2.length x.2.1 x.2.2) (hbase : base ≤ w.heap.size)
    (hr : Row w2 base 22 1 A' (l.length + 1) c' (pcells (l ++ [x]))) (ha : App w1 w2 A c A' c') : PRow w2 base A' c' (l ++ [x]) := by
  have hx' := hx
  have hsepx : ∀ k, ownB x.1 x.2.1 = some k → ownB A c ≠ some k := fun k hk e => by
    have h1 := (hx.lt k hk).1
    have h2 := (h.row.lt k e).2
    omega
  have hlt : ∀ y ∈ l ++ [x], ∀ k, ownB y.1 y.2.1 = some k → k < w1.heap.size := fun y hy k hk => by
    rcases List.mem_append.1 hy with hy | hy
    · exact Nat.lt_of_lt_of_le ((h.all y hy).lt k hk).2 hb.size
    · rw [List.mem_singleton.1 hy] at hk
      exact (hx.lt k hk).2
  have hsep : ∀ y ∈ l ++ [x], ∀ k, ownB y.1 y.2.1 = some k → ownB A c ≠ some k := fun y hy k hk => by
    rcases List.mem_append.1 hy with hy | hy
    · exact h.sep y hy k hk
    · rw [List.mem_singleton.1 hy] at hk
      exact hsepx k hk
  refine ⟨by rw [List.length_append]; exact hr, fun y hy => ?_, fun y hy k hk => ?_⟩
  · rcases List.mem_append.1 hy with hm | hm
    · exact ((h.all y hm).below hb).kept ha.grown (fun k hk => hsep y hy k hk)
    · have e := List.mem_singleton.1 hm
      subst e
      exact (hx.mono hbase).kept ha.grown (fun k hk => hsep y hy k hk)
  · rcases ha.moved with ⟨rfl, rfl⟩ | ⟨g, rfl, hg⟩
    · exact hsep y hy k hk
    · intro e
      have := hlt y hy k hk
      unfold ownB at e
      split at e
      · cases e
      · simp at e
        omega
theorem PRow.at (h : PRow w base A c l) {k : Nat} (hk : k < l.length) : ∃ b o, A = some ⟨b, o, none⟩ ∧ b < w.heap.size ∧ base ≤ b ∧ w.cell? ⟨b, o + k, none⟩ = some (.slice (l[k]'hk).1 (l[k]'hk).2.2.length (l[k]'hk).2.1) := by
  obtain ⟨b, o, u, e, hlt, hu, hc⟩ := h.row.rd.at1 hk
  have hb0 : base ≤ b := by
    have hcp := h.row.cap.1
    refine (h.row.lt b ?_).1
    rw [e]
    unfold ownB
    rw [if_neg (by omega)]
    rfl
  refine ⟨b, o, e, hlt, hb0, ?_⟩
  have : (pcells l)[k]? = some (pq (l[k]'hk)) := by
    unfold pcells
    rw [List.getElem?_map, List.getElem?_eq_getElem hk]
    rfl
  rw [this] at hu
  rw [hc, ← hu]
  rfl
end
/-- Pieces that are the whole. -/
def RetPs (w : World) (bs : List UInt8) (m : Nat) (e : Ending) (w' : World) : Prop :=
  ∃ A c l, e = .returned (.slice A l.length c) ∧ l.length ≤ m + 1 ∧ (l.map (·.2.2)).flatten = bs ∧ PRow w' w.heap.size A c l ∧ Below w.heap.size w w'
theorem and63 (n : Int) : bits .and .i64 n 63 = n % 64 := by
  have h63 : (BitVec.ofInt 64 63).toNat = 2 ^ 6 - 1 := by decide
  have key : (BitVec.ofInt 64 n &&& BitVec.ofInt 64 63).toNat = (n % ((2 ^ 64 : Nat) : Int)).toNat % 2 ^ 6 := by
    rw [BitVec.toNat_and, BitVec.toNat_ofInt, h63, Nat.and_two_pow_sub_one_eq_mod]
  show IntKind.i64.wrap ((BitVec.ofInt 64 n &&& BitVec.ofInt 64 63).toNat : Nat) = n % 64
  rw [key, IntKind.wrap_i64]
  omega
theorem newP (w : World) (x : PQ) : Rd (w.alloc (.cells #[pq x] 22)) (some ⟨w.heap.size, 0, none⟩) 1 1 (pcells [x]) := Rd.new1 w _ _

set_option maxHeartbeats 2000000 in
set_option maxRecDepth 100000 in
theorem cutPieces_any (A : Option Addr) (c : Nat) (bs : List UInt8) (X : Option Addr) (n d : Nat) (zs : List Value) (w : World) (hn : bs.length ≤ 1048576) (hc : bs.length ≤ c) (hx : Rd w A bs.length 1 (bcells bs)) (hz : Rd w X n 1 zs) (hnz : n ≤ 1048576) (hzi : ∀ u ∈ zs, ∃ z : Int, u = .int .i64 z) :
    Calls Tryz.prog 22 #[.slice A bs.length c, .slice X n d] w (RetPs w bs n) := by
  have HX := Lib.hid hx
  have HZ := Lib.hid hz
  obtain ⟨N, hN⟩ : ∃ N, N = bs.length := ⟨_, rfl⟩
  have HN := Lib.hid hN
  rw [← hN] at hn hc ⊢
  clear hx hz hN
  go_enter Tryz.func22, Tryz.ntmps22
  have HW := HX
  go_wp2
  go_loopw [0, 5, 6] (fun b o i wr => ∃ (k : Nat) (BA : Option Addr) (bc : Nat) (rest : List UInt8) (QA : Option Addr) (qc : Nat) (l : List PQ), k ≤ n ∧ i = .int .i64 k ∧ b = .slice BA rest.length bc ∧ o = .slice QA l.length qc ∧ (l.map (·.2.2)).flatten ++ rest = bs ∧ rest.length ≤ bc ∧ Rd w BA rest.length 1 (bcells rest) ∧ l.length ≤ k ∧ PRow wr w.heap.size QA qc l ∧ Below w.heap.size w wr) (fun _ _ i _ => n - (intOf i).toNat)
  case atStart => exact ⟨0, A, c, bs, _, 0, [], Nat.zero_le _, rfl, by rw [← HN.out], rfl, rfl, by rw [← HN.out]; exact hc, HW.out, Nat.le_refl _, PRow.nil _ _ _, (Below.refl _ _).alloc (Nat.le_refl _) _⟩
  case round =>
    obtain ⟨k, BA, bc, rest, QA, qc, l, hk, rfl, rfl, rfl, hfl, hrc, hrd, hlk, hp, hbel⟩ := hrel
    have HFL := Lib.hid hfl
    have HRD := Lib.hid hrd
    have HP := Lib.hid hp
    have HBE := Lib.hid hbel
    have hrn : rest.length ≤ N := by have := congrArg List.length hfl; rw [List.length_append] at this; have := HN.out; omega
    clear hfl hrd hp hbel HX HW
    by_cases hgo : k < n ∧ 0 < rest.length
    · obtain ⟨hlt, hr0⟩ := hgo
      obtain ⟨zb, zo, u, rfl, hzb, hzu, hzc⟩ := (HZ.out.below HBE.out).at1 hlt
      obtain ⟨z, rfl⟩ := hzi u (List.mem_of_getElem? hzu)
      have hr0i : (rest.length : Int) > 0 := by omega
      obtain ⟨rb, ro, rfl, _⟩ := HRD.out.lt hr0
      obtain ⟨y, hy, hy63⟩ : ∃ y : Nat, bits .and .i64 z 63 = (y : Int) ∧ y ≤ 63 := ⟨(z % 64).toNat, by rw [and63]; omega, by omega⟩
      clear hzu
      by_cases hyr : rest.length < y
      · have hyi : (rest.length : Int) < (y : Int) := by omega
        have hmr : rest.length ≤ rest.length := Nat.le_refl _
        have hlt1 : (rest.take rest.length).length = rest.length := by rw [List.length_take]; omega
        have hld1 : (rest.drop rest.length).length = rest.length - rest.length := List.length_drop
        have HC := copyBytes_any (some ⟨rb, ro, none⟩) bc (rest.take rest.length) wr (by omega) (by rw [hlt1]; exact (HRD.out.below HBE.out).upto hmr)
        rw [hlt1] at HC
        have HC := Lib.hid HC
        have HLD := Lib.hid hld1
        have hmi : (rest.length : Int) ≤ (bc : Int) := by omega
        clear hld1
        go_wp2_with fail
        refine HC.out.mono ?_
        rintro e w1 ⟨A1, c1, rfl, hr1, hb1⟩
        have hlt2 := hlt1
        have hX : pq ((A1, c1, rest.take rest.length) : PQ) = .slice A1 rest.length c1 := by unfold pq; dsimp only; rw [hlt1]
        have HHX := Lib.hid hX
        rw [hlt1]
        have HPX := Lib.hid (HP.out.below hb1)
        have HB1 := Lib.hid (below_then HBE.out.size HBE.out hb1)
        have HR1 := Lib.hid hr1
        have HBB := Lib.hid hb1
        have hz1 := hb1.size
        have hzw := HBE.out.size
        clear hr1 hb1 HC HBE hlt1 hX
        go_wp2_with (at_builtin; refine appP _ rfl (.tmp 31) (.tmp 36) rfl w.heap.size QA l.length qc l rfl (HPX.out.row.alloc _) _ 1 1 [((A1, c1, rest.take rest.length) : PQ)] rfl (by have h := newP w1 ((A1, c1, rest.take rest.length) : PQ); rw [HHX.out] at h; exact h) (by omega) (by simp; omega) ?_; intro Q2 q2 w2 hr2 ha2; have HP2 := Lib.hid (HP.out.snoc (HBB.out.alloc HBB.out.size _) (x := ((A1, c1, rest.take rest.length) : PQ)) (HR1.out.alloc _) (by omega) hr2 ha2); have HB2 := Lib.hid ((HB1.out.alloc HB1.out.size _).trans (ha2.below (HPX.out.row.alloc _) (by simp; omega))); clear hr2 ha2)
        have hfl2 : ((l ++ [((A1, c1, rest.take rest.length) : PQ)]).map (·.2.2)).flatten ++ rest.drop rest.length = bs := by
          rw [List.map_append, List.flatten_append, List.append_assoc, ← HFL.out]
          congr 1
          simp
        have hll : (l ++ [((A1, c1, rest.take rest.length) : PQ)]).length = l.length + 1 := by simp
        have HFL2 := Lib.hid hfl2
        have HLL := Lib.hid hll
        have HRA := Lib.hid (HRD.out.fromA hrc hmr)
        clear hfl2 hll HRD HFL HP HPX HB1 HR1 HBB HHX
        by_cases hmc : rest.length = bc
        · subst hmc
          rw [addA_end] at HRA
          go_wp2
          go_roundw
          case rel => exact ⟨k + 1, by omega, by go_num, _, _, rest.drop rest.length, ⟨rfl, by rw [HLD.out] <;> omega, rfl⟩, _, _, l ++ [((A1, c1, rest.take rest.length) : PQ)], ⟨rfl, by rw [HLL.out], rfl⟩, HFL2.out, by rw [HLD.out]; omega, by rw [HLD.out]; exact HRA.out, by rw [HLL.out]; omega, HP2.out, HB2.out⟩
          case measure => simp [intOf]; omega
        · rw [addA_in hmc] at HRA
          go_wp2
          go_roundw
          case rel => exact ⟨k + 1, by omega, by go_num, _, _, rest.drop rest.length, ⟨rfl, by rw [HLD.out] <;> omega, rfl⟩, _, _, l ++ [((A1, c1, rest.take rest.length) : PQ)], ⟨rfl, by rw [HLL.out], rfl⟩, HFL2.out, by rw [HLD.out]; omega, by rw [HLD.out]; exact HRA.out, by rw [HLL.out]; omega, HP2.out, HB2.out⟩
          case measure => simp [intOf]; omega
      · have hyi : ¬ (rest.length : Int) < (y : Int) := by omega
        have hmr : y ≤ rest.length := by omega
        have hlt1 : (rest.take y).length = y := by rw [List.length_take]; omega
        have hld1 : (rest.drop y).length = rest.length - y := List.length_drop
        have HC := copyBytes_any (some ⟨rb, ro, none⟩) bc (rest.take y) wr (by omega) (by rw [hlt1]; exact (HRD.out.below HBE.out).upto hmr)
        rw [hlt1] at HC
        have HC := Lib.hid HC
        have HLD := Lib.hid hld1
        have hmi : (y : Int) ≤ (bc : Int) := by omega
        clear hld1
        go_wp2_with fail
        refine HC.out.mono ?_
        rintro e w1 ⟨A1, c1, rfl, hr1, hb1⟩
        have hlt2 := hlt1
        have hX : pq ((A1, c1, rest.take y) : PQ) = .slice A1 y c1 := by unfold pq; dsimp only; rw [hlt1]
        have HHX := Lib.hid hX
        rw [hlt1]
        have HPX := Lib.hid (HP.out.below hb1)
        have HB1 := Lib.hid (below_then HBE.out.size HBE.out hb1)
        have HR1 := Lib.hid hr1
        have HBB := Lib.hid hb1
        have hz1 := hb1.size
        have hzw := HBE.out.size
        clear hr1 hb1 HC HBE hlt1 hX
        go_wp2_with (at_builtin; refine appP _ rfl (.tmp 31) (.tmp 36) rfl w.heap.size QA l.length qc l rfl (HPX.out.row.alloc _) _ 1 1 [((A1, c1, rest.take y) : PQ)] rfl (by have h := newP w1 ((A1, c1, rest.take y) : PQ); rw [HHX.out] at h; exact h) (by omega) (by simp; omega) ?_; intro Q2 q2 w2 hr2 ha2; have HP2 := Lib.hid (HP.out.snoc (HBB.out.alloc HBB.out.size _) (x := ((A1, c1, rest.take y) : PQ)) (HR1.out.alloc _) (by omega) hr2 ha2); have HB2 := Lib.hid ((HB1.out.alloc HB1.out.size _).trans (ha2.below (HPX.out.row.alloc _) (by simp; omega))); clear hr2 ha2)
        have hfl2 : ((l ++ [((A1, c1, rest.take y) : PQ)]).map (·.2.2)).flatten ++ rest.drop y = bs := by
          rw [List.map_append, List.flatten_append, List.append_assoc, ← HFL.out]
          congr 1
          simp
        have hll : (l ++ [((A1, c1, rest.take y) : PQ)]).length = l.length + 1 := by simp
        have HFL2 := Lib.hid hfl2
        have HLL := Lib.hid hll
        have HRA := Lib.hid (HRD.out.fromA hrc hmr)
        clear hfl2 hll HRD HFL HP HPX HB1 HR1 HBB HHX
        by_cases hmc : y = bc
        · subst hmc
          rw [addA_end] at HRA
          go_wp2
          go_roundw
          case rel => exact ⟨k + 1, by omega, by go_num, _, _, rest.drop y, ⟨rfl, by rw [HLD.out] <;> omega, rfl⟩, _, _, l ++ [((A1, c1, rest.take y) : PQ)], ⟨rfl, by rw [HLL.out], rfl⟩, HFL2.out, by rw [HLD.out]; omega, by rw [HLD.out]; exact HRA.out, by rw [HLL.out]; omega, HP2.out, HB2.out⟩
          case measure => simp [intOf]; omega
        · rw [addA_in hmc] at HRA
          go_wp2
          go_roundw
          case rel => exact ⟨k + 1, by omega, by go_num, _, _, rest.drop y, ⟨rfl, by rw [HLD.out] <;> omega, rfl⟩, _, _, l ++ [((A1, c1, rest.take y) : PQ)], ⟨rfl, by rw [HLL.out], rfl⟩, HFL2.out, by rw [HLD.out]; omega, by rw [HLD.out]; exact HRA.out, by rw [HLL.out]; omega, HP2.out, HB2.out⟩
          case measure => simp [intOf]; omega
    · have HC := Lib.hid (copyBytes_any BA bc rest wr (by omega) (HRD.out.below HBE.out))
      by_cases hkn : k < n
      · have hr0 : rest = [] := List.length_eq_zero_iff.1 (by omega)
        subst hr0
        replace HC : Hid (Calls Tryz.prog 21 #[.slice BA 0 bc] wr (RetC wr [])) := HC
        go_wp2_with fail
        refine HC.out.mono ?_
        rintro e w1 ⟨A1, c1, rfl, hr1, hb1⟩
        have HPX := Lib.hid (HP.out.below hb1)
        have HB1 := Lib.hid (below_then HBE.out.size HBE.out hb1)
        have HR1 := Lib.hid hr1
        have HBB := Lib.hid hb1
        have hz1 := hb1.size
        have hzw := HBE.out.size
        clear hr1 hb1 HC HBE
        go_wp2_with (at_builtin; refine appP _ rfl (.tmp 41) (.tmp 44) rfl w.heap.size QA l.length qc l rfl (HPX.out.row.alloc _) _ 1 1 [((A1, c1, []) : PQ)] rfl (newP w1 ((A1, c1, []) : PQ)) (by omega) (by simp; omega) ?_; intro Q2 q2 w2 hr2 ha2; have HP2 := Lib.hid (HP.out.snoc (HBB.out.alloc HBB.out.size _) (x := ((A1, c1, []) : PQ)) (HR1.out.alloc _) (by omega) hr2 ha2); have HB2 := Lib.hid ((HB1.out.alloc HB1.out.size _).trans (ha2.below (HPX.out.row.alloc _) (by simp; omega))); clear hr2 ha2)
        go_ret
        have hfl2 : ((l ++ [((A1, c1, []) : PQ)]).map (·.2.2)).flatten = bs := by
          rw [List.map_append, List.flatten_append, ← HFL.out]
          simp
        exact ⟨Q2, q2, l ++ [((A1, c1, []) : PQ)], by simp, by simp; omega, hfl2, HP2.out, HB2.out⟩
      · go_wp2_with fail
        refine HC.out.mono ?_
        rintro e w1 ⟨A1, c1, rfl, hr1, hb1⟩
        have HPX := Lib.hid (HP.out.below hb1)
        have HB1 := Lib.hid (below_then HBE.out.size HBE.out hb1)
        have HR1 := Lib.hid hr1
        have HBB := Lib.hid hb1
        have hz1 := hb1.size
        have hzw := HBE.out.size
        clear hr1 hb1 HC HBE
        go_wp2_with (at_builtin; refine appP _ rfl (.tmp 41) (.tmp 44) rfl w.heap.size QA l.length qc l rfl (HPX.out.row.alloc _) _ 1 1 [((A1, c1, rest) : PQ)] rfl (newP w1 ((A1, c1, rest) : PQ)) (by omega) (by simp; omega) ?_; intro Q2 q2 w2 hr2 ha2; have HP2 := Lib.hid (HP.out.snoc (HBB.out.alloc HBB.out.size _) (x := ((A1, c1, rest) : PQ)) (HR1.out.alloc _) (by omega) hr2 ha2); have HB2 := Lib.hid ((HB1.out.alloc HB1.out.size _).trans (ha2.below (HPX.out.row.alloc _) (by simp; omega))); clear hr2 ha2)
        go_ret
        have hfl2 : ((l ++ [((A1, c1, rest) : PQ)]).map (·.2.2)).flatten = bs := by
          rw [List.map_append, List.flatten_append, ← HFL.out]
          simp
        exact ⟨Q2, q2, l ++ [((A1, c1, rest) : PQ)], by simp, by simp; omega, hfl2, HP2.out, HB2.out⟩
end Go.Proofs.YteehjkfmlcfffaaGreatDoor
