/- What an append to a file leaves of the disk's form in memory. No condition: plain lemmas. maps.Keys, slices.Sorted and maps.Clone at this program's types: laid, and what they answer (printed by gen/mapk.py). Conditions: at most 2^30 names. -/
import Derived.Test.YtkempjcphpnocaaGreatDoorZ07
import Derived.Test.YtkempjcphpnocaaGreatDoorShelf
import Derived.Test.YtkempjcphpnocaaGreatDoorZ08
import Derived.Shelf.SlMaps.Clone
import Derived.Shelf.SlIter.Sorted
namespace Go.Proofs.YtkempjcphpnocaaGreatDoor
open Go Go.RowKit Go.Maps

/-- Where the disk lies behind an append to a file. -/
def DM.grew (M : DM) (no : Nat) (A : Option Addr) (c : Nat) : DM := { M with da := fun i => if i = no then A else M.da i, dc := fun i => if i = no then c else M.dc i }
def D.Dsk.wrote (s : D.Dsk) (no : Nat) (d : List UInt8) : D.Dsk := { s with data := s.data.set no (s.data.getD no [] ++ d) }
theorem D.Dsk.wrote_size (s : D.Dsk) {no : Nat} (hn : no < s.data.length) (d : List UInt8) : (s.wrote no d).size no = s.size no + d.length := by
  unfold D.Dsk.wrote D.Dsk.size
  simp [List.getD, hn]
theorem D.Dsk.wrote_same (s : D.Dsk) (no : Nat) (d : List UInt8) {i : Nat} (hi : i ≠ no) : (s.wrote no d).data.getD i [] = s.data.getD i [] := by
  unfold D.Dsk.wrote
  simp [List.getD, List.getElem?_set_ne (fun h => hi h.symm)]
section
variable {B : Nat} {M : DM} {s : D.Dsk} {w w1 w' : World} {A A' : Option Addr} {c' n : Nat} {d : List UInt8} {no : Nat}
theorem Stepped.rd {M' : DM} {s' : D.Dsk} {size : Nat} {xs : List Value} (h : Stepped M s w M' s' w') (hx : Rd w A n size xs) (hA : 0 < n → ∀ a, A = some a → ¬ M.foot s a.block) : Rd w' A n size xs :=
  ⟨hx.1, fun hn => by
    obtain ⟨b, o, rfl, hlt, hc⟩ := hx.2 hn
    have hbl : w'.heap[b]? = w.heap[b]? := h.block b hlt (hA hn _ rfl)
    exact ⟨b, o, rfl, Nat.lt_of_lt_of_le hlt h.size, fun j u hu => (World.cell?_of_block (w := w) (a := ⟨b, o + j, none⟩) hbl).trans (hc j u hu)⟩⟩
theorem DkAt.wrote (h : DkAt B M s w) (hn : no < s.data.length) (ha : App w w1 (M.da no) (M.dc no) A' c') (hrow : Row w1 B 5 1 A' (s.size no + d.length) c' (bcells (s.data.getD no [] ++ d))) :
    DkAt B (M.grew no A' c') (s.wrote no d) (w1.setCell ⟨M.fa no, 1, none⟩ (.slice A' (s.size no + d.length) c')) := by
  obtain ⟨g1, g2, g3⟩ := h.files no hn
  have hg := ha.grown
  have hT : ∀ k, ownB (M.da no) (M.dc no) = some k → Tag w k 5 := fun k hk => g2.tag hk
  have hb : ∀ {k t}, Tag w k t → t ≠ 5 → ownB (M.da no) (M.dc no) ≠ some k := fun ht hn e => ht.ne (hT _ e) hn rfl
  have hF1 := g1.keptG hg (hb g1.tag (by decide))
  have hg2 := grown_set w1 (M.fa no) 1 (.slice A' (s.size no + d.length) c')
  have hT2 := hF1.tag
  have hb2 : ∀ {k t}, Tag w1 k t → t ≠ 78 → some (M.fa no) ≠ some k := fun ht hn e => ht.ne hT2 hn (by simpa using e.symm)
  have hmap : ∀ {K : TypeId} {R : Value → Option (DataW Unit × List MemPlace)} {b n : Nat} {D : DataW Unit}, w.ownsMap Tryz.prog K R b n D → (w1.setCell ⟨M.fa no, 1, none⟩ (.slice A' (s.size no + d.length) c')).ownsMap Tryz.prog K R b n D := fun hm => by
    have h1 := hm.kept hg (fun e => (hT _ e.symm).map (ownsMap_tag hm) rfl)
    exact h1.kept hg2 (fun e => hT2.map (ownsMap_tag h1) (by simpa using e.symm))
  have hblk : ∀ {k : Nat} {cs : Array Value} {t : TypeId}, Blk w k cs t → t ≠ 5 → t ≠ 78 → Blk (w1.setCell ⟨M.fa no, 1, none⟩ (.slice A' (s.size no + d.length) c')) k cs t := fun hk h1 h2 => by
    have q := hk.keptG hg (hb hk.tag h1)
    exact q.keptG hg2 (hb2 q.tag h2)
  have hrw : ∀ {e : TypeId} {A : Option Addr} {n c : Nat} {xs : List Value}, Row w B e 1 A n c xs → e ≠ 5 → e ≠ 78 → Row (w1.setCell ⟨M.fa no, 1, none⟩ (.slice A' (s.size no + d.length) c')) B e 1 A n c xs := fun hk h1 h2 => by
    have q := hk.keptG hg (fun k hk2 => hb (hk.tag hk2) h1)
    exact q.keptG hg2 (fun k hk2 => hb2 (q.tag hk2) h2)
  have hlen : (s.wrote no d).data.length = s.data.length := by unfold D.Dsk.wrote; simp
  refine ⟨?_, hmap h.now, hmap h.safe, h.ne, hrw h.pend (by decide) (by decide), h.chg.imp (fun c v hc => (hc.keptT hg hT (by decide)).keptT hg2 (fun k e => by cases e; exact hT2) (by decide)), hrw h.fails (by decide) (by decide), fun i hi => ?_, fun i j hi hj hij => ?_, h.ge⟩
  · show Blk _ _ #[_, _, _, .int .i64 ((s.wrote no d).data.length : Nat), _, _, _, _] _
    rw [hlen]
    exact hblk h.blk (by decide) (by decide)
  · rw [hlen] at hi
    obtain ⟨f1, f2, f3⟩ := h.files i hi
    by_cases e : i = no
    · subst e
      have q1 : (M.grew i A' c').da i = A' := if_pos rfl
      have q2 : (M.grew i A' c').dc i = c' := if_pos rfl
      have q3 : (s.wrote i d).data.getD i [] = s.data.getD i [] ++ d := by unfold D.Dsk.wrote; simp [List.getD, hn]
      refine ⟨?_, ?_, f3⟩
      · rw [q1, q2, s.wrote_size hn d]
        exact hF1.set 1 _
      · rw [q1, q2, q3, s.wrote_size hn d]
        exact hrow.keptG hg2 (fun k hk => hb2 (hrow.tag hk) (by decide))
    · have q1 : (M.grew no A' c').da i = M.da i := if_neg e
      have q2 : (M.grew no A' c').dc i = M.dc i := if_neg e
      have q3 := s.wrote_same no d e
      have q4 : (s.wrote no d).size i = s.size i := by unfold D.Dsk.size; rw [q3]
      refine ⟨?_, ?_, f3⟩
      · rw [q1, q2, q4]
        have x := f1.keptG hg (hb f1.tag (by decide))
        exact x.keptG hg2 (fun e3 => (h.apart no i hn hi (fun h => e h.symm)).1 (by simpa using e3))
      · rw [q1, q2, q3, q4]
        have x := f2.keptG hg (fun k hk e3 => (h.apart no i hn hi (fun h => e h.symm)).2 k e3 hk)
        exact x.keptG hg2 (fun k hk => hb2 (x.tag hk) (by decide))
  · rw [hlen] at hi hj
    refine ⟨(h.apart i j hi hj hij).1, ?_⟩
    have hnew : ∀ i, i < s.data.length → i ≠ no → ∀ k, ownB A' c' = some k → ownB (M.da i) (M.dc i) ≠ some k := fun i hi e k hk hk2 => by
      rcases ha.moved with ⟨rfl, rfl⟩ | ⟨g, rfl, hg⟩
      · exact (h.apart no i hn hi (fun h => e h.symm)).2 k hk hk2
      · have := ((h.files i hi).row.lt k hk2).2
        unfold ownB at hk
        split at hk
        · cases hk
        · obtain rfl : g = k := by simpa using hk
          omega
    by_cases e1 : i = no
    · subst e1
      have e2 : j ≠ i := fun h => hij h.symm
      show ∀ k, ownB (if i = i then A' else M.da i) (if i = i then c' else M.dc i) = some k → ownB (if j = i then A' else M.da j) (if j = i then c' else M.dc j) ≠ some k
      rw [if_pos rfl, if_pos rfl, if_neg e2, if_neg e2]
      exact hnew j hj e2
    · by_cases e2 : j = no
      · subst e2
        show ∀ k, ownB (if i = j then A' else M.da i) (if i = j then c' else M.dc i) = some k → ownB (if j = j then A' else M.da j) (if j = j then c' else M.dc j) ≠ some k
        rw [if_neg e1, if_neg e1, if_pos rfl, if_pos rfl]
        exact fun k hk hk2 => hnew i hi e1 k hk2 hk
      · show ∀ k, ownB (if i = no then A' else M.da i) (if i = no then c' else M.dc i) = some k → ownB (if j = no then A' else M.da j) (if j = no then c' else M.dc j) ≠ some k
        rw [if_neg e1, if_neg e1, if_neg e2, if_neg e2]
        exact (h.apart i j hi hj hij).2
theorem Stepped.wrote (hn : no < s.data.length) (ha : App w w1 (M.da no) (M.dc no) A' c') : Stepped M s w (M.grew no A' c') (s.wrote no d) (w1.setCell ⟨M.fa no, 1, none⟩ (.slice A' (s.size no + d.length) c')) := by
  have hlen : (s.wrote no d).data.length = s.data.length := by unfold D.Dsk.wrote; simp
  have h1 : Stepped M s w (M.grew no A' c') (s.wrote no d) w1 := by
    refine Stepped.grown ha.grown (fun k hk => .inr (.inr (.inr (.inr ⟨no, hn, .inr hk⟩)))) (fun k hf => ?_) rfl
    rcases hf with hf | hf | hf | hf | ⟨i, hi, hf⟩
    · exact .inl (.inl hf)
    · exact .inl (.inr (.inl hf))
    · exact .inl (.inr (.inr (.inl hf)))
    · exact .inl (.inr (.inr (.inr (.inl hf))))
    · rw [hlen] at hi
      rcases hf with hf | hf
      · exact .inl (.inr (.inr (.inr (.inr ⟨i, hi, .inl hf⟩))))
      · by_cases e : i = no
        · subst e
          change ownB (if i = i then A' else M.da i) (if i = i then c' else M.dc i) = some k at hf
          rw [if_pos rfl, if_pos rfl] at hf
          rcases ha.moved with ⟨rfl, rfl⟩ | ⟨g, rfl, hg⟩
          · exact .inl (.inr (.inr (.inr (.inr ⟨i, hi, .inr hf⟩))))
          · refine .inr ?_
            unfold ownB at hf
            split at hf
            · cases hf
            · obtain rfl : g = k := by simpa using hf
              exact hg
        · change ownB (if i = no then A' else M.da i) (if i = no then c' else M.dc i) = some k at hf
          rw [if_neg e, if_neg e] at hf
          exact .inl (.inr (.inr (.inr (.inr ⟨i, hi, .inr hf⟩))))
  exact h1.trans (Stepped.file (M := M.grew no A' c') (by rw [hlen]; exact hn) rfl)
end
end Go.Proofs.YtkempjcphpnocaaGreatDoor

namespace Go.Proofs.YtkempjcphpnocaaGreatDoor
open Go Go.RowKit Go.Maps Go.Sort Go.Shelf

def Tryz.renKD : Go.Shelf.Ren := ⟨fun | 7 => 50 | 10 => 85 | n => n, fun | 0 => 0 | 3 => 75 | 4 => 4 | 23 => 67 | 26 => 9 | 27 => 107 | 28 => 108 | 33 => 74 | n => n, fun n => n⟩
theorem Tryz.keysD : SlLaysZ.n7 Tryz.prog Tryz.renKD := {
  mixed := by kernel_rfl,
  f7 := ⟨Tryz.f50.name, by decide, Tryz.func50.trans (congrArg some (by kernel_rfl))⟩,
  f10 := ⟨Tryz.f85.name, by decide, Tryz.func85.trans (congrArg some (by kernel_rfl))⟩,
  t0 := Tryz.underlying0, a0 := Tryz.isAgg0, z0 := Tryz.sizeOf0, v0 := Tryz.zeroValue0,
  t4 := Tryz.underlying4, a4 := Tryz.isAgg4, z4 := Tryz.sizeOf4, v4 := Tryz.zeroValue4,
  t23 := Tryz.underlying67, a23 := Tryz.isAgg67, z23 := Tryz.sizeOf67, v23 := Tryz.zeroValue67,
  t26 := Tryz.underlying9, a26 := Tryz.isAgg9, z26 := Tryz.sizeOf9, v26 := Tryz.zeroValue9,
  t27 := Tryz.underlying107, a27 := Tryz.isAgg107, z27 := Tryz.sizeOf107, v27 := Tryz.zeroValue107,
  t28 := Tryz.underlying108, a28 := Tryz.isAgg108, z28 := Tryz.sizeOf108, v28 := Tryz.zeroValue108,
  t33 := Tryz.underlying74, a33 := Tryz.isAgg74, z33 := Tryz.sizeOf74, v33 := Tryz.zeroValue74
}
def Tryz.renKT : Go.Shelf.Ren := ⟨fun | 7 => 47 | 10 => 83 | n => n, fun | 0 => 0 | 3 => 3 | 4 => 4 | 23 => 84 | 26 => 9 | 27 => 107 | 28 => 108 | 33 => 74 | n => n, fun n => n⟩
theorem Tryz.keysT : SlLaysZ.n7 Tryz.prog Tryz.renKT := {
  mixed := by kernel_rfl,
  f7 := ⟨Tryz.f47.name, by decide, Tryz.func47.trans (congrArg some (by kernel_rfl))⟩,
  f10 := ⟨Tryz.f83.name, by decide, Tryz.func83.trans (congrArg some (by kernel_rfl))⟩,
  t0 := Tryz.underlying0, a0 := Tryz.isAgg0, z0 := Tryz.sizeOf0, v0 := Tryz.zeroValue0,
  t4 := Tryz.underlying4, a4 := Tryz.isAgg4, z4 := Tryz.sizeOf4, v4 := Tryz.zeroValue4,
  t23 := Tryz.underlying84, a23 := Tryz.isAgg84, z23 := Tryz.sizeOf84, v23 := Tryz.zeroValue84,
  t26 := Tryz.underlying9, a26 := Tryz.isAgg9, z26 := Tryz.sizeOf9, v26 := Tryz.zeroValue9,
  t27 := Tryz.underlying107, a27 := Tryz.isAgg107, z27 := Tryz.sizeOf107, v27 := Tryz.zeroValue107,
  t28 := Tryz.underlying108, a28 := Tryz.isAgg108, z28 := Tryz.sizeOf108, v28 := Tryz.zeroValue108,
  t33 := Tryz.underlying74, a33 := Tryz.isAgg74, z33 := Tryz.sizeOf74, v33 := Tryz.zeroValue74
}
def Tryz.renS : Go.Shelf.Ren := ⟨fun | 6 => 46 | 8 => 81 | 9 => 82 | 11 => 104 | n => n, fun | 0 => 0 | 24 => 42 | 26 => 9 | 28 => 108 | 33 => 74 | n => n, fun n => n⟩
theorem Tryz.sortedL : SlLaysZ.n6 Tryz.prog Tryz.renS := {
  mixed := by kernel_rfl,
  f6 := ⟨Tryz.f46.name, by decide, Tryz.func46.trans (congrArg some (by kernel_rfl))⟩,
  f8 := ⟨Tryz.f81.name, by decide, Tryz.func81.trans (congrArg some (by kernel_rfl))⟩,
  f11 := ⟨Tryz.f104.name, by decide, Tryz.func104.trans (congrArg some (by kernel_rfl))⟩,
  t0 := Tryz.underlying0, a0 := Tryz.isAgg0, z0 := Tryz.sizeOf0, v0 := Tryz.zeroValue0,
  t24 := Tryz.underlying42, a24 := Tryz.isAgg42, z24 := Tryz.sizeOf42, v24 := Tryz.zeroValue42,
  t26 := Tryz.underlying9, a26 := Tryz.isAgg9, z26 := Tryz.sizeOf9, v26 := Tryz.zeroValue9,
  t28 := Tryz.underlying108, a28 := Tryz.isAgg108, z28 := Tryz.sizeOf108, v28 := Tryz.zeroValue108,
  i26 := Tryz.infoS
}
def Tryz.renC : Go.Shelf.Ren := ⟨fun | 5 => 29 | 7 => 55 | n => n, fun | 3 => 75 | 4 => 4 | 20 => 20 | 23 => 67 | 25 => 9 | n => n, fun n => n⟩
theorem Tryz.cloneD : SlLaysW.n5 Tryz.prog Tryz.renC := {
  mixed := by kernel_rfl,
  f5 := ⟨Tryz.f29.name, by decide, Tryz.func29.trans (congrArg some (by kernel_rfl))⟩,
  f7 := Tryz.func55.trans (congrArg some (by kernel_rfl)),
  t4 := Tryz.underlying4, a4 := Tryz.isAgg4, z4 := Tryz.sizeOf4, v4 := Tryz.zeroValue4,
  t20 := Tryz.underlying20, a20 := Tryz.isAgg20, z20 := Tryz.sizeOf20, v20 := Tryz.zeroValue20,
  t23 := Tryz.underlying67, a23 := Tryz.isAgg67, z23 := Tryz.sizeOf67, v23 := Tryz.zeroValue67
}
theorem names_slice {w0 w' : World} {v : Value} {ss : List (List UInt8)} {l : List ByteArray} (hss : ss.mergeSort (fun x y => decide (x ≤ y)) = l.map L) (hln : ss.length = l.length)
    (hrow : w'.ownsRow w0.heap.size 9 1 v ss.length ((ss.mergeSort (fun x y => decide (x ≤ y))).map encStr)) (hb : Below w0.heap.size w0 w') :
    RetRow w0 9 1 l.length (scells l) (.returned v) w' := by
  rw [hss, hln] at hrow
  have e : (l.map L).map encStr = scells l := by
    rw [List.map_map]
    apply List.map_congr_left
    intro x _
    rfl
  rw [e] at hrow
  rcases hrow.2 with ⟨rfl, h0⟩ | ⟨g, cap, cur, rfl, r⟩
  · have : l = [] := List.eq_nil_of_length_eq_zero h0
    subst this
    exact ⟨none, 0, rfl, Row.none_ _ _ _ _, hb⟩
  · exact ⟨some ⟨g, 0, none⟩, cap, rfl, .inl hrow, hb⟩
theorem perm_len {fa : Nat → Nat} {l : D.NM} {ss : List (List UInt8)} (h : ss.Perm (strKeys (D.datum fa l))) : ss.length = (l.map (·.1)).length := by
  rw [h.length_eq, D.keys_datum, List.length_map, List.length_map]
theorem sorts_in (m : Nat) : AnyZ.SortsIn Tryz.prog Tryz.renS Fence.wide m :=
  ⟨fun blk off cap ss W hH hblk hsz => callsIn_wide.2 (Tryz.slices_Sort_string blk off cap ss W hH hblk hsz),
   fun p cap W => callsIn_wide.2 (Tryz.slices_Sort_string_none p cap W)⟩
theorem keysD_any (mb : Option Nat) (w : World) : Calls Tryz.prog 50 #[.map mb] w (fun e w' => e = .returned (.func (.func 85) #[] #[.pointer (some ⟨w.heap.size, 0, none⟩)]) ∧ w' = w.alloc (.cells #[.map mb] 67)) :=
  (callsIn_wide (n := 5)).1 (AnyZ.keys_in Tryz.keysD Fence.wide 5 trivial rfl mb w)
set_option maxHeartbeats 1000000 in
theorem sortedD_any {R : Value → Option (DataW Unit × List MemPlace)} (fa : Nat → Nat) (l : D.NM) (k b : Nat) (w : World) (hk : k < w.heap.size) (hm : w.cell? ⟨k, 0, none⟩ = some (.map (some b))) (h : w.ownsMap Tryz.prog 9 R b l.length (D.datum fa l)) (hu : D.Up l) (hl : l.length ≤ 1073741824) :
    Calls Tryz.prog 46 #[.func (.func 85) #[] #[.pointer (some ⟨k, 0, none⟩)]] w (RetRow w 9 1 (l.map (·.1)).length (scells (l.map (·.1)))) := by
  have hsz : Maps.size (D.datum fa l) = l.length := by
    unfold D.datum
    rw [Maps.size_eq]
    simp
  have hseq : SeqGives Fence.wide 2 Tryz.prog 85 #[.pointer (some ⟨k, 0, none⟩)] encStr (fun ss => ss.Perm (strKeys (D.datum fa l))) (Maps.size (D.datum fa l)) w :=
    AnyZ.keys_gives (ρ := Tryz.renKD) { Tryz.keysD with } Fence.wide 2 trivial rfl (by omega) k b l.length (D.datum fa l) w hk hm h
  have cS := AnyZ.sorted_in Tryz.sortedL Fence.wide 5 trivial trivial trivial trivial rfl (by omega) (sorts_in _) (enters_of Tryz.func82 (by kernel_rfl) rfl) 85 #[.pointer (some ⟨k, 0, none⟩)] trivial (enters_of Tryz.func85 (by kernel_rfl) rfl) _ _ (by rw [hsz]; simp only [maxLen]; omega) (by rw [hsz]; omega) w hseq
  refine ((callsIn_wide (n := 5)).1 cS).mono ?_
  rintro e w' ⟨v, ss, rfl, hS, hrow, hnil, hb⟩
  exact names_slice ((D.keys_sorted hu hS).trans (by rw [List.map_map]; rfl)) (perm_len hS) hrow hb
theorem keysT_any (mb : Option Nat) (w : World) : Calls Tryz.prog 47 #[.map mb] w (fun e w' => e = .returned (.func (.func 83) #[] #[.pointer (some ⟨w.heap.size, 0, none⟩)]) ∧ w' = w.alloc (.cells #[.map mb] 84)) :=
  (callsIn_wide (n := 5)).1 (AnyZ.keys_in Tryz.keysT Fence.wide 5 trivial rfl mb w)
set_option maxHeartbeats 1000000 in
theorem sortedT_any {R : Value → Option (DataW Unit × List MemPlace)} (fa : Nat → Nat) (l : D.NM) (k b : Nat) (w : World) (hk : k < w.heap.size) (hm : w.cell? ⟨k, 0, none⟩ = some (.map (some b))) (h : w.ownsMap Tryz.prog 9 R b l.length (D.datum fa l)) (hu : D.Up l) (hl : l.length ≤ 1073741824) :
    Calls Tryz.prog 46 #[.func (.func 83) #[] #[.pointer (some ⟨k, 0, none⟩)]] w (RetRow w 9 1 (l.map (·.1)).length (scells (l.map (·.1)))) := by
  have hsz : Maps.size (D.datum fa l) = l.length := by
    unfold D.datum
    rw [Maps.size_eq]
    simp
  have hseq : SeqGives Fence.wide 2 Tryz.prog 83 #[.pointer (some ⟨k, 0, none⟩)] encStr (fun ss => ss.Perm (strKeys (D.datum fa l))) (Maps.size (D.datum fa l)) w :=
    AnyZ.keys_gives (ρ := Tryz.renKT) { Tryz.keysT with } Fence.wide 2 trivial rfl (by omega) k b l.length (D.datum fa l) w hk hm h
  have cS := AnyZ.sorted_in Tryz.sortedL Fence.wide 5 trivial trivial trivial trivial rfl (by omega) (sorts_in _) (enters_of Tryz.func82 (by kernel_rfl) rfl) 83 #[.pointer (some ⟨k, 0, none⟩)] trivial (enters_of Tryz.func83 (by kernel_rfl) rfl) _ _ (by rw [hsz]; simp only [maxLen]; omega) (by rw [hsz]; omega) w hseq
  refine ((callsIn_wide (n := 5)).1 cS).mono ?_
  rintro e w' ⟨v, ss, rfl, hS, hrow, hnil, hb⟩
  exact names_slice ((D.keys_sorted hu hS).trans (by rw [List.map_map]; rfl)) (perm_len hS) hrow hb
theorem cloneM_any (M : DM) (l : D.NM) (b : Nat) (w : World) (h : w.ownsMap Tryz.prog 9 D.ptrR b l.length (D.datum M.fa l)) :
    Calls Tryz.prog 29 #[.map (some b)] w (fun e w' => e = .returned (.map (some w.heap.size)) ∧ w'.ownsMap Tryz.prog 9 D.ptrR w.heap.size l.length (D.datum M.fa l) ∧ Below w.heap.size w w' ∧ w.heap.size < w'.heap.size) :=
  (AnyW.maps_Clone_owns Tryz.cloneD 9 D.ptrR b l.length (D.datum M.fa l) w h).mono fun _ _ ⟨h1, h2, _, h4⟩ => ⟨h1, h2, h4, h2.lt⟩
end Go.Proofs.YtkempjcphpnocaaGreatDoor
