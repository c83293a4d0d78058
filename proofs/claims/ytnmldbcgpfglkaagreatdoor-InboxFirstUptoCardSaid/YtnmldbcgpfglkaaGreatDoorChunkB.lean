/- The walk of the decoder's readSize. -/
import Derived.Test.YtnmldbcgpfglkaaGreatDoorChunkA
namespace Go.Proofs.YtnmldbcgpfglkaaGreatDoor
open Go.RowKit

namespace C
theorem eol_get {l : List UInt8} (h : eolAt l < l.length) : l[eolAt l]? = some 10 := by
  have h1 := P.upto_from lf l
  have h2 := P.upto_len lf l
  cases h3 : P.from_ lf l with
  | nil => rw [h3] at h2; simp only [List.length_nil] at h2; unfold eolAt at h; omega
  | cons x r =>
    have h5 := P.from_head h3
    have hx : x = 10 := by unfold lf at h5; simpa using h5
    rw [h3, hx] at h1
    unfold eolAt
    generalize P.upto lf l = u at *
    rw [← h1, List.getElem?_append_right (Nat.le_refl _), Nat.sub_self]
    rfl
theorem line_suffix {l : List UInt8} {k : Nat} (hk : k < l.length) (h10 : l[k]? = some 10) : Lib.hasSuffix (l.take (k + 1)) P.crlf = decide (k ≠ 0 ∧ l.getD (k - 1) 0 = 13) := by
  unfold Lib.hasSuffix
  rw [Bool.eq_iff_iff, List.isSuffixOf_iff_suffix, decide_eq_true_iff, List.suffix_iff_eq_drop]
  have hg : l[k] = 10 := by
    rw [List.getElem?_eq_getElem hk] at h10
    injection h10
  cases k with
  | zero =>
    have e : l.take 1 = [10] := by
      rw [← List.take_append_getElem (i := 0) hk, hg]
      rfl
    rw [e]
    exact ⟨fun h => absurd h (by decide), fun h => absurd rfl h.1⟩
  | succ j =>
    have hj : j < l.length := by omega
    have e : l.take (j + 1 + 1) = l.take j ++ [l[j], 10] := by
      rw [← List.take_append_getElem (i := j + 1) hk, ← List.take_append_getElem (i := j) hj, hg, List.append_assoc]
      rfl
    have hl : (l.take (j + 1 + 1)).length - P.crlf.length = (l.take j).length := by
      rw [List.length_take, List.length_take]
      show min (j + 1 + 1) l.length - 2 = _
      omega
    rw [hl, e, List.drop_left, Nat.add_sub_cancel]
    have hd : l.getD j 0 = l[j] := by simp [List.getD, hj]
    rw [hd]
    constructor
    · intro h
      injection h with h1 _
      exact ⟨by omega, h1.symm⟩
    · rintro ⟨_, h⟩
      rw [h]
      rfl
end C
/-- The decoder: what is left, its stage, its size, its data. -/
structure St (w u : World) (st sz : Int) (A : Option Addr) (n c : Nat) (l : List UInt8) (Da : Option Addr) (dc : Nat) (data : List UInt8) (tv : Value) : Prop where
  blk : Blk u w.heap.size #[.slice A n c, .int .i64 st, .int .i64 sz, .slice Da data.length dc, tv] 64
  low : Below w.heap.size w u
  rd : Rd w A n 1 (bcells l)
  cap : n ≤ c
  nil : A = none → n = 0 ∧ c = 0
  plain : ∀ a, A = some a → a.spot = none ∨ c = 0
  row : Row u (w.heap.size + 1) 5 1 Da data.length dc (bcells data)
theorem plain_add {A : Option Addr} {c k : Nat} (h : ∀ a, A = some a → a.spot = none ∨ c = 0) : ∀ a, addA A c k = some a → a.spot = none ∨ c - k = 0 := by
  intro a ha
  unfold addA at ha
  split at ha
  · exact .inr (by omega)
  · cases A with
    | none => cases ha
    | some b =>
      obtain rfl : b.add k = a := by simpa using ha
      rcases h b rfl with h1 | h1
      · left
        obtain ⟨b1, o, p⟩ := b
        subst h1
        unfold Addr.add
        split <;> simp_all
      · right; omega
theorem nil_add {A : Option Addr} {n c k : Nat} (h : A = none → n = 0 ∧ c = 0) : addA A c k = none → n - k = 0 ∧ c - k = 0 := by
  intro ha
  unfold addA at ha
  split at ha
  · have := h ha; omega
  · cases A with
    | none => have := h rfl; omega
    | some b => cases ha
section
variable {w u : World} {st sz : Int} {A : Option Addr} {n c : Nat} {l : List UInt8} {Da : Option Addr} {dc : Nat} {data : List UInt8} {tv : Value}
theorem St.cells (h : St w u st sz A n c l Da dc data tv) : u.cell? ⟨w.heap.size, 0, none⟩ = some (.slice A n c) ∧ u.cell? ⟨w.heap.size, 1, none⟩ = some (.int .i64 st) ∧ u.cell? ⟨w.heap.size, 2, none⟩ = some (.int .i64 sz) ∧ u.cell? ⟨w.heap.size, 3, none⟩ = some (.slice Da data.length dc) ∧ u.cell? ⟨w.heap.size, 4, none⟩ = some tv := ⟨h.blk.cell 0 rfl, h.blk.cell 1 rfl, h.blk.cell 2 rfl, h.blk.cell 3 rfl, h.blk.cell 4 rfl⟩
theorem St.frees (h : St w u st sz A n c l Da dc data tv) : u.frozen? ⟨w.heap.size, 0, none⟩ = false ∧ u.frozen? ⟨w.heap.size, 1, none⟩ = false ∧ u.frozen? ⟨w.heap.size, 2, none⟩ = false ∧ u.frozen? ⟨w.heap.size, 3, none⟩ = false ∧ u.frozen? ⟨w.heap.size, 4, none⟩ = false := ⟨h.blk.free 0, h.blk.free 1, h.blk.free 2, h.blk.free 3, h.blk.free 4⟩
theorem St.below {v : World} (h : St w u st sz A n c l Da dc data tv) (hb : Below u.heap.size u v) : St w v st sz A n c l Da dc data tv :=
  ⟨h.blk.below hb, below_then h.low.size h.low hb, h.rd, h.cap, h.nil, h.plain, h.row.below hb⟩
theorem St.alloc (h : St w u st sz A n c l Da dc data tv) (o : Obj) : St w (u.alloc o) st sz A n c l Da dc data tv := h.below ((Below.refl _ _).alloc (Nat.le_refl _) _)
theorem St.rdu (h : St w u st sz A n c l Da dc data tv) : Rd u A n 1 (bcells l) := h.rd.below h.low
theorem St.ne8 : 64 ≠ 5 := by decide
theorem St.stage (h : St w u st sz A n c l Da dc data tv) (s : Int) : St w (u.setCell ⟨w.heap.size, 1, none⟩ (.int .i64 s)) s sz A n c l Da dc data tv :=
  ⟨h.blk.set 1 (.int .i64 s), below_set h.low (Nat.le_refl _) _ _, h.rd, h.cap, h.nil, h.plain, h.row.farT h.blk St.ne8 _ _⟩
theorem St.sized (h : St w u st sz A n c l Da dc data tv) (s : Int) : St w (u.setCell ⟨w.heap.size, 2, none⟩ (.int .i64 s)) st s A n c l Da dc data tv :=
  ⟨h.blk.set 2 (.int .i64 s), below_set h.low (Nat.le_refl _) _ _, h.rd, h.cap, h.nil, h.plain, h.row.farT h.blk St.ne8 _ _⟩
theorem St.tails (h : St w u st sz A n c l Da dc data tv) (v : Value) : St w (u.setCell ⟨w.heap.size, 4, none⟩ v) st sz A n c l Da dc data v :=
  ⟨h.blk.set 4 v, below_set h.low (Nat.le_refl _) _ _, h.rd, h.cap, h.nil, h.plain, h.row.farT h.blk St.ne8 _ _⟩
theorem St.rest (h : St w u st sz A n c l Da dc data tv) (k : Nat) (hk : k ≤ n) : St w (u.setCell ⟨w.heap.size, 0, none⟩ (.slice (addA A c k) (n - k) (c - k))) st sz (addA A c k) (n - k) (c - k) (l.drop k) Da dc data tv :=
  ⟨h.blk.set 0 (.slice (addA A c k) (n - k) (c - k)), below_set h.low (Nat.le_refl _) _ _, h.rd.fromA h.cap hk, by have := h.cap; omega, nil_add h.nil, plain_add h.plain, h.row.farT h.blk St.ne8 _ _⟩
end
theorem addA_end {A : Option Addr} {c : Nat} : addA A c c = A := if_pos rfl
theorem addA_in {b o c k : Nat} (h : k ≠ c) : addA (some ⟨b, o, none⟩) c k = some ⟨b, o + k, none⟩ := by
  unfold addA
  rw [if_neg (by omega)]
  show some ((⟨b, o, none⟩ : Addr).add k) = _
  unfold Addr.add
  split <;> simp_all
theorem C.sizeOf_lt (l : List UInt8) : C.sizeOf l < 4294967296 := by
  unfold C.sizeOf
  split
  · omega
  · rename_i h
    have h8 : (C.numOf l).length ≤ 8 := by
      rcases Nat.lt_or_ge 8 (C.numOf l).length with h1 | h1
      · exact absurd (.inr (.inl h1)) h
      · exact h1
    have ha : (C.numOf l).all C.isHex = true := by
      cases h2 : (C.numOf l).all C.isHex
      · exact absurd (.inr (.inr (.inl h2))) h
      · rfl
    have g := (C.val_bound _ ha).2
    have : (16 : Int) ^ (C.numOf l).length ≤ 4294967296 := by
      generalize (C.numOf l).length = k at h8
      rcases (by omega : k = 0 ∨ k = 1 ∨ k = 2 ∨ k = 3 ∨ k = 4 ∨ k = 5 ∨ k = 6 ∨ k = 7 ∨ k = 8) with h | h | h | h | h | h | h | h | h <;> subst h <;> decide
    omega
/-- What readSize answers. -/
def RetRS (w : World) (A : Option Addr) (n c : Nat) (l : List UInt8) (Da : Option Addr) (dc : Nat) (data : List UInt8) (tv : Value) (e : Ending) (w' : World) : Prop :=
  ((C.lineE l ≠ 0 ∨ C.lineN l = 0) ∧ e = .returned (.tuple #[.bool false, .int .i64 (C.lineE l)]) ∧ Below w.heap.size w w') ∨
  (¬ (C.lineE l ≠ 0 ∨ C.lineN l = 0) ∧ 65536 < data.length + C.lineS l ∧ e = .returned (.tuple #[.bool false, .int .i64 71]) ∧ Below w.heap.size w w') ∨
  (¬ (C.lineE l ≠ 0 ∨ C.lineN l = 0) ∧ ¬ 65536 < data.length + C.lineS l ∧ e = .returned (.tuple #[.bool true, .int .i64 0]) ∧
    St w w' (if C.lineS l = 0 then 2 else 1) (C.lineS l) (addA A c (C.lineN l)) (n - C.lineN l) (c - C.lineN l) (l.drop (C.lineN l)) Da dc data tv)
set_option maxHeartbeats 4000000 in
set_option maxRecDepth 100000 in
theorem readSize_any (w u : World) (sz : Int) (A : Option Addr) (n c : Nat) (l : List UInt8) (Da : Option Addr) (dc : Nat) (data : List UInt8) (tv : Value) (hS : St w u 0 sz A n c l Da dc data tv) (hd : data.length ≤ 65536) (hn : n ≤ 1073741824) (ht : LibOk w) (he : ErrOk w) :
    Calls Tryz.prog 78 #[.pointer (some ⟨w.heap.size, 0, none⟩)] u (RetRS w A n c l Da dc data tv) := by
  have hll := rd_len hS.rd
  have HS := Lib.hid hS
  have HLT := Lib.hid (fun (v : World) (hv : Below w.heap.size w v) => ht.below hv)
  have HET := Lib.hid (fun (v : World) (hv : Below w.heap.size w v) => he.below hv)
  have HIX : Hid (Calls Tryz.prog 120 #[.slice A n c, .int .u8 10] u (RetP u (.int .i64 (if C.eolAt l < l.length then (C.eolAt l : Int) else -1)))) := Lib.hid (by
    have h := bindexByte_any A n c 10 l u hS.nil (hS.rd.below hS.low)
    rw [indexByte_upto] at h
    exact h)
  clear ht he
  obtain ⟨k, hk⟩ : ∃ k, k = C.eolAt l := ⟨_, rfl⟩
  rw [← hk, hll] at HIX
  have hcap := hS.cap
  obtain ⟨x0, x1, x2, x3, x4⟩ : u.cell? ⟨w.heap.size, 0, none⟩ = some (.slice A n c) ∧ u.cell? ⟨w.heap.size, 1, none⟩ = some (.int .i64 0) ∧ u.cell? ⟨w.heap.size, 2, none⟩ = some (.int .i64 sz) ∧ u.cell? ⟨w.heap.size, 3, none⟩ = some (.slice Da data.length dc) ∧ u.cell? ⟨w.heap.size, 4, none⟩ = some tv := ⟨hS.blk.cell 0 rfl, hS.blk.cell 1 rfl, hS.blk.cell 2 rfl, hS.blk.cell 3 rfl, hS.blk.cell 4 rfl⟩
  go_enter Tryz.func78, Tryz.ntmps78
  by_cases hkn : k < n
  · rw [if_pos hkn] at HIX
    have hkl : C.eolAt l < l.length := by omega
    have HBAD : Hid (C.lineBad l → C.lineE l = 70 ∧ C.lineN l = 0) := Lib.hid fun h => by
      unfold C.lineE C.lineN
      rw [if_pos hkl, if_pos h, if_neg (fun h2 => h2.2 h)]
      exact ⟨rfl, rfl⟩
    have HGOOD : Hid (¬ C.lineBad l → C.lineE l = 0 ∧ C.lineN l = k + 1 ∧ C.lineS l = (C.sizeOf (l.take (k - 1))).toNat) := Lib.hid fun h => by
      unfold C.lineE C.lineN C.lineS
      rw [if_pos hkl, if_neg h, if_pos ⟨hkl, h⟩, if_pos ⟨hkl, h⟩, hk]
      exact ⟨rfl, rfl, rfl⟩
    have hk0 : ¬ (k : Int) < 0 := by omega
    by_cases h2 : 200 ≤ k
    · have HE := Lib.hid (HBAD.out (.inl (by omega)))
      have h2i : (200 : Int) ≤ k := by omega
      clear HBAD HGOOD hkl hk
      go_wp2_with (refine HIX.out.mono ?_; rintro e w1 ⟨rfl, rfl⟩)
      go_ret2
      exact .inl ⟨.inr HE.out.2, by rw [HE.out.1]; rfl, HS.out.low⟩
    · obtain ⟨b, o, rfl, _, _⟩ := hS.rd.2 (by omega)
      have h2i : ¬ (200 : Int) ≤ k := by omega
      have hkc : (k : Int) + 1 ≤ c := by omega
      have hcc := Lib.run_convert_bytes_const (P := Tryz.prog) u 22 5 #[.int .u8 13, .int .u8 10] 2 2 Tryz.underlying22 Tryz.underlying5
      have HB2 := Lib.hid ((Below.refl u.heap.size u).alloc (Nat.le_refl _) (.cells #[.int .u8 13, .int .u8 10] 5 (2, 3)))
      have HK2 := Lib.hid (hS.blk.below HB2.out)
      have HL2 := Lib.hid (below_then hS.low.size hS.low HB2.out)
      have HR2 := Lib.hid (hS.row.below HB2.out)
      have hsx := bsuffix_any (some ⟨b, o, none⟩) (some ⟨u.heap.size, 0, none⟩) (k + 1) c 2 2 (l.take (k + 1)) P.crlf (u.alloc (.cells #[.int .u8 13, .int .u8 10] 5 (2, 3))) (by omega) (by omega) ((hS.rd.upto (by omega)).below HL2.out) (Rd.newRowM u 5 #[.int .u8 13, .int .u8 10] (2, 3) 2 1 rfl)
      rw [C.line_suffix (by omega) (by rw [hk]; exact C.eol_get hkl)] at hsx
      have HSX := Lib.hid hsx
      clear hsx
      have HKK := Lib.hid hk
      clear hk
      go_wp2_with fail
      refine HIX.out.mono ?_
      rintro e w1 ⟨rfl, rfl⟩
      go_wp2_with fail
      clear hcc
      generalize u.alloc (.cells #[.int .u8 13, .int .u8 10] 5 (2, 3)) = u1 at *
      refine HSX.out.mono ?_
      rintro e w1 ⟨rfl, rfl⟩
      clear HSX HIX x0 x1 x2 x3 x4
      obtain ⟨x0, x1, x2, x3, x4⟩ : u1.cell? ⟨w.heap.size, 0, none⟩ = some (.slice (some ⟨b, o, none⟩) n c) ∧ u1.cell? ⟨w.heap.size, 1, none⟩ = some (.int .i64 0) ∧ u1.cell? ⟨w.heap.size, 2, none⟩ = some (.int .i64 sz) ∧ u1.cell? ⟨w.heap.size, 3, none⟩ = some (.slice Da data.length dc) ∧ u1.cell? ⟨w.heap.size, 4, none⟩ = some tv := ⟨HK2.out.cell 0 rfl, HK2.out.cell 1 rfl, HK2.out.cell 2 rfl, HK2.out.cell 3 rfl, HK2.out.cell 4 rfl⟩
      have hk := HKK.out
      by_cases hs : k ≠ 0 ∧ l.getD (k - 1) 0 = 13
      · rw [decide_eq_true hs]
        obtain ⟨j, rfl⟩ : ∃ j, k = j + 1 := ⟨k - 1, by omega⟩
        have HZ := Lib.hid (csize_any (some ⟨b, o, none⟩) j c (l.take j) u1 (by omega) (by omega) (fun h => by cases h) ((hS.rd.upto (by omega)).below HL2.out) (HLT.out u1 HL2.out) (HET.out u1 HL2.out))
        have hjc : (j : Int) ≤ c := by omega
        have hb3 : C.sizeOf (l.take j) < 0 → C.lineBad l := fun h => .inr (.inr (.inr (by rw [← hk]; exact h)))
        have hb4 : ¬ C.sizeOf (l.take j) < 0 → ¬ C.lineBad l := fun h hb => by
          rcases hb with hb | hb | hb | hb
          · omega
          · omega
          · rw [← hk] at hb; exact hb hs.2
          · rw [← hk] at hb; exact h hb
        have HBAD2 := Lib.hid (fun h => HBAD.out (hb3 h))
        have HGOOD2 : Hid (0 ≤ C.sizeOf (l.take j) → C.lineE l = 0 ∧ C.lineN l = j + 2 ∧ C.lineS l = (C.sizeOf (l.take j)).toNat) := Lib.hid (fun h => HGOOD.out (hb4 (by omega)))
        clear hb3 hb4 HBAD HGOOD hs hkl hk HKK hS
        go_wp2_with fail
        refine HZ.out.mono ?_
        rintro e w2 ⟨v, rfl, hv, hb2⟩
        have HS2 := Lib.hid ((HS.out.below HB2.out).below hb2)
        have HVV := Lib.hid hv
        clear hv hb2 HZ HK2 HL2 HR2 HS HB2 x0 x1 x2 x3 x4
        by_cases hz : C.sizeOf (l.take j) < 0
        · have HE := Lib.hid (HBAD2.out hz)
          rw [decide_eq_false (by omega)]
          clear HBAD2 HGOOD2 hz
          go_wp2
          go_ret2
          exact .inl ⟨.inr HE.out.2, by rw [HE.out.1]; rfl, HS2.out.low⟩
        · have HE := Lib.hid (HGOOD2.out (by omega))
          obtain ⟨z, hzz⟩ : ∃ z : Nat, C.sizeOf (l.take j) = z := ⟨(C.sizeOf (l.take j)).toNat, by omega⟩
          have hz32 : (z : Int) < 4294967296 := by rw [← hzz]; exact C.sizeOf_lt _
          have hvz := HVV.out (by omega)
          rw [decide_eq_true (by omega)]
          rw [hzz] at hvz HE
          have hv0 : 0 ≤ v := by omega
          have hv32 : v < 4294967296 := by omega
          have HVZ := Lib.hid hvz
          have HE2 : Hid (C.lineE l = 0 ∧ C.lineN l = j + 2 ∧ C.lineS l = z) := Lib.hid ⟨HE.out.1, HE.out.2.1, by rw [HE.out.2.2, Int.toNat_natCast]⟩
          clear HBAD2 HGOOD2 hz HE hzz HVV hvz hz32
          have HS3 := Lib.hid (HS2.out.rest (j + 2) (by omega))
          obtain ⟨x0, x1, x2, x3, x4⟩ := HS2.out.cells
          obtain ⟨f0, f1, f2, f3, f4⟩ := HS2.out.frees
          have HS4 : Hid (∃ X Y, X = addA (some ⟨b, o, none⟩) c (j + 2) ∧ Y = n - (j + 2)) := Lib.hid ⟨_, _, rfl, rfl⟩
          clear HS4
          have hj2 : ((j + 1 : Nat) : Int) + 1 = ((j + 2 : Nat) : Int) := by omega
          have hnle : ((j + 2 : Nat) : Int) ≤ n := by omega
          have hcle : ((j + 2 : Nat) : Int) ≤ c := by omega
          have HJC : Hid (C.lineN l = j + 2) := Lib.hid HE2.out.2.1
          have HRET : Hid (∀ w4 : World, ∀ st' : Int, st' = (if z = 0 then 2 else 1) → ¬ 65536 < data.length + z → St w w4 st' v (addA (some ⟨b, o, none⟩) c (j + 2)) (n - (j + 2)) (c - (j + 2)) (l.drop (j + 2)) Da dc data tv → RetRS w (some ⟨b, o, none⟩) n c l Da dc data tv (.returned (.tuple #[.bool true, .int .i64 0])) w4) := Lib.hid (by
            intro w4 st' hst hle hs4
            obtain ⟨g1, g2, g3⟩ := HE2.out
            refine .inr (.inr ⟨fun h => h.elim (fun h => h g1) (fun h => by omega), by omega, rfl, ?_⟩)
            rw [g2, g3, ← hst, ← HVZ.out]
            exact hs4)
          have HRET2 : Hid (∀ w4 : World, 65536 < data.length + z → Below w.heap.size w w4 → RetRS w (some ⟨b, o, none⟩) n c l Da dc data tv (.returned (.tuple #[.bool false, .int .i64 71])) w4) := Lib.hid (by
            intro w4 hle hs4
            obtain ⟨g1, g2, g3⟩ := HE2.out
            exact .inr (.inl ⟨fun h => h.elim (fun h => h g1) (fun h => by omega), by omega, rfl, hs4⟩))
          clear HE2
          by_cases hjc : j + 2 = c
          · have hji : ((j + 2 : Nat) : Int) = c := by omega
            have e1 : addA (some ⟨b, o, none⟩) c (j + 2) = some ⟨b, o, none⟩ := by rw [hjc]; exact addA_end
            have e2 : n - (j + 2) = 0 := by omega
            have e3 : c - (j + 2) = 0 := by omega
            rw [e1, e2, e3] at HS3 HRET
            clear e1 e2 e3
            go_upto_region 10 with fail
            generalize w2.setCell ⟨w.heap.size, 0, none⟩ (.slice (some ⟨b, o, none⟩) 0 0) = w3 at *
            clear x0 x1 x2 x3 x4 f0 f1 f2 f3 f4
            have HS5 := Lib.hid ((HS3.out.sized v).stage 1)
            obtain ⟨x0, x1, x2, x3, x4⟩ := HS3.out.cells
            obtain ⟨f0, f1, f2, f3, f4⟩ := HS3.out.frees
            go_upto_region 11 with fail
            generalize (w3.setCell ⟨w.heap.size, 2, none⟩ (.int .i64 v)).setCell ⟨w.heap.size, 1, none⟩ (.int .i64 1) = w5 at *
            clear x0 x1 x2 x3 x4 f0 f1 f2 f3 f4
            obtain ⟨x0, x1, x2, x3, x4⟩ := HS5.out.cells
            obtain ⟨f0, f1, f2, f3, f4⟩ := HS5.out.frees
            by_cases hv00 : v = 0
            · have hz0 : z = 0 := by have := HVZ.out; omega
              clear HVZ
              subst hv00
              have HS6 := Lib.hid (HS5.out.stage 2)
              go_upto_region 13 with fail
              generalize w5.setCell ⟨w.heap.size, 1, none⟩ (.int .i64 2) = w6 at *
              clear x0 x1 x2 x3 x4 f0 f1 f2 f3 f4
              obtain ⟨x0, x1, x2, x3, x4⟩ := HS6.out.cells
              have hov : ¬ (65536 : Int) < (data.length : Int) := by omega
              go_wp2
              go_ret2
              exact HRET.out w6 2 (if_pos hz0).symm (by omega) HS6.out
            · have hz0 : ¬ z = 0 := by have := HVZ.out; omega
              by_cases hov : (65536 : Int) < (data.length : Int) + v
              · have HOV : Hid (65536 < data.length + z) := Lib.hid (by have := HVZ.out; omega)
                clear HVZ hz0
                go_wp2
                go_ret2
                exact HRET2.out w5 HOV.out HS5.out.low
              · have HOV : Hid (¬ 65536 < data.length + z) := Lib.hid (by have := HVZ.out; omega)
                have HZ0 := Lib.hid hz0
                clear HVZ hz0
                go_wp2
                go_ret2
                exact HRET.out w5 1 (if_neg HZ0.out).symm HOV.out HS5.out
          · have hji : ((j + 2 : Nat) : Int) < c := by omega
            rw [addA_in hjc] at HS3 HRET
            go_upto_region 10 with fail
            generalize w2.setCell ⟨w.heap.size, 0, none⟩ (.slice (some ⟨b, o + (j + 2), none⟩) (n - (j + 2)) (c - (j + 2))) = w3 at *
            clear x0 x1 x2 x3 x4 f0 f1 f2 f3 f4
            have HS5 := Lib.hid ((HS3.out.sized v).stage 1)
            obtain ⟨x0, x1, x2, x3, x4⟩ := HS3.out.cells
            obtain ⟨f0, f1, f2, f3, f4⟩ := HS3.out.frees
            go_upto_region 11 with fail
            generalize (w3.setCell ⟨w.heap.size, 2, none⟩ (.int .i64 v)).setCell ⟨w.heap.size, 1, none⟩ (.int .i64 1) = w5 at *
            clear x0 x1 x2 x3 x4 f0 f1 f2 f3 f4
            obtain ⟨x0, x1, x2, x3, x4⟩ := HS5.out.cells
            obtain ⟨f0, f1, f2, f3, f4⟩ := HS5.out.frees
            by_cases hv00 : v = 0
            · have hz0 : z = 0 := by have := HVZ.out; omega
              clear HVZ
              subst hv00
              have HS6 := Lib.hid (HS5.out.stage 2)
              go_upto_region 13 with fail
              generalize w5.setCell ⟨w.heap.size, 1, none⟩ (.int .i64 2) = w6 at *
              clear x0 x1 x2 x3 x4 f0 f1 f2 f3 f4
              obtain ⟨x0, x1, x2, x3, x4⟩ := HS6.out.cells
              have hov : ¬ (65536 : Int) < (data.length : Int) := by omega
              go_wp2
              go_ret2
              exact HRET.out w6 2 (if_pos hz0).symm (by omega) HS6.out
            · have hz0 : ¬ z = 0 := by have := HVZ.out; omega
              by_cases hov : (65536 : Int) < (data.length : Int) + v
              · have HOV : Hid (65536 < data.length + z) := Lib.hid (by have := HVZ.out; omega)
                clear HVZ hz0
                go_wp2
                go_ret2
                exact HRET2.out w5 HOV.out HS5.out.low
              · have HOV : Hid (¬ 65536 < data.length + z) := Lib.hid (by have := HVZ.out; omega)
                have HZ0 := Lib.hid hz0
                clear HVZ hz0
                go_wp2
                go_ret2
                exact HRET.out w5 1 (if_neg HZ0.out).symm HOV.out HS5.out
      · rw [decide_eq_false hs]
        have HE := Lib.hid (HBAD.out (by
          by_cases h0 : k = 0
          · exact .inr (.inl (by omega))
          · exact .inr (.inr (.inl (fun h => hs ⟨h0, by rw [hk]; exact h⟩)))))
        clear HBAD HGOOD hs hkl hk HKK
        go_wp2
        go_ret2
        exact .inl ⟨.inr HE.out.2, by rw [HE.out.1]; rfl, HL2.out⟩
  · rw [if_neg hkn] at HIX
    have hE : C.lineE l = if 200 ≤ n then 70 else 0 := by
      unfold C.lineE
      rw [if_neg (by rw [← hk, hll]; exact hkn), hll]
    have hN : C.lineN l = 0 := by
      unfold C.lineN
      rw [if_neg (by rw [← hk, hll]; exact fun h => hkn h.1)]
    have HE := Lib.hid hE
    have HN := Lib.hid hN
    clear hE hN hk hkn
    by_cases h2 : 200 ≤ n
    · have HE2 := Lib.hid (HE.out.trans (if_pos h2))
      have h2i : ¬ (n : Int) < 200 := by omega
      go_wp2_with (refine HIX.out.mono ?_; rintro e w1 ⟨rfl, rfl⟩)
      go_ret2
      exact .inl ⟨.inr HN.out, by rw [HE2.out]; rfl, HS.out.low⟩
    · have HE2 := Lib.hid (HE.out.trans (if_neg h2))
      have h2i : (n : Int) < 200 := by omega
      go_wp2_with (refine HIX.out.mono ?_; rintro e w1 ⟨rfl, rfl⟩)
      go_ret2
      exact .inl ⟨.inr HN.out, by rw [HE2.out]; rfl, HS.out.low⟩
end Go.Proofs.YtnmldbcgpfglkaaGreatDoor
