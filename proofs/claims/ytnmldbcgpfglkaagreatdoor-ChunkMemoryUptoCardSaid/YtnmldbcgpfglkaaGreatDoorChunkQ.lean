/- What chunk.Encode computes, as plain functions on lists of bytes; a body that is coded is decoded as it was, whatever stands behind it, and not ahead of its last byte. No program here. -/
import Derived.Test.YtnmldbcgpfglkaaGreatDoorChunkP
import Derived.Test.YtnmldbcgpfglkaaGreatDoorRound
namespace Go.Proofs.YtnmldbcgpfglkaaGreatDoor
namespace C
open T (Bs)
def dig16 (k : Nat) : UInt8 := if k < 10 then UInt8.ofNat (48 + k) else UInt8.ofNat (87 + k)
/-- A number's hexadecimal digits; of 0: none. -/
def hexT (n : Nat) : Bs := if n = 0 then [] else hexT (n / 16) ++ [dig16 (n % 16)]
termination_by n
decreasing_by omega
theorem hexT_zero : hexT 0 = [] := by rw [hexT.eq_def]; rfl
theorem hexT_pos {n : Nat} (h : n ≠ 0) : hexT n = hexT (n / 16) ++ [dig16 (n % 16)] := by
  rw [hexT.eq_def, if_neg h]
theorem dig16_facts : ∀ k : Fin 16, isHex (dig16 k.1) = true ∧ hex (dig16 k.1) = (k.1 : Int) := by decide
theorem hexT_facts : ∀ (q n : Nat), n < 16 ^ q → val (hexT n) = (n : Int) ∧ (hexT n).all isHex = true ∧ (hexT n).length ≤ q
  | 0, n, h => by
    have : n = 0 := by simp at h; exact h
    subst this
    rw [hexT_zero]
    exact ⟨rfl, rfl, Nat.le_refl _⟩
  | q + 1, n, h => by
    by_cases h0 : n = 0
    · subst h0
      rw [hexT_zero]
      exact ⟨rfl, rfl, Nat.zero_le _⟩
    · obtain ⟨h1, h2, h3⟩ := hexT_facts q (n / 16) (by rw [Nat.pow_succ] at h; omega)
      obtain ⟨g1, g2⟩ := dig16_facts ⟨n % 16, Nat.mod_lt _ (by decide)⟩
      rw [hexT_pos h0]
      refine ⟨?_, ?_, ?_⟩
      · unfold val at h1 ⊢
        rw [List.foldl_append, h1]
        simp only [List.foldl_cons, List.foldl_nil]
        simp only at g2
        rw [g2]
        omega
      · rw [List.all_append, h2]
        simpa using g1
      · rw [List.length_append]
        simp only [List.length_cons, List.length_nil]
        omega
theorem hexT_ne {n : Nat} (h : n ≠ 0) : hexT n ≠ [] := by
  rw [hexT_pos h]
  simp

/-- The chunks of some data. -/
def encD (size : Nat) (data : Bs) : Bs := if _h : data = [] ∨ size = 0 then [] else hexT (min size data.length) ++ [13, 10] ++ data.take size ++ [13, 10] ++ encD size (data.drop size)
termination_by data.length
decreasing_by
  rw [List.length_drop]
  have : data.length ≠ 0 := fun h => _h (.inl (List.eq_nil_of_length_eq_zero h))
  omega
theorem encD_nil (size : Nat) : encD size [] = [] := by rw [encD.eq_def, dif_pos (.inl rfl)]
theorem encD_step {size : Nat} {data : Bs} (h : data ≠ []) (hs : size ≠ 0) : encD size data = hexT (min size data.length) ++ [13, 10] ++ data.take size ++ [13, 10] ++ encD size (data.drop size) := by
  rw [encD.eq_def, dif_neg (fun k => k.elim h hs)]
def encE (data : Bs) (size : Int) (fs : List FD) : Int := if size < 1 ∨ 65536 < size then 70 else if 65536 < data.length then 71 else if F.printE fs ≠ 0 then F.printE fs else if 8192 < (F.lines fs).length + 2 then 51 else 0
def encW (data : Bs) (size : Int) (fs : List FD) : Bs := encD size.toNat data ++ ([48, 13, 10] ++ (F.lines fs ++ [13, 10]))
def encB (data : Bs) (size : Int) (fs : List FD) : Bs := if encE data size fs = 0 then encW data size fs else []

/-! ### Read again -/
theorem hex_not {c : UInt8} (h : isHex c = true) : lf c = false ∧ semi c = false := by
  constructor
  · cases h1 : lf c
    · rfl
    · unfold lf at h1
      rw [beq_iff_eq] at h1
      rw [h1] at h
      exact absurd h (by decide)
  · cases h1 : semi c
    · rfl
    · unfold semi at h1
      rw [beq_iff_eq] at h1
      rw [h1] at h
      exact absurd h (by decide)
/-- A size line of digits alone. -/
theorem line_of (num r : Bs) (h : num.all isHex = true) (h0 : num ≠ []) (h8 : num.length ≤ 8) (hv : 0 ≤ val num) : lineE (num ++ 13 :: 10 :: r) = 0 ∧ lineN (num ++ 13 :: 10 :: r) = num.length + 2 ∧ lineS (num ++ 13 :: 10 :: r) = (val num).toNat := by
  have hall : ∀ y ∈ num, isHex y = true := by rwa [List.all_eq_true] at h
  have hu := P.upto_app lf (num ++ [13]) 10 r (fun y hy => by
    rcases List.mem_append.1 hy with hy | hy
    · exact (hex_not (hall y hy)).1
    · simp only [List.mem_cons, List.mem_nil_iff, or_false] at hy
      subst hy
      decide) (by decide)
  have e : (num ++ [13]) ++ 10 :: r = num ++ 13 :: 10 :: r := by simp
  rw [e] at hu
  have he : eolAt (num ++ 13 :: 10 :: r) = num.length + 1 := by
    unfold eolAt
    rw [hu.1, List.length_append]
    rfl
  have hsz : sizeOf num = val num := by
    have h1 := P.upto_none semi num (fun y hy => (hex_not (hall y hy)).2)
    unfold sizeOf numOf extOf
    rw [h1.1, h1.2, if_neg]
    rintro (k | k | k | k)
    · exact h0 k
    · omega
    · rw [h] at k; cases k
    · exact absurd k (by decide)
  have htk : (num ++ 13 :: 10 :: r).take (num.length + 1 - 1) = num := by
    rw [Nat.add_sub_cancel]
    exact List.take_left' rfl
  have hg : (num ++ 13 :: 10 :: r).getD (num.length + 1 - 1) 0 = 13 := by
    rw [Nat.add_sub_cancel, List.getD_eq_getElem?_getD, List.getElem?_append_right (Nat.le_refl _), Nat.sub_self]
    rfl
  have hlt : eolAt (num ++ 13 :: 10 :: r) < (num ++ 13 :: 10 :: r).length := by
    rw [he, List.length_append]
    simp only [List.length_cons]
    omega
  have hb : ¬ lineBad (num ++ 13 :: 10 :: r) := by
    unfold lineBad
    rw [he, htk, hg, hsz]
    rintro (k | k | k | k)
    · omega
    · omega
    · exact k rfl
    · omega
  refine ⟨?_, ?_, ?_⟩
  · unfold lineE
    rw [if_pos hlt, if_neg hb]
  · unfold lineN
    rw [if_pos ⟨hlt, hb⟩, he]
  · unfold lineS
    rw [if_pos ⟨hlt, hb⟩, he, htk, hsz]
theorem pre_crlf (r : Bs) : P.crlf.isPrefixOf (13 :: 10 :: r) = true := by
  rw [List.isPrefixOf_iff_prefix]
  exact ⟨r, rfl⟩
/-- The chunks are read one by one. -/
theorem dec_chunks : ∀ (k size : Nat) (acc data : Bs) (a : Nat) (t : Bs), data.length ≤ k → 0 < size → size ≤ 65536 → acc.length + data.length ≤ 65536 → dec acc a (encD size data ++ t) = dec (acc ++ data) (a + (encD size data).length) t
  | k, size, acc, data, a, t, hk, hs, hS, hb => by
    by_cases h0 : data = []
    · subst h0
      rw [encD_nil, List.append_nil]
      rfl
    · have hl : data.length ≠ 0 := fun h => h0 (List.eq_nil_of_length_eq_zero h)
      cases k with
      | zero => omega
      | succ k =>
        have hn : min size data.length ≠ 0 := by omega
        obtain ⟨g1, g2, g3⟩ := hexT_facts 5 (min size data.length) (by have : (16 : Nat) ^ 5 = 1048576 := rfl; omega)
        have hstep := encD_step h0 (show size ≠ 0 by omega)
        have htl : (data.take size).length = min size data.length := List.length_take
        have e : encD size data ++ t = hexT (min size data.length) ++ 13 :: 10 :: (data.take size ++ 13 :: 10 :: (encD size (data.drop size) ++ t)) := by
          rw [hstep]; simp
        obtain ⟨l1, l2, l3⟩ := line_of (hexT (min size data.length)) (data.take size ++ 13 :: 10 :: (encD size (data.drop size) ++ t)) g2 (hexT_ne hn) (by omega) (by rw [g1]; omega)
        have hd1 : (hexT (min size data.length) ++ 13 :: 10 :: (data.take size ++ 13 :: 10 :: (encD size (data.drop size) ++ t))).drop ((hexT (min size data.length)).length + 2) = data.take size ++ 13 :: 10 :: (encD size (data.drop size) ++ t) := by
          rw [show ∀ u v : Bs, u ++ 13 :: 10 :: v = (u ++ [13, 10]) ++ v from fun u v => by simp]
          exact List.drop_left' (by simp)
        have hz : (val (hexT (min size data.length))).toNat = min size data.length := by rw [g1]; omega
        have hlen : (encD size data).length = (hexT (min size data.length)).length + 2 + min size data.length + 2 + (encD size (data.drop size)).length := by
          rw [hstep]
          simp only [List.length_append, List.length_cons, List.length_nil, List.length_take]
        rw [hz] at l3
        have hmin : min size data.length ≤ data.length := Nat.min_le_right _ _
        have hmin3 : min size data.length + (data.length - size) ≤ data.length := by omega
        generalize hexT (min size data.length) = H at *
        generalize min size data.length = n at *
        rw [e, dec_eq, l1, l2, l3, if_neg (by omega), if_neg hn, if_neg (by omega), hd1]
        have hd2 : (H ++ 13 :: 10 :: (data.take size ++ 13 :: 10 :: (encD size (data.drop size) ++ t))).drop (H.length + 2 + n) = 13 :: 10 :: (encD size (data.drop size) ++ t) := by
          rw [← List.drop_drop, hd1]
          exact List.drop_left' htl
        have hd3 : (H ++ 13 :: 10 :: (data.take size ++ 13 :: 10 :: (encD size (data.drop size) ++ t))).drop (H.length + 2 + n + 2) = encD size (data.drop size) ++ t := by
          rw [← List.drop_drop, hd2]
          rfl
        have htk : (data.take size ++ 13 :: 10 :: (encD size (data.drop size) ++ t)).take n = data.take size := List.take_left' htl
        rw [hd2, hd3, htk, pre_crlf, if_neg (by rw [List.length_append, htl]; simp only [List.length_cons]; omega), if_neg (by decide)]
        rw [dec_chunks k size (acc ++ data.take size) (data.drop size) _ t (by rw [List.length_drop]; omega) hs hS (by rw [List.length_append, htl, List.length_drop]; omega)]
        rw [List.append_assoc, List.take_append_drop, hlen]
        congr 1
        omega
theorem tail_of (fs : List FD) (rest : Bs) (h : fs.all F.okF = true) (hn : fs.length ≤ 100) (hl : (F.lines fs).length + 2 ≤ 8192) :
    (tailE ((F.lines fs ++ [13, 10]) ++ rest) = 0 ∧ tailN ((F.lines fs ++ [13, 10]) ++ rest) = (F.lines fs).length + 2 ∧ tailF ((F.lines fs ++ [13, 10]) ++ rest) = fs) ∧
    tailE ((F.lines fs ++ [13, 10]).take ((F.lines fs).length + 1)) = 0 ∧ tailN ((F.lines fs ++ [13, 10]).take ((F.lines fs).length + 1)) = 0 := by
  cases fs with
  | nil =>
    have hp : P.crlf.isPrefixOf ((F.lines [] ++ [13, 10]) ++ rest) = true := pre_crlf rest
    refine ⟨⟨if_pos hp, if_pos hp, if_pos hp⟩, ?_, ?_⟩
    · show tailE [13] = 0
      decide +kernel
    · show tailN [13] = 0
      decide +kernel
  | cons f fs =>
    rw [List.all_cons, Bool.and_eq_true] at h
    obtain ⟨g1, _, _, x, t, hxt, hx⟩ := P.bare_ok h.1
    have hhd : F.lines (f :: fs) ++ [13, 10] = P.headOf (P.bare f) fs := by
      rw [P.lines_cons]
      unfold P.headOf
      simp
    have hlen := P.headOf_len (P.bare f) fs
    have hln : (F.lines (f :: fs)).length + 2 = (P.headOf (P.bare f) fs).length := by
      rw [← hhd, List.length_append]; rfl
    obtain ⟨_, f2, f3, _, _⟩ := P.head_facts (P.bare f) fs rest h.2 g1 (by omega)
    have hsh := P.head_short (P.bare f) fs h.2 g1 (by omega)
    have hcons : ∃ r, P.headOf (P.bare f) fs = x :: r := by
      unfold P.headOf
      rw [hxt]
      exact ⟨_, rfl⟩
    obtain ⟨r, hr⟩ := hcons
    have hp1 : ¬ P.crlf.isPrefixOf (P.headOf (P.bare f) fs ++ rest) = true := by
      rw [hr, List.cons_append]
      unfold P.crlf
      rw [P.pre_no hx]
      simp
    have hp2 : ¬ P.crlf.isPrefixOf ((P.headOf (P.bare f) fs).take ((P.headOf (P.bare f) fs).length - 1)) = true := by
      have : (P.headOf (P.bare f) fs).length - 1 = (r.length - 1) + 1 := by
        have := congrArg List.length hr
        simp only [List.length_cons] at this
        omega
      rw [this, hr, List.take_succ_cons]
      unfold P.crlf
      rw [P.pre_no hx]
      simp
    have hc : ¬ (P.hE (P.headOf (P.bare f) fs ++ rest) 0 ≠ 0 ∨ P.hN (P.headOf (P.bare f) fs ++ rest) 0 = 0) := by
      rw [f2, f3]
      rintro (h | h)
      · exact h rfl
      · omega
    have htk : (P.headOf (P.bare f) fs ++ rest).take (P.hN (P.headOf (P.bare f) fs ++ rest) 0 - 2).toNat = F.lines (f :: fs) := by
      rw [f3, ← hhd, List.append_assoc]
      refine List.take_left' ?_
      rw [hhd]
      omega
    have hp := P.parse_lines (f :: fs) [] (by rw [List.all_cons, h.1, h.2]; rfl) (by simpa using hn)
    rw [List.nil_append] at hp
    rw [hhd, hln, show (F.lines (f :: fs)).length + 1 = (P.headOf (P.bare f) fs).length - 1 by omega]
    refine ⟨⟨?_, ?_, ?_⟩, ?_, ?_⟩
    · unfold tailE
      rw [if_neg hp1, if_neg hc, htk, hp]
    · unfold tailN
      rw [if_neg hp1, if_neg hc, htk, hp, if_neg (fun h => h rfl), f3, Int.toNat_natCast]
    · unfold tailF
      rw [if_neg hp1, if_neg hc, htk, hp]
    · unfold tailE
      rw [if_neg hp2, if_pos (.inr (P.hN_no hsh)), P.hE_no hsh, if_pos (by rw [List.length_take]; omega)]
    · unfold tailN
      rw [if_neg hp2, if_pos (.inr (P.hN_no hsh))]
theorem enc_ok {data : Bs} {size : Int} {fs : List FD} (h : encE data size fs = 0) : 1 ≤ size ∧ size ≤ 65536 ∧ data.length ≤ 65536 ∧ fs.all F.okF = true ∧ fs.length ≤ 100 ∧ (F.lines fs).length + 2 ≤ 8192 := by
  unfold encE at h
  split at h
  · cases h
  · split at h
    · cases h
    · split at h
      · rename_i h1
        exact absurd h h1
      · rename_i h1
        split at h
        · cases h
        · have h2 : F.printE fs = 0 := by
            rcases Decidable.em (F.printE fs = 0) with h2 | h2
            · exact h2
            · exact absurd h2 h1
          unfold F.printE at h2
          split at h2
          · rename_i h3
            split at h2
            · cases h2
            · exact ⟨by omega, by omega, by omega, h3, by omega, by omega⟩
          · cases h2
theorem last_take {u v : Bs} (h : 0 < v.length) : (u ++ v).take ((u ++ v).length - 1) = u ++ v.take (v.length - 1) := by
  rw [List.take_append, List.take_of_length_le (by rw [List.length_append]; omega)]
  congr 2
  rw [List.length_append]
  omega
theorem enc_round {data : Bs} {size : Int} {fs : List FD} (h : encE data size fs = 0) (rest : Bs) :
    decode (encW data size fs ++ rest) = ⟨data, fs, (encW data size fs).length, 0⟩ ∧ 0 < (encW data size fs).length ∧ decode ((encW data size fs).take ((encW data size fs).length - 1)) = .bad 0 := by
  obtain ⟨h1, h2, h3, h4, h5, h6⟩ := enc_ok h
  obtain ⟨⟨t1, t2, t3⟩, t4, t5⟩ := tail_of fs rest h4 h5 h6
  have hlen : (encW data size fs).length = (encD size.toNat data).length + (3 + ((F.lines fs).length + 2)) := by
    unfold encW
    simp only [List.length_append, List.length_cons, List.length_nil]
  have hline : ∀ r : Bs, lineE (48 :: 13 :: 10 :: r) = 0 ∧ lineN (48 :: 13 :: 10 :: r) = 3 ∧ lineS (48 :: 13 :: 10 :: r) = 0 := fun r => line_of [48] r (by decide) (by decide) (by decide) (by decide)
  have hfin : ∀ (acc : Bs) (a : Nat) (r : Bs), dec acc a (48 :: 13 :: 10 :: r) = if tailE r ≠ 0 ∨ tailN r = 0 then .bad (tailE r) else ⟨acc, tailF r, a + 3 + tailN r, 0⟩ := fun acc a r => by
    obtain ⟨l1, l2, l3⟩ := hline r
    rw [dec_eq, l1, l2, l3, if_neg (by decide), if_pos rfl]
    rfl
  refine ⟨?_, by omega, ?_⟩
  · unfold decode encW
    rw [List.append_assoc, dec_chunks data.length size.toNat [] data 0 _ (Nat.le_refl _) (by omega) (by omega) (by simpa using h3)]
    have e : ([48, 13, 10] ++ (F.lines fs ++ [13, 10])) ++ rest = 48 :: 13 :: 10 :: ((F.lines fs ++ [13, 10]) ++ rest) := by simp
    rw [e, hfin, t1, t2, t3, if_neg (by omega), List.nil_append]
    congr 1
    have := hlen
    unfold encW at this
    omega
  · have e : (encW data size fs).take ((encW data size fs).length - 1) = encD size.toNat data ++ (48 :: 13 :: 10 :: (F.lines fs ++ [13, 10]).take ((F.lines fs).length + 1)) := by
      unfold encW
      rw [last_take (by simp)]
      congr 1
      rw [last_take (by simp)]
      simp only [List.length_append, List.length_cons, List.length_nil]
      rfl
    rw [e]
    unfold decode
    rw [dec_chunks data.length size.toNat [] data 0 _ (Nat.le_refl _) (by omega) (by omega) (by simpa using h3), hfin, t4, t5, if_pos (.inr rfl)]
theorem encD_len : ∀ (k size : Nat) (data : Bs), data.length ≤ k → 0 < size → size ≤ 65536 → (encD size data).length ≤ 10 * data.length
  | k, size, data, hk, hs, hS => by
    by_cases h0 : data = []
    · subst h0
      rw [encD_nil]
      exact Nat.zero_le _
    · have hl : data.length ≠ 0 := fun h => h0 (List.eq_nil_of_length_eq_zero h)
      cases k with
      | zero => omega
      | succ k =>
        obtain ⟨_, _, g3⟩ := hexT_facts 5 (min size data.length) (by have : (16 : Nat) ^ 5 = 1048576 := rfl; omega)
        have ih := encD_len k size (data.drop size) (by rw [List.length_drop]; omega) hs hS
        rw [encD_step h0 (by omega)]
        simp only [List.length_append, List.length_cons, List.length_nil, List.length_take]
        rw [List.length_drop] at ih
        omega
theorem encB_len (data : Bs) (size : Int) (fs : List FD) : (encB data size fs).length ≤ 10 * data.length + (F.lines fs).length + 5 := by
  unfold encB
  split
  · rename_i h
    obtain ⟨h1, h2, _⟩ := enc_ok h
    have := encD_len data.length size.toNat data (Nat.le_refl _) (by omega) (by omega)
    unfold encW
    simp only [List.length_append, List.length_cons, List.length_nil]
    omega
  · exact Nat.zero_le _
end C
end Go.Proofs.YtnmldbcgpfglkaaGreatDoor
