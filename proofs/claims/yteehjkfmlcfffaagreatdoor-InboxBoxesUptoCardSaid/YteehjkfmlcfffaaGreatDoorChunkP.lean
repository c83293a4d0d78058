/- What chunk.Decode computes, as plain functions on lists of bytes; what is told of some bytes is told of them with more behind. No program here. -/
import Derived.Test.YteehjkfmlcfffaaGreatDoorGrow
namespace Go.Proofs.YteehjkfmlcfffaaGreatDoor
namespace C
open T (Bs)
def hex (c : UInt8) : Int := if 48 ≤ c.toNat ∧ c.toNat ≤ 57 then (c.toNat : Int) - 48 else if 65 ≤ c.toNat ∧ c.toNat ≤ 70 then (c.toNat : Int) - 55 else if 97 ≤ c.toNat ∧ c.toNat ≤ 102 then (c.toNat : Int) - 87 else -1
def isHex (c : UInt8) : Bool := decide (0 ≤ hex c)
def val (l : Bs) : Int := l.foldl (fun a c => a * 16 + hex c) 0
def semi (c : UInt8) : Bool := c == 59
def numOf (l : Bs) : Bs := P.upto semi l
def extOf (l : Bs) : Bs := (P.from_ semi l).drop 1
/-- The size that a line tells; -1: it tells none. -/
def sizeOf (l : Bs) : Int := if numOf l = [] ∨ 8 < (numOf l).length ∨ (numOf l).all isHex = false ∨ F.text (B (extOf l)) = false then -1 else val (numOf l)
def lf (c : UInt8) : Bool := c == 10
/-- Where the first byte 10 is; the length: nowhere. -/
def eolAt (l : Bs) : Nat := (P.upto lf l).length
/-- The size line's error; what it tells: its size, its length (0: more is needed). -/
def lineBad (l : Bs) : Prop := 200 ≤ eolAt l ∨ eolAt l = 0 ∨ l.getD (eolAt l - 1) 0 ≠ 13 ∨ sizeOf (l.take (eolAt l - 1)) < 0
instance (l : Bs) : Decidable (lineBad l) := inferInstanceAs (Decidable (_ ∨ _))
def lineE (l : Bs) : Int := if eolAt l < l.length then (if lineBad l then 70 else 0) else if 200 ≤ l.length then 70 else 0
def lineN (l : Bs) : Nat := if eolAt l < l.length ∧ ¬ lineBad l then eolAt l + 1 else 0
def lineS (l : Bs) : Nat := if eolAt l < l.length ∧ ¬ lineBad l then (sizeOf (l.take (eolAt l - 1))).toNat else 0

structure CD where
  d : Bs
  f : List FD
  n : Nat
  e : Int
def CD.bad (e : Int) : CD := ⟨[], [], 0, e⟩
/-- The trailers' part. -/
def tailE (l : Bs) : Int := if P.crlf.isPrefixOf l then 0 else if P.hE l 0 ≠ 0 ∨ P.hN l 0 = 0 then P.hE l 0 else (P.parse [] (l.take (P.hN l 0 - 2).toNat)).2
def tailN (l : Bs) : Nat := if P.crlf.isPrefixOf l then 2 else if P.hE l 0 ≠ 0 ∨ P.hN l 0 = 0 then 0 else if (P.parse [] (l.take (P.hN l 0 - 2).toNat)).2 ≠ 0 then 0 else (P.hN l 0).toNat
def tailF (l : Bs) : List FD := if P.crlf.isPrefixOf l then [] else if P.hE l 0 ≠ 0 ∨ P.hN l 0 = 0 then [] else (P.parse [] (l.take (P.hN l 0 - 2).toNat)).1
/-- What is read behind 'data', of which the bytes ended at 'at'. -/
def dec (data : Bs) (at_ : Nat) (l : Bs) : CD :=
  if lineE l ≠ 0 ∨ lineN l = 0 then .bad (lineE l)
  else if lineS l = 0 then
    (if tailE (l.drop (lineN l)) ≠ 0 ∨ tailN (l.drop (lineN l)) = 0 then .bad (tailE (l.drop (lineN l))) else ⟨data, tailF (l.drop (lineN l)), at_ + lineN l + tailN (l.drop (lineN l)), 0⟩)
  else if 65536 < data.length + lineS l then .bad 71
  else if _h : (l.drop (lineN l)).length < lineS l + 2 then .bad 0
  else if P.crlf.isPrefixOf (l.drop (lineN l + lineS l)) = false then .bad 70
  else dec (data ++ (l.drop (lineN l)).take (lineS l)) (at_ + lineN l + lineS l + 2) (l.drop (lineN l + lineS l + 2))
termination_by l.length
decreasing_by
  rw [List.length_drop] at _h ⊢
  omega
def decode (b : Bs) : CD := dec [] 0 b

/-! ### With more behind -/
theorem upto_front {p : UInt8 → Bool} {l l' : Bs} {m : Nat} (h : l'.take m = l.take m) (hk : (P.upto p l).length < l.length) (hm : (P.upto p l).length + 1 ≤ m) : P.upto p l' = P.upto p l ∧ (P.upto p l).length < l'.length := by
  have h1 := P.upto_from p l
  have h2 := P.upto_len p l
  have h4 : ∀ y ∈ P.upto p l, p y = false := P.upto_all
  cases h3 : P.from_ p l with
  | nil => rw [h3] at h2; simp only [List.length_nil] at h2; omega
  | cons x r =>
    have h5 := P.from_head h3
    rw [h3] at h1
    generalize P.upto p l = u at *
    have e : l' = u ++ x :: (r.take (m - u.length - 1) ++ l'.drop m) := by
      have e1 : l.take m = u ++ x :: r.take (m - u.length - 1) := by
        rw [← h1, List.take_append, List.take_of_length_le (by omega)]
        obtain ⟨q, hq⟩ : ∃ q, m - u.length = q + 1 := ⟨m - u.length - 1, by omega⟩
        rw [hq, List.take_succ_cons]
        rfl
      conv => lhs; rw [← List.take_append_drop m l', h, e1]
      simp
    have := P.upto_app p u x (r.take (m - u.length - 1) ++ l'.drop m) h4 h5
    rw [← e] at this
    refine ⟨this.1, ?_⟩
    rw [e]
    simp only [List.length_append, List.length_cons]
    omega
theorem getD_front {l l' : Bs} {m j : Nat} (h : l'.take m = l.take m) (hj : j < m) : l'.getD j 0 = l.getD j 0 := by
  have := congrArg (fun q : Bs => q[j]?) h
  simp only [List.getElem?_take, if_pos hj] at this
  rw [List.getD_eq_getElem?_getD, List.getD_eq_getElem?_getD, this]
theorem take_front {l l' : Bs} {m j : Nat} (h : l'.take m = l.take m) (hj : j ≤ m) : l'.take j = l.take j := by
  have := congrArg (List.take j) h
  rwa [List.take_take, List.take_take, Nat.min_eq_left hj] at this
theorem line_front {l l' : Bs} {m : Nat} (h : l'.take m = l.take m) (hk : eolAt l < l.length) (hm : eolAt l + 1 ≤ m) : lineE l' = lineE l ∧ lineN l' = lineN l ∧ lineS l' = lineS l := by
  obtain ⟨h1, h2⟩ := upto_front (p := lf) h hk hm
  have he : eolAt l' = eolAt l := by unfold eolAt; rw [h1]
  have hk' : eolAt l' < l'.length := by rw [he]; exact h2
  have hb : lineBad l' ↔ lineBad l := by
    unfold lineBad
    rw [he, getD_front h (by omega), take_front h (by omega)]
  have ht : l'.take (eolAt l - 1) = l.take (eolAt l - 1) := take_front h (by omega)
  refine ⟨?_, ?_, ?_⟩
  · unfold lineE
    rw [if_pos hk, if_pos hk']
    simp only [hb]
  · have hk2 : eolAt l < l'.length := by rw [← he]; exact hk'
    unfold lineN
    rw [he]
    by_cases hbl : lineBad l
    · rw [if_neg (fun h => h.2 (hb.2 hbl)), if_neg (fun h => h.2 hbl)]
    · rw [if_pos ⟨hk2, fun h => hbl (hb.1 h)⟩, if_pos ⟨hk, hbl⟩]
  · have hk2 : eolAt l < l'.length := by rw [← he]; exact hk'
    unfold lineS
    rw [he, ht]
    by_cases hbl : lineBad l
    · rw [if_neg (fun h => h.2 (hb.2 hbl)), if_neg (fun h => h.2 hbl)]
    · rw [if_pos ⟨hk2, fun h => hbl (hb.1 h)⟩, if_pos ⟨hk, hbl⟩]
theorem lineN_le (l : Bs) : lineN l ≤ l.length := by
  unfold lineN
  split
  · rename_i h; omega
  · omega
theorem line_pos {l : Bs} (h : ¬ (lineE l ≠ 0 ∨ lineN l = 0)) : eolAt l < l.length ∧ lineN l = eolAt l + 1 := by
  have h2 : lineN l ≠ 0 := fun e => h (.inr e)
  unfold lineN at h2 ⊢
  split
  · rename_i h3
    exact ⟨h3.1, rfl⟩
  · rename_i h3
    rw [if_neg h3] at h2
    exact absurd rfl h2
theorem line_more (l more : Bs) (h : lineE l ≠ 0) : lineE (l ++ more) = lineE l := by
  by_cases hk : eolAt l < l.length
  · exact (line_front (P.take_app l more) hk (by omega)).1
  · have hE : lineE l = if 200 ≤ l.length then 70 else 0 := if_neg hk
    have h200 : 200 ≤ l.length := by
      rcases Nat.lt_or_ge l.length 200 with h3 | h3
      · rw [if_neg (by omega)] at hE; exact absurd hE h
      · exact h3
    rw [if_pos h200] at hE
    have hnone : P.upto lf l = l ∧ P.from_ lf l = [] := by
      have h1 := P.upto_from lf l
      have h2 := P.upto_len lf l
      have h3 : P.from_ lf l = [] := List.eq_nil_of_length_eq_zero (by unfold eolAt at hk; omega)
      rw [h3, List.append_nil] at h1
      exact ⟨h1, h3⟩
    have hge : l.length ≤ eolAt (l ++ more) := by
      unfold eolAt P.upto
      have h5 := hnone.1
      unfold P.upto at h5
      rw [List.takeWhile_append, h5, if_pos rfl, List.length_append]
      omega
    rw [hE]
    unfold lineE
    split
    · rw [if_pos (.inl (by omega))]
    · rw [if_pos (by rw [List.length_append]; omega)]
theorem tail_pos {l : Bs} (h : ¬ (tailE l ≠ 0 ∨ tailN l = 0)) : tailN l ≤ l.length ∧ ∀ l' : Bs, l'.take (tailN l) = l.take (tailN l) → tailN l ≤ l'.length → tailE l' = tailE l ∧ tailN l' = tailN l ∧ tailF l' = tailF l := by
  have hn : tailN l ≠ 0 := fun e => h (.inr e)
  by_cases hp : P.crlf.isPrefixOf l = true
  · have hN : tailN l = 2 := if_pos hp
    refine ⟨?_, fun l' ht _ => ?_⟩
    · rw [hN]
      rw [List.isPrefixOf_iff_prefix] at hp
      have := hp.length_le
      exact this
    · rw [hN] at ht
      have hp' : P.crlf.isPrefixOf l' = true := by
        have := P.occAt_take (sub := P.crlf) (j := 0) ht (Nat.le_refl _)
        simp only [Lib.occAt, List.drop_zero] at this
        rw [this, hp]
      refine ⟨?_, ?_, ?_⟩
      · unfold tailE; rw [if_pos hp, if_pos hp']
      · unfold tailN; rw [if_pos hp, if_pos hp']
      · unfold tailF; rw [if_pos hp, if_pos hp']
  · by_cases hc : P.hE l 0 ≠ 0 ∨ P.hN l 0 = 0
    · have hN : tailN l = 0 := by unfold tailN; rw [if_neg hp, if_pos hc]
      exact absurd hN hn
    · have hi : ∃ i : Nat, P.hIdx l 0 = (i : Int) ∧ 0 + i + 4 ≤ l.length ∧ P.hN l 0 = ((i + 4 : Nat) : Int) := by
        rcases P.idx_cases l 0 with h1 | ⟨i, h1, h2⟩
        · exact absurd (P.hN_no h1) (fun e => hc (.inr e))
        · refine ⟨i, h1, h2, ?_⟩
          have h3 : ¬ P.hN l 0 = 0 := fun e => hc (.inr e)
          unfold P.hN at h3 ⊢
          split
          · rename_i h4
            rw [if_pos h4] at h3
            exact absurd rfl h3
          · rw [h1]; omega
      obtain ⟨i, h1, h2, h3⟩ := hi
      have hN : tailN l = i + 4 := by
        unfold tailN at hn ⊢
        rw [if_neg hp, if_neg hc] at hn ⊢
        split
        · rename_i h4
          rw [if_pos h4] at hn
          exact absurd rfl hn
        · rw [h3, Int.toNat_natCast]
      refine ⟨by omega, fun l' ht hl => ?_⟩
      rw [hN] at ht hl
      obtain ⟨k1, k2, _, _⟩ := P.hdr_front (s := 0) ht h1 (by omega) hl
      have hp' : ¬ P.crlf.isPrefixOf l' = true := by
        have := P.occAt_take (sub := P.crlf) (j := 0) ht (show 0 + 2 ≤ i + 4 by omega)
        simp only [Lib.occAt, List.drop_zero] at this
        rw [this]
        exact hp
      have htk : l'.take (P.hN l 0 - 2).toNat = l.take (P.hN l 0 - 2).toNat := take_front ht (by rw [h3]; omega)
      refine ⟨?_, ?_, ?_⟩
      · unfold tailE; rw [if_neg hp, if_neg hp', k1, k2, htk]
      · unfold tailN; rw [if_neg hp, if_neg hp', k1, k2, htk]
      · unfold tailF; rw [if_neg hp, if_neg hp', k1, k2, htk]
theorem tail_more (l more : Bs) (h : tailE l ≠ 0) : tailE (l ++ more) = tailE l := by
  by_cases hp : P.crlf.isPrefixOf l = true
  · exact absurd (if_pos hp) h
  · have hpm : 2 ≤ l.length → ¬ P.crlf.isPrefixOf (l ++ more) = true := fun h2 => by
      have := P.occAt_take (sub := P.crlf) (j := 0) (P.take_app l more) (show 0 + 2 ≤ l.length by omega)
      simp only [Lib.occAt, List.drop_zero] at this
      rw [this]
      exact hp
    rcases P.idx_cases l 0 with h1 | ⟨i, h1, h2⟩
    · have hE : tailE l = P.hE l 0 := by unfold tailE; rw [if_neg hp, if_pos (.inr (P.hN_no h1))]
      rw [hE, P.hE_no h1] at h
      have hl : 8192 ≤ l.length := by
        rcases Nat.lt_or_ge l.length 8192 with h3 | h3
        · rw [if_pos h3] at h; exact absurd rfl h
        · exact h3
      rw [hE, P.hE_no h1, if_neg (by omega)]
      have hlate := P.late l more 0 0 hl h1 (fun _ _ _ => rfl)
      unfold tailE
      rw [if_neg (hpm (by omega)), hlate, if_pos (.inl (by decide))]
    · obtain ⟨k1, k2, _, _⟩ := P.hdr_front (s := 0) (P.take_app l more) h1 (by omega) (by rw [List.length_append]; omega)
      unfold tailE
      rw [if_neg hp, if_neg (hpm (by omega)), k1, k2]
      have htk : (l ++ more).take (P.hN l 0 - 2).toNat = l.take (P.hN l 0 - 2).toNat := by
        refine take_front (P.take_app l more) ?_
        unfold P.hN
        split
        · omega
        · rw [h1]; omega
      rw [htk]

theorem dec_eq (data : Bs) (a : Nat) (l : Bs) : dec data a l =
  if lineE l ≠ 0 ∨ lineN l = 0 then .bad (lineE l)
  else if lineS l = 0 then
    (if tailE (l.drop (lineN l)) ≠ 0 ∨ tailN (l.drop (lineN l)) = 0 then .bad (tailE (l.drop (lineN l))) else ⟨data, tailF (l.drop (lineN l)), a + lineN l + tailN (l.drop (lineN l)), 0⟩)
  else if 65536 < data.length + lineS l then .bad 71
  else if (l.drop (lineN l)).length < lineS l + 2 then .bad 0
  else if P.crlf.isPrefixOf (l.drop (lineN l + lineS l)) = false then .bad 70
  else dec (data ++ (l.drop (lineN l)).take (lineS l)) (a + lineN l + lineS l + 2) (l.drop (lineN l + lineS l + 2)) := by
  rw [dec.eq_def]
  split
  · rfl
  · split
    · rfl
    · split
      · rfl
      · split <;> rfl
theorem pre_front {l l' : Bs} {m s : Nat} (h : l'.take m = l.take m) (hs : s + 2 ≤ m) : P.crlf.isPrefixOf (l'.drop s) = P.crlf.isPrefixOf (l.drop s) := P.occAt_take (sub := P.crlf) (j := s) h hs
/-- A body that is told ends at some place, and is told by the bytes up to it. -/
theorem dec_ok : ∀ (k : Nat) (data : Bs) (a : Nat) (l : Bs), l.length ≤ k → (dec data a l).n ≠ 0 → (dec data a l).e = 0 ∧ ∃ c, c ≤ l.length ∧ (dec data a l).n = a + c ∧ ∀ l' : Bs, l'.take c = l.take c → c ≤ l'.length → dec data a l' = dec data a l
  | k, data, a, l, hk, hn => by
    rw [dec_eq] at hn
    split at hn
    · exact absurd rfl hn
    · rename_i h1
      obtain ⟨g1, g2⟩ := line_pos h1
      have gle := lineN_le l
      split at hn
      · rename_i h2
        split at hn
        · exact absurd rfl hn
        · rename_i h3
          obtain ⟨t1, t2⟩ := tail_pos h3
          rw [List.length_drop] at t1
          have hd : dec data a l = ⟨data, tailF (l.drop (lineN l)), a + lineN l + tailN (l.drop (lineN l)), 0⟩ := by rw [dec_eq, if_neg h1, if_pos h2, if_neg h3]
          rw [hd]
          refine ⟨rfl, lineN l + tailN (l.drop (lineN l)), by omega, by simp only []; omega, fun l' ht hl => ?_⟩
          obtain ⟨f1, f2, f3⟩ := line_front ht g1 (by omega)
          have hdd : (l'.drop (lineN l)).take (tailN (l.drop (lineN l))) = (l.drop (lineN l)).take (tailN (l.drop (lineN l))) := by
            have := P.drop_take_eq (s := lineN l) ht
            rwa [Nat.add_sub_cancel_left] at this
          obtain ⟨u1, u2, u3⟩ := t2 (l'.drop (lineN l)) hdd (by rw [List.length_drop]; omega)
          rw [dec_eq, f1, f2, f3, u1, u2, u3, if_neg h1, if_pos h2, if_neg h3]
      · rename_i h2
        split at hn
        · exact absurd rfl hn
        · rename_i h3
          split at hn
          · exact absurd rfl hn
          · rename_i h4
            rw [List.length_drop] at h4
            split at hn
            · exact absurd rfl hn
            · rename_i h5
              cases k with
              | zero => omega
              | succ k =>
                obtain ⟨r0, c, r1, r2, r3⟩ := dec_ok k (data ++ (l.drop (lineN l)).take (lineS l)) (a + lineN l + lineS l + 2) (l.drop (lineN l + lineS l + 2)) (by rw [List.length_drop]; omega) hn
                rw [List.length_drop] at r1
                have hd : dec data a l = dec (data ++ (l.drop (lineN l)).take (lineS l)) (a + lineN l + lineS l + 2) (l.drop (lineN l + lineS l + 2)) := by
                  rw [dec_eq, if_neg h1, if_neg h2, if_neg h3, if_neg (by rw [List.length_drop]; omega), if_neg h5]
                rw [hd]
                refine ⟨r0, lineN l + lineS l + 2 + c, by omega, by omega, fun l' ht hl => ?_⟩
                obtain ⟨f1, f2, f3⟩ := line_front ht g1 (by omega)
                have e1 : (l'.drop (lineN l)).take (lineS l) = (l.drop (lineN l)).take (lineS l) := take_front (P.drop_take_eq (s := lineN l) ht) (by omega)
                have e2 : (l'.drop (lineN l + lineS l + 2)).take c = (l.drop (lineN l + lineS l + 2)).take c := by
                  have := P.drop_take_eq (s := lineN l + lineS l + 2) ht
                  rwa [Nat.add_sub_cancel_left] at this
                have e3 := r3 (l'.drop (lineN l + lineS l + 2)) e2 (by rw [List.length_drop]; omega)
                rw [dec_eq, f1, f2, f3, if_neg h1, if_neg h2, if_neg h3, if_neg (by rw [List.length_drop]; omega), pre_front ht (by omega), if_neg h5, e1, e3]
theorem dec_err : ∀ (k : Nat) (data : Bs) (a : Nat) (l more : Bs), l.length ≤ k → (dec data a l).e ≠ 0 → dec data a (l ++ more) = dec data a l
  | k, data, a, l, more, hk, he => by
    have ht := P.take_app l more
    have hla : (l ++ more).length = l.length + more.length := List.length_append
    by_cases h1 : lineE l ≠ 0 ∨ lineN l = 0
    · have eR : dec data a l = .bad (lineE l) := by rw [dec_eq, if_pos h1]
      rw [eR] at he ⊢
      have h2 : lineE l ≠ 0 := he
      have h3 := line_more l more h2
      rw [dec_eq, h3]
      exact if_pos (.inl h2)
    · obtain ⟨g1, g2⟩ := line_pos h1
      have gle := lineN_le l
      obtain ⟨f1, f2, f3⟩ := line_front ht g1 (by omega)
      have ed : (l ++ more).drop (lineN l) = l.drop (lineN l) ++ more := List.drop_append_of_le_length gle
      by_cases h2 : lineS l = 0
      · by_cases h3 : tailE (l.drop (lineN l)) ≠ 0 ∨ tailN (l.drop (lineN l)) = 0
        · have eR : dec data a l = .bad (tailE (l.drop (lineN l))) := by rw [dec_eq, if_neg h1, if_pos h2, if_pos h3]
          rw [eR] at he ⊢
          have h4 : tailE (l.drop (lineN l)) ≠ 0 := he
          have h5 := tail_more (l.drop (lineN l)) more h4
          rw [dec_eq, f1, f2, f3, if_neg h1, if_pos h2, ed, h5]
          exact if_pos (.inl h4)
        · have eR : dec data a l = ⟨data, tailF (l.drop (lineN l)), a + lineN l + tailN (l.drop (lineN l)), 0⟩ := by rw [dec_eq, if_neg h1, if_pos h2, if_neg h3]
          rw [eR] at he
          exact absurd rfl he
      · by_cases h3 : 65536 < data.length + lineS l
        · have eR : dec data a l = .bad 71 := by rw [dec_eq, if_neg h1, if_neg h2, if_pos h3]
          rw [eR, dec_eq, f1, f2, f3, if_neg h1, if_neg h2, if_pos h3]
        · by_cases h4 : (l.drop (lineN l)).length < lineS l + 2
          · have eR : dec data a l = .bad 0 := by rw [dec_eq, if_neg h1, if_neg h2, if_neg h3, if_pos h4]
            rw [eR] at he
            exact absurd rfl he
          · have h4' := h4
            rw [List.length_drop] at h4'
            have h4m : ¬ ((l ++ more).drop (lineN l)).length < lineS l + 2 := by rw [List.length_drop]; omega
            have hp := pre_front (s := lineN l + lineS l) ht (by omega)
            by_cases h5 : P.crlf.isPrefixOf (l.drop (lineN l + lineS l)) = false
            · have eR : dec data a l = .bad 70 := by rw [dec_eq, if_neg h1, if_neg h2, if_neg h3, if_neg h4, if_pos h5]
              rw [eR, dec_eq, f1, f2, f3, if_neg h1, if_neg h2, if_neg h3, if_neg h4m, hp, if_pos h5]
            · have eR : dec data a l = dec (data ++ (l.drop (lineN l)).take (lineS l)) (a + lineN l + lineS l + 2) (l.drop (lineN l + lineS l + 2)) := by rw [dec_eq, if_neg h1, if_neg h2, if_neg h3, if_neg h4, if_neg h5]
              have e1 : ((l ++ more).drop (lineN l)).take (lineS l) = (l.drop (lineN l)).take (lineS l) := by
                rw [ed, List.take_append_of_le_length (by rw [List.length_drop]; omega)]
              have e2 : (l ++ more).drop (lineN l + lineS l + 2) = l.drop (lineN l + lineS l + 2) ++ more := List.drop_append_of_le_length (by omega)
              have eL : dec data a (l ++ more) = dec (data ++ (l.drop (lineN l)).take (lineS l)) (a + lineN l + lineS l + 2) (l.drop (lineN l + lineS l + 2) ++ more) := by
                rw [dec_eq, f1, f2, f3, if_neg h1, if_neg h2, if_neg h3, if_neg h4m, hp, if_neg h5, e1, e2]
              rw [eR] at he ⊢
              rw [eL]
              cases k with
              | zero => omega
              | succ k => exact dec_err k _ _ _ more (by rw [List.length_drop]; omega) he
/-- What is told is told with more behind. -/
theorem decode_more (b more : Bs) (h : (decode b).e ≠ 0 ∨ (decode b).n ≠ 0) : decode (b ++ more) = decode b := by
  by_cases he : (decode b).e ≠ 0
  · exact dec_err b.length [] 0 b more (Nat.le_refl _) he
  · obtain ⟨_, c, h1, _, h3⟩ := dec_ok b.length [] 0 b (Nat.le_refl _) (h.resolve_left he)
    exact h3 (b ++ more) (by rw [List.take_append_of_le_length h1]) (by rw [List.length_append]; omega)
/-- A body is told when its last byte has come. -/
theorem decode_cut {b : Bs} (h : (decode b).n ≠ 0) : (decode b).n ≤ b.length ∧ decode (b.take (decode b).n) = decode b := by
  obtain ⟨_, c, h1, h2, h3⟩ := dec_ok b.length [] 0 b (Nat.le_refl _) h
  have h2' : (decode b).n = c := by rw [show (decode b).n = (dec [] 0 b).n from rfl, h2]; omega
  rw [h2']
  refine ⟨h1, h3 (b.take c) (by rw [List.take_take, Nat.min_self]) (by rw [List.length_take]; omega)⟩
end C
end Go.Proofs.YteehjkfmlcfffaaGreatDoor
