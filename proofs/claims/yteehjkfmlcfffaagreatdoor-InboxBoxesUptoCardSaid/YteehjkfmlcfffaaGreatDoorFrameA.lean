/- How a message's body ends, as plain functions on its fields. No program here. The walks of frame.length, frame.rule, frame.OfRequest, and of the document's number, rule and OfRequest. Conditions: fields of bulk at most 2^30. -/
import Derived.Test.YteehjkfmlcfffaaGreatDoorAtoi
import Derived.Test.YteehjkfmlcfffaaGreatDoorFldA
import Derived.Test.YteehjkfmlcfffaaGreatDoorVia
import Derived.Test.YteehjkfmlcfffaaGreatDoorTokC
import Derived.Deep.DeepCutAuto
namespace Go.Proofs.YteehjkfmlcfffaaGreatDoor
namespace F
def teN : ByteArray := ⟨#[84, 114, 97, 110, 115, 102, 101, 114, 45, 69, 110, 99, 111, 100, 105, 110, 103]⟩
def teL : ByteArray := ⟨#[116, 114, 97, 110, 115, 102, 101, 114, 45, 101, 110, 99, 111, 100, 105, 110, 103]⟩
def clN : ByteArray := ⟨#[67, 111, 110, 116, 101, 110, 116, 45, 76, 101, 110, 103, 116, 104]⟩
def clL : ByteArray := ⟨#[99, 111, 110, 116, 101, 110, 116, 45, 108, 101, 110, 103, 116, 104]⟩
def chW : ByteArray := ⟨#[99, 104, 117, 110, 107, 101, 100]⟩
theorem te_values (fs : List FD) : values fs teL = values fs teN := values_fold (by decide) fs
theorem cl_values (fs : List FD) : values fs clL = values fs clN := values_fold (by decide) fs
theorem te_tokens (fs : List FD) : tokens fs teL = tokens fs teN := by rw [tokens_eq, tokens_eq, te_values]
/-- The number of one to 18 digits; -1: it is none. -/
def num (s : ByteArray) : Int := if s.size ≤ 18 then (match Lib.decNat (L s) with | some v => (v : Int) | none => -1) else -1
theorem num_ok {s : ByteArray} {v : Nat} (h : s.size ≤ 18) (h2 : Lib.decNat (L s) = some v) : num s = v := by
  unfold num
  rw [if_pos h, h2]
theorem num_long {s : ByteArray} (h : ¬ s.size ≤ 18) : num s = -1 := if_neg h
theorem num_none {s : ByteArray} (h : Lib.decNat (L s) = none) : num s = -1 := by
  unfold num
  rw [h]
  split <;> rfl
theorem num_cases (s : ByteArray) : num s = -1 ∨ (s.size ≤ 18 ∧ ∃ v : Nat, Lib.decNat (L s) = some v ∧ num s = v) := by
  by_cases h : s.size ≤ 18
  · cases h2 : Lib.decNat (L s) with
    | none => exact .inl (num_none h2)
    | some v => exact .inr ⟨h, v, rfl, num_ok h h2⟩
  · exact .inl (num_long h)
theorem dig_val (c : UInt8) : P.dig c = true ↔ ∃ d, Lib.digitVal c = some d := by
  unfold P.dig Lib.digitVal
  rw [Bool.and_eq_true, decide_eq_true_eq, decide_eq_true_eq]
  constructor
  · intro h; exact ⟨_, if_pos h⟩
  · rintro ⟨d, h⟩
    split at h
    · rename_i h1; exact h1
    · cases h
theorem dec_all : ∀ (l : List UInt8) (acc : Nat), (∃ v, Lib.decFrom acc l = some v) ↔ l.all P.dig = true
  | [], acc => ⟨fun _ => rfl, fun _ => ⟨acc, rfl⟩⟩
  | x :: r, acc => by
    rw [List.all_cons, Bool.and_eq_true, dig_val]
    simp only [Lib.decFrom]
    cases h : Lib.digitVal x with
    | none => simp
    | some d => simp only [dec_all r]; simp
theorem decNat_iff (l : List UInt8) : (∃ v, Lib.decNat l = some v) ↔ l ≠ [] ∧ l.all P.dig = true := by
  unfold Lib.decNat
  cases l with
  | nil => simp
  | cons x r =>
    simp only [List.isEmpty_cons, Bool.false_eq_true, if_false, ne_eq, reduceCtorEq, not_false_eq_true, true_and]
    exact dec_all _ 0
/-- Digits alone: no sign. -/
theorem atoi_dec {l : List UInt8} {v : Nat} (h : Lib.decNat l = some v) : Lib.atoi l = some (v : Int) := by
  obtain ⟨h0, h1⟩ := (decNat_iff l).1 ⟨v, h⟩
  cases l with
  | nil => exact absurd rfl h0
  | cons x r =>
    rw [List.all_cons, Bool.and_eq_true] at h1
    have hx := h1.1
    unfold P.dig at hx
    rw [Bool.and_eq_true, decide_eq_true_eq, decide_eq_true_eq] at hx
    have e1 : (x == 45) = false := by
      rw [beq_eq_false_iff_ne]
      rintro rfl
      exact absurd hx.1 (by decide)
    have e2 : (x == 43) = false := by
      rw [beq_eq_false_iff_ne]
      rintro rfl
      exact absurd hx.1 (by decide)
    unfold Lib.atoi
    simp only [e1, e2, h, Bool.false_eq_true, if_false, Option.map_some]
/-- All elements of all lengths. -/
def els (vs : List ByteArray) : List ByteArray := vs.flatMap list
theorem els_snoc (vs : List ByteArray) (k : Nat) (h : k < vs.length) : els (vs.take (k + 1)) = els (vs.take k) ++ list vs[k] := by
  unfold els
  rw [List.take_succ_eq_append_getElem h, List.flatMap_append]
  simp only [List.flatMap_cons, List.flatMap_nil, List.append_nil]
theorem els_take (vs : List ByteArray) (k : Nat) : (els (vs.take k)).length ≤ (els vs).length := by
  conv => rhs; rw [← List.take_append_drop k vs]
  unfold els
  rw [List.flatMap_append, List.length_append]
  omega
theorem els_split (vs : List ByteArray) (k : Nat) (h : k < vs.length) : ∃ r, els vs = els (vs.take k) ++ (list vs[k] ++ r) := by
  refine ⟨els (vs.drop (k + 1)), ?_⟩
  unfold els
  conv => lhs; rw [← List.take_append_drop k vs, List.drop_eq_getElem_cons h]
  rw [List.flatMap_append, List.flatMap_cons]
theorem els_sum : ∀ vs : List ByteArray, ∀ fs : List FD, ∀ name : ByteArray, vs = values fs name → (els vs).length ≤ bulk fs := by
  intro vs fs
  induction fs generalizing vs with
  | nil => rintro name rfl; exact Nat.zero_le _
  | cons f fs ih =>
    rintro name rfl
    have h1 := ih _ name rfl
    have hb : bulk (f :: fs) = f.1.size + f.2.size + 1 + bulk fs := by rfl
    unfold values at h1 ⊢
    rw [List.filter_cons, hb]
    split
    · rw [List.map_cons]
      unfold els at h1 ⊢
      rw [List.flatMap_cons, List.length_append]
      have := list_len f.2
      omega
    · omega
theorem els_len (fs : List FD) (name : ByteArray) : (els (values fs name)).length ≤ bulk fs := els_sum _ fs name rfl
theorem list_ne {s p : ByteArray} (h : p ∈ list s) : L p ≠ [] := by
  unfold list at h
  have := (List.mem_filter.1 h).2
  simpa using this
/-- What the elements tell: a number, or an error. -/
def lensB (l : List ByteArray) : Bool := l.any fun y => decide (num y < 0 ∨ num y ≠ num (l.headD ⟨#[]⟩))
def lens (l : List ByteArray) : Int × Int := if l = [] ∨ lensB l = true then (0, 60) else if 65536 < num (l.headD ⟨#[]⟩) then (0, 71) else (num (l.headD ⟨#[]⟩), 0)
def Seen (D : List ByteArray) (z : Int) : Prop := (D = [] ∧ z = -1) ∨ (D ≠ [] ∧ 0 ≤ z ∧ ∀ x ∈ D, num x = z)
theorem Seen.head {D r : List ByteArray} {z : Int} (h : Seen D z) (h0 : 0 ≤ z) : num ((D ++ r).headD ⟨#[]⟩) = z := by
  rcases h with ⟨rfl, h⟩ | ⟨h1, _, h2⟩
  · omega
  · cases D with
    | nil => exact absurd rfl h1
    | cons x t => exact h2 x (by simp)
theorem lens_bad {l : List ByteArray} {x : ByteArray} (hx : x ∈ l) (h : num x < 0 ∨ num x ≠ num (l.headD ⟨#[]⟩)) : lens l = (0, 60) := by
  have hb : lensB l = true := by
    unfold lensB
    rw [List.any_eq_true]
    exact ⟨x, hx, decide_eq_true h⟩
  exact if_pos (.inr hb)
theorem lens_neg {D r : List ByteArray} {x : ByteArray} (h : num x < 0) : lens (D ++ x :: r) = (0, 60) := lens_bad (x := x) (by simp) (.inl h)
theorem lens_diff {D r : List ByteArray} {x : ByteArray} {z : Int} (hs : Seen D z) (h0 : 0 ≤ z) (h : z ≠ num x) : lens (D ++ x :: r) = (0, 60) :=
  lens_bad (x := x) (by simp) (.inr (by rw [hs.head h0]; exact fun e => h e.symm))
theorem Seen.next {D : List ByteArray} {x : ByteArray} {z : Int} (hs : Seen D z) (h : 0 ≤ num x) (he : 0 ≤ z → z = num x) : Seen (D ++ [x]) (num x) := by
  refine .inr ⟨by simp, h, fun y hy => ?_⟩
  rcases List.mem_append.1 hy with hy | hy
  · rcases hs with ⟨rfl, _⟩ | ⟨_, h0, h2⟩
    · cases hy
    · rw [h2 y hy, he h0]
  · simp only [List.mem_cons, List.mem_nil_iff, or_false] at hy
    rw [hy]
theorem Seen.le {D : List ByteArray} {z : Int} (h : Seen D z) : -1 ≤ z := by
  rcases h with ⟨_, h⟩ | ⟨_, h, _⟩ <;> omega
theorem lens_done {l : List ByteArray} {z : Int} (h : Seen l z) : lens l = if z < 0 then (0, 60) else if 65536 < z then (0, 71) else (z, 0) := by
  rcases h with ⟨rfl, rfl⟩ | ⟨h1, h2, h3⟩
  · rfl
  · have hh : num (l.headD ⟨#[]⟩) = z := by
      have := Seen.head (r := []) (.inr ⟨h1, h2, h3⟩) h2
      rwa [List.append_nil] at this
    have hb : lensB l = false := by
      unfold lensB
      rw [← Bool.not_eq_true, List.any_eq_true]
      rintro ⟨y, hy, hd⟩
      have := of_decide_eq_true hd
      rw [h3 y hy, hh] at this
      omega
    unfold lens
    rw [if_neg (by rintro (h | h); exact h1 h; rw [hb] at h; cases h), hh, if_neg (show ¬ z < 0 by omega)]
theorem head_at {l : List ByteArray} (h : 0 < l.length) : l.headD ⟨#[]⟩ = l[0]'h := by
  cases l with
  | nil => exact absurd h (Nat.lt_irrefl _)
  | cons => rfl
theorem lens_all {l : List ByteArray} (h : 0 < l.length) (hg : ∀ t (ht : t < l.length), ¬ (num l[t] < 0 ∨ num l[t] ≠ num (l[0]'h))) : lens l = (if (65536 : Int) < num (l[0]'h) then ((0, 71) : Int × Int) else (num (l[0]'h), 0)) := by
  have hb : lensB l = false := by
    unfold lensB
    rw [← Bool.not_eq_true, List.any_eq_true]
    rintro ⟨y, hy, hd⟩
    obtain ⟨t, ht, rfl⟩ := List.mem_iff_getElem.1 hy
    have := of_decide_eq_true hd
    rw [head_at h] at this
    exact hg t ht this
  have h0 : l ≠ [] := fun e => by rw [e] at h; exact Nat.lt_irrefl _ h
  unfold lens
  rw [if_neg (by rintro (h | h); exact h0 h; rw [hb] at h; cases h), head_at h]
theorem num_lt (s : ByteArray) : num s < 1000000000000000000 := by
  rcases num_cases s with h | ⟨h, v, h2, h3⟩
  · omega
  · have := Lib.decFrom_lt (L s) 0 v (Lib.decNat_some h2).2
    have hp : (10 : Nat) ^ (L s).length ≤ 10 ^ 18 := Nat.pow_le_pow_right (by decide) (by rw [← L_size]; exact h)
    have e : (10 : Nat) ^ 18 = 1000000000000000000 := rfl
    omega
/-- The body's kind, its length, the error. -/
structure FR where
  k : Int
  n : Int
  e : Int
def frame (m : Int) (fs : List FD) (other : Int) : FR :=
  if values fs teN ≠ [] ∧ values fs clN ≠ [] then ⟨0, 0, 61⟩
  else if values fs teN ≠ [] then (if m = 0 ∨ tokens fs teN ≠ [chW] then ⟨0, 0, 62⟩ else ⟨2, 0, 0⟩)
  else if values fs clN = [] then ⟨other, 0, 0⟩
  else if (lens (els (values fs clN))).2 ≠ 0 then ⟨0, 0, (lens (els (values fs clN))).2⟩
  else ⟨1, (lens (els (values fs clN))).1, 0⟩
end F
end Go.Proofs.YteehjkfmlcfffaaGreatDoor

namespace Go.Proofs.YteehjkfmlcfffaaGreatDoor
open Go.RowKit

set_option maxHeartbeats 2000000 in
set_option maxRecDepth 100000 in
theorem refNumber_any (s : ByteArray) (w : World) : Calls Tryz.prog 219 #[.string s] w (RetP w (.int .i64 (F.num s))) := by
  by_cases h1 : s.size < 1
  · have HF : Hid (F.num s = -1) := Lib.hid (F.num_none (by
      have : L s = [] := List.eq_nil_of_length_eq_zero (by rw [← L_size]; omega)
      rw [this]; rfl))
    have h1i : (s.size : Int) < 1 := by omega
    go_enter Tryz.func219, Tryz.ntmps219
    go_wp2
    go_ret
    exact ⟨by rw [HF.out]; rfl, rfl⟩
  · have h1i : ¬ (s.size : Int) < 1 := by omega
    by_cases h2 : 18 < s.size
    · have HF : Hid (F.num s = -1) := Lib.hid (F.num_long (by omega))
      have h2i : (18 : Int) < (s.size : Int) := by omega
      go_enter Tryz.func219, Tryz.ntmps219
      go_wp2
      go_ret
      exact ⟨by rw [HF.out]; rfl, rfl⟩
    · have h2i : ¬ (18 : Int) < (s.size : Int) := by omega
      have HL := Lib.hid (L_size s)
      have h18 : s.size ≤ 18 := by omega
      obtain ⟨R, hR⟩ : ∃ R, F.num s = R := ⟨_, rfl⟩
      have HR := Lib.hid hR
      rw [hR]
      clear hR
      go_enter Tryz.func219, Tryz.ntmps219
      go_wp2
      go_loopw [3, 4] (fun vv vi wr => ∃ (k v : Nat), k ≤ s.size ∧ vv = .int .i64 v ∧ vi = .int .i64 k ∧ Hid (Lib.decFrom 0 ((L s).take k) = some v) ∧ wr = w) (fun _ vi _ => s.size - (intOf vi).toNat)
      case atStart => exact ⟨0, 0, Nat.zero_le _, rfl, rfl, Lib.hid rfl, rfl⟩
      case round =>
        obtain ⟨k, v, hk, rfl, rfl, HD, hww⟩ := hrel
        subst hww
        by_cases hks : k < s.size
        · have hkl : k < (L s).length := by rw [← HL.out]; exact hks
          have hat := L_at s k hks
          have hv : v < 100000000000000000 := by
            have := Lib.decFrom_lt _ 0 v HD.out
            have hlen : ((L s).take k).length = k := by rw [List.length_take, ← HL.out]; omega
            rw [hlen] at this
            have hp : (10 : Nat) ^ k ≤ 10 ^ 17 := Nat.pow_le_pow_right (by decide) (by omega)
            have e : (10 : Nat) ^ 17 = 100000000000000000 := rfl
            omega
          have hki : (k : Int) < (s.size : Int) := by omega
          have HNX := Lib.hid (fun d (h : Lib.digitVal (L s)[k] = some d) => Lib.decFrom_take (L s) k 0 v _ d HD.out (List.getElem?_eq_getElem hkl) h)
          have HBAD := Lib.hid (fun (h : Lib.digitVal (L s)[k] = none) => show R = -1 from by
            rw [← HR.out]
            refine F.num_none ?_
            cases hd : Lib.decNat (L s) with
            | none => rfl
            | some u =>
              obtain ⟨d, hd2⟩ := Lib.digit_of_decFrom (L s) 0 u (Lib.decNat_some hd).2 k _ (List.getElem?_eq_getElem hkl)
              rw [h] at hd2; cases hd2)
          obtain ⟨x, hxx⟩ : ∃ x, (L s)[k]'hkl = x := ⟨_, rfl⟩
          rw [hxx] at hat HNX HBAD
          have hx256 : x.toNat < 256 := x.toNat_lt
          clear hxx
          by_cases hd : 48 ≤ x.toNat ∧ x.toNat ≤ 57
          · have hdv : Lib.digitVal x = some (x.toNat - 48) := if_pos hd
            have HN := Lib.hid (HNX.out _ hdv)
            have g1 : ¬ (x.toNat : Int) < 48 := by omega
            have g2 : ¬ (57 : Int) < (x.toNat : Int) := by omega
            have hv0 : (v : Int) < 100000000000000000 := by omega
            clear HNX HBAD hdv
            go_wp2
            go_roundw
            case rel => first | exact ⟨k + 1, v * 10 + (x.toNat - 48), by omega, by go_num, by go_num, HN, rfl⟩ | exact ⟨k + 1, v * 10 + (x.toNat - 48), by omega, by go_num, by go_num, HN, trivial⟩
            case measure => simp [intOf]; omega
          · have HF := Lib.hid (HBAD.out (if_neg hd))
            have hd2 : x.toNat < 48 ∨ (¬ x.toNat < 48 ∧ 57 < x.toNat) := by omega
            clear HNX HBAD hd
            rcases hd2 with g | ⟨g0, g⟩
            · have g1 : (x.toNat : Int) < 48 := by omega
              go_wp2
              go_ret
              exact ⟨by rw [HF.out]; rfl, rfl⟩
            · have g1 : ¬ (x.toNat : Int) < 48 := by omega
              have g2 : (57 : Int) < (x.toNat : Int) := by omega
              go_wp2
              go_ret
              exact ⟨by rw [HF.out]; rfl, rfl⟩
        · have hki : ¬ (k : Int) < (s.size : Int) := by omega
          have HF : Hid (R = (v : Int)) := Lib.hid (by
            have hd := HD.out
            rw [List.take_of_length_le (by rw [← HL.out]; omega)] at hd
            rw [← HR.out]
            refine F.num_ok h18 ?_
            unfold Lib.decNat
            have : (L s).isEmpty = false := by
              cases hh : L s with
              | nil => have h0 := HL.out; rw [hh] at h0; exact absurd (show s.size < 1 by rw [h0]; decide) h1
              | cons => rfl
            rw [this]
            exact hd)
          go_wp2
          go_ret
          exact ⟨by rw [HF.out]; rfl, rfl⟩

/-- Two numbers, answered. -/
def RetII (w : World) (r : Int × Int) (e : Ending) (w' : World) : Prop := e = .returned (.tuple #[.int .i64 r.1, .int .i64 r.2]) ∧ Below w.heap.size w w'
theorem digTrim_yes {s : ByteArray} (h : (L s).all P.dig = true) : B (Lib.trimS (L s) digs) = ⟨#[]⟩ := by
  rw [(trim_digs (L s)).2 h]; rfl
theorem digTrim_no {s : ByteArray} (h : ¬ (L s).all P.dig = true) : ¬ (B (Lib.trimS (L s) digs)).toList = [] := fun k => h ((trim_digs (L s)).1 (by rw [L_toList, L_B] at k; exact k))
theorem atoi18_any (s : ByteArray) (v : Nat) (w : World) (hs : s.size ≤ 18) (hv : Lib.decNat (L s) = some v) : Calls Tryz.prog 214 #[.string s] w (fun e w' => e = .returned (.tuple #[.int .i64 v, .nilIface]) ∧ Below w.heap.size w w') := by
  refine (Tryz.strconv_Atoi s v hs (F.atoi_dec hv) w).mono ?_
  rintro e w' ⟨rfl, t, rfl⟩
  exact ⟨rfl, Lib.bytesWorld_below _ _ _⟩
set_option maxHeartbeats 4000000 in
set_option maxRecDepth 100000 in
theorem frameLength_any (A : Option Addr) (n c : Nat) (vs : List ByteArray) (w : World) (hn : n ≤ 1099511627776) (hl : vs.length = n) (hsm : ∀ v ∈ vs, v.size ≤ 1099511627776) (hx : Rd w A n 1 (scells vs)) :
    Calls Tryz.prog 231 #[.slice A n c] w (RetII w (F.lens (F.els vs))) := by
  have HS := Lib.hid hsm
  have HN := Lib.hid hl.symm
  obtain ⟨R, hR⟩ : ∃ R, F.lens (F.els vs) = R := ⟨_, rfl⟩
  have HR := Lib.hid hR
  rw [hR]
  clear hR hsm hl
  go_enter Tryz.func231, Tryz.ntmps231
  go_wp2
  go_loopw [4, 13] (fun vz vi wr => ∃ (k : Nat) (z : Int), k ≤ n ∧ vz = .int .i64 z ∧ vi = .int .i64 k ∧ z < 1000000000000000000 ∧ F.Seen (F.els (vs.take k)) z ∧ Below w.heap.size w wr) (fun _ vi _ => n - (intOf vi).toNat)
  case atStart => exact ⟨0, -1, Nat.zero_le _, rfl, rfl, by omega, .inl ⟨rfl, rfl⟩, Below.refl _ _⟩
  case round =>
    obtain ⟨wo, rfl⟩ : ∃ wo : World, wo = wr := ⟨_, rfl⟩
    obtain ⟨k, z, hk, rfl, rfl, hz, hse, hbel⟩ := hrel
    have hzl := hse.le
    have HSE := Lib.hid hse
    have HB := Lib.hid hbel
    by_cases hlt : k < n
    · have hkl : k < vs.length := by rw [← HN.out]; exact hlt
      obtain ⟨b, o, rfl, hb, c1⟩ := (hx.below hbel).str hlt HN.out.symm
      have hsn := F.els_snoc vs k hkl
      obtain ⟨rr, hsp⟩ := F.els_split vs k hkl
      have hsx := HS.out _ (List.getElem_mem hkl)
      obtain ⟨x, hxk⟩ : ∃ x, x = vs[k]'hkl := ⟨_, rfl⟩
      rw [← hxk] at hsn c1 hsx hsp
      have HSN := Lib.hid hsn
      have HSP := Lib.hid hsp
      clear hxk hsn hsp hse hbel
      go_wp2_with fail
      refine (list_any x _ hsx).mono ?_
      rintro e w2 ⟨E, de, rfl, hE, hb2⟩
      have HB2 := Lib.hid (below_then HB.out.size HB.out hb2)
      have hes : ∀ p ∈ F.list x, p.size ≤ 1099511627776 := fun p hp => Nat.le_trans (mem_list hp) hsx
      have hen : ∀ p ∈ F.list x, L p ≠ [] := fun p hp => F.list_ne hp
      have hnel : (F.list x).length ≤ 1099511627777 := by have := list_len x; omega
      obtain ⟨es, hxs⟩ : ∃ es, es = F.list x := ⟨_, rfl⟩
      rw [← hxs] at hE hes hen hnel HSN HSP ⊢
      obtain ⟨ne, hne⟩ : ∃ ne, ne = es.length := ⟨_, rfl⟩
      rw [← hne] at hE hnel ⊢
      have HNE := Lib.hid hne
      have HES := Lib.hid hes
      have HEN := Lib.hid hen
      have HE := Lib.hid hE.rd
      clear hb2 hxs hne hes hen hE HB c1
      go_wp2
      go_loopw [4, 20] (fun vz vj wi => ∃ (j : Nat) (y : Int), j ≤ ne ∧ vz = .int .i64 y ∧ vj = .int .i64 j ∧ y < 1000000000000000000 ∧ F.Seen (F.els (vs.take k) ++ es.take j) y ∧ Rd wi E ne 1 (scells es) ∧ Below w.heap.size w wi) (fun _ vj _ => ne - (intOf vj).toNat)
      case atStart => exact ⟨0, z, Nat.zero_le _, rfl, rfl, hz, by rw [List.take_zero, List.append_nil]; exact HSE.out, HE.out, HB2.out⟩
      case round =>
        clear HB2 HE HSE hzl hz
        obtain ⟨wp, rfl⟩ : ∃ wp : World, wp = wr := ⟨_, rfl⟩
        obtain ⟨j, y, hj, rfl, rfl, hy, hse2, hrd2, hbel2⟩ := hrel
        have hyl := hse2.le
        have HSE2 := Lib.hid hse2
        have HB3 := Lib.hid hbel2
        by_cases hlt2 : j < ne
        · have hjl : j < es.length := by rw [← HNE.out]; exact hlt2
          obtain ⟨b2, o2, rfl, hb2, c2⟩ := hrd2.str hlt2 HNE.out.symm
          have HRD2 := Lib.hid hrd2
          have hsy := HES.out _ (List.getElem_mem hjl)
          have hny := HEN.out _ (List.getElem_mem hjl)
          have hsn2 : es.take (j + 1) = es.take j ++ [es[j]'hjl] := List.take_succ_eq_append_getElem hjl
          have hdr : es = es.take j ++ (es[j]'hjl :: es.drop (j + 1)) := by
            conv => lhs; rw [← List.take_append_drop j es, List.drop_eq_getElem_cons hjl]
          have HSP2 := Lib.hid (show ∃ q, F.els vs = (F.els (vs.take k) ++ es.take j) ++ (es[j]'hjl :: q) from ⟨es.drop (j + 1) ++ rr, by
            rw [HSP.out]
            conv => lhs; rw [hdr]
            simp only [List.append_assoc, List.cons_append]⟩)
          obtain ⟨s, hsj⟩ : ∃ s, es[j]'hjl = s := ⟨_, rfl⟩
          rw [hsj] at c2 hsy hny hsn2 HSP2
          have HSN2 := Lib.hid hsn2
          obtain ⟨q, hq⟩ := HSP2.out
          rw [hq] at HR
          have HNY := Lib.hid hny
          clear hsn2 hdr HSP2 hsj hse2 hbel2 hrd2 hq hny
          by_cases h18 : s.size ≤ 18
          · have h18i : ¬ (18 : Int) < (s.size : Int) := by omega
            by_cases hal : (L s).all P.dig = true
            · obtain ⟨v, hv⟩ := (F.decNat_iff (L s)).2 ⟨HNY.out, hal⟩
              have hnum := F.num_ok h18 hv
              have hvl := F.num_lt s
              rw [hnum] at hvl
              have HT := Lib.hid (digTrim s wp (by omega))
              have ht := digTrim_yes hal
              rw [ht] at HT
              have HAT := Lib.hid (fun u => atoi18_any s v u h18 hv)
              have HNUM := Lib.hid hnum
              clear hal hv hnum ht
              go_wp2_with fail
              refine HT.out.mono ?_
              rintro e w3 ⟨rfl, hb3⟩
              have HB4 := Lib.hid (below_then HB3.out.size HB3.out hb3)
              have HRD3 := Lib.hid (HRD2.out.below hb3)
              clear hb3 HT HRD2 HB3 c2
              go_wp2_with fail
              refine (HAT.out _).mono ?_
              rintro e w4 ⟨rfl, hb4⟩
              have HB5 := Lib.hid (below_then HB4.out.size HB4.out hb4)
              have HRD4 := Lib.hid (HRD3.out.below hb4)
              clear hb4 HAT HRD3 HB4
              by_cases hy0 : 0 ≤ y
              · by_cases hyv : y = v
                · have HNX := Lib.hid (HSE2.out.next (x := s) (by rw [HNUM.out]; omega) (fun _ => by rw [HNUM.out]; exact hyv))
                  rw [HNUM.out, List.append_assoc, ← HSN2.out] at HNX
                  have hyb : (y != (v : Int)) = false := by rw [bne_eq_false_iff_eq]; exact hyv
                  have hyi : ¬ y < 0 := by omega
                  clear hyv HR HSE2
                  go_wp2
                  go_roundw
                  case rel => exact ⟨j + 1, v, by omega, rfl, by go_num, hvl, HNX.out, HRD4.out, HB5.out⟩
                  case measure => simp [intOf]; omega
                · have HF := Lib.hid (HR.out.symm.trans (F.lens_diff (r := q) HSE2.out hy0 (by rw [HNUM.out]; exact hyv)))
                  have hyb : (y != (v : Int)) = true := by rw [bne_iff_ne]; exact hyv
                  clear hyv HR HSE2
                  go_wp2
                  refine bodyPost_ret (v := .tuple #[.int .i64 0, .int .i64 60]) (by simp [results, Tryz.results231, go_sem]) rfl ?_
                  exact ⟨by rw [HF.out], HB5.out⟩
              · have HNX := Lib.hid (HSE2.out.next (x := s) (by rw [HNUM.out]; omega) (fun h => absurd h hy0))
                rw [HNUM.out, List.append_assoc, ← HSN2.out] at HNX
                obtain rfl : y = -1 := by omega
                clear HR HSE2 hy0 hyl hy
                go_wp2
                go_roundw
                case rel => exact ⟨j + 1, v, by omega, rfl, by go_num, hvl, HNX.out, HRD4.out, HB5.out⟩
                case measure => simp [intOf]; omega
            · have HF := Lib.hid (HR.out.symm.trans (F.lens_neg (r := q) (D := F.els (vs.take k) ++ es.take j) (x := s) (by
                rw [F.num_none]
                · decide
                · cases hd : Lib.decNat (L s) with
                  | none => rfl
                  | some v => exact absurd ((F.decNat_iff (L s)).1 ⟨v, hd⟩).2 hal)))
              have HT := Lib.hid (digTrim s wp (by omega))
              have hne2 := digTrim_no hal
              generalize B (Lib.trimS (L s) digs) = tt at *
              have hne3 : tt.toList.isEmpty = false := by
                cases hh : tt.toList with
                | nil => exact absurd hh hne2
                | cons => rfl
              clear hal HR HSE2
              go_wp2_with fail
              refine HT.out.mono ?_
              rintro e w3 ⟨rfl, hb3⟩
              have HB4 := Lib.hid (below_then HB3.out.size HB3.out hb3)
              clear hb3 HT HRD2 HB3 c2
              go_wp2
              refine bodyPost_ret (v := .tuple #[.int .i64 0, .int .i64 60]) (by simp [results, Tryz.results231, go_sem]) rfl ?_
              exact ⟨by rw [HF.out], HB4.out⟩
          · have h18i : (18 : Int) < (s.size : Int) := by omega
            have HF := Lib.hid (HR.out.symm.trans (F.lens_neg (r := q) (D := F.els (vs.take k) ++ es.take j) (x := s) (by rw [F.num_long h18]; decide)))
            clear HR HSE2
            go_wp2
            refine bodyPost_ret (v := .tuple #[.int .i64 0, .int .i64 60]) (by simp [results, Tryz.results231, go_sem]) rfl ?_
            exact ⟨by rw [HF.out], HB3.out⟩
        · have hjn : j = ne := by omega
          have ht : es.take j = es := List.take_of_length_le (by rw [← HNE.out]; omega)
          have HSE3 : Hid (F.Seen (F.els (vs.take (k + 1))) y) := Lib.hid (by
            rw [HSN.out]
            have := HSE2.out
            rwa [ht] at this)
          have hji : ¬ (j : Int) < (ne : Int) := by omega
          clear hjn ht HSE2 hse2 hbel2 hrd2
          go_wp2
          go_roundw
          case rel => exact ⟨k + 1, y, by omega, rfl, by go_num, hy, HSE3.out, HB3.out⟩
          case measure => simp [intOf]; omega
    · have hd := F.lens_done (l := F.els vs) (z := z) (by
        have := HSE.out
        rwa [List.take_of_length_le (by rw [← HN.out]; omega)] at this)
      rw [HR.out] at hd
      have HD := Lib.hid hd
      have hki : ¬ (k : Int) < (n : Int) := by omega
      clear hd HSE hse hbel HR
      by_cases hz0 : z < 0
      · have HF := Lib.hid (HD.out.trans (if_pos hz0))
        clear HD
        go_wp2
        refine bodyPost_ret (v := .tuple #[.int .i64 0, .int .i64 60]) (by simp [results, Tryz.results231, go_sem]) rfl ?_
        exact ⟨by rw [HF.out], HB.out⟩
      · have HD2 := Lib.hid (HD.out.trans (if_neg hz0))
        clear HD
        by_cases hz1 : 65536 < z
        · have HF := Lib.hid (HD2.out.trans (if_pos hz1))
          clear HD2
          go_wp2
          refine bodyPost_ret (v := .tuple #[.int .i64 0, .int .i64 71]) (by simp [results, Tryz.results231, go_sem]) rfl ?_
          exact ⟨by rw [HF.out], HB.out⟩
        · have HF := Lib.hid (HD2.out.trans (if_neg hz1))
          clear HD2
          go_wp2
          refine bodyPost_ret (v := .tuple #[.int .i64 z, .int .i64 0]) (by simp [results, Tryz.results231, go_sem]) rfl ?_
          exact ⟨by rw [HF.out], HB.out⟩
end Go.Proofs.YteehjkfmlcfffaaGreatDoor
