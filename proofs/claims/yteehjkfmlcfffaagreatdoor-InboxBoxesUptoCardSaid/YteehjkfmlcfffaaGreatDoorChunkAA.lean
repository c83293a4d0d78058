/- strconv.ParseUint at base 16 and 32 bits, a text of at most eight bytes: the number, or an error. The walks of bytes.IndexByte, bytes.HasSuffix and bytes.Cut at a semicolon; of chunk.size. The walk of the decoder's readSize. The walk of the decoder's readData. -/
import Derived.Test.YteehjkfmlcfffaaGreatDoorAtoi
import Derived.Test.YteehjkfmlcfffaaGreatDoorChunkP
import Derived.Lib.AtoiAllMem
import Derived.Test.YteehjkfmlcfffaaGreatDoorHeadB
import Derived.Test.YteehjkfmlcfffaaGreatDoorQuoteA
import Derived.Test.YteehjkfmlcfffaaGreatDoorRegionA
namespace Go.Proofs.YteehjkfmlcfffaaGreatDoor
open Go.RowKit

namespace C
/-- The text spells a number. -/
def okH (l : List UInt8) : Bool := !l.isEmpty && l.all isHex
theorem val_snoc (l : List UInt8) (c : UInt8) : val (l ++ [c]) = val l * 16 + hex c := by
  unfold val
  rw [List.foldl_append]
  rfl
/-- What internal/strconv.lower answers. -/
def lw (c : UInt8) : Int := bits .or .u8 c.toNat 32
def kindOf (c : UInt8) : Bool :=
  if 48 ≤ c.toNat ∧ c.toNat ≤ 57 then decide (hex c = (c.toNat : Int) - 48) else
  if 97 ≤ lw c ∧ lw c ≤ 102 then decide (hex c = lw c - 87) && c != 95 else
  decide (hex c = -1) && decide (0 ≤ lw c) && decide (lw c < 256) && (c != 95 || decide (lw c = 127))
theorem kind_all : ∀ n : Fin 256, kindOf (UInt8.ofNat n.1) = true := by decide +kernel
theorem kind (c : UInt8) : (48 ≤ c.toNat ∧ c.toNat ≤ 57 ∧ hex c = (c.toNat : Int) - 48) ∨ (¬ (48 ≤ c.toNat ∧ c.toNat ≤ 57) ∧ c.toNat ≠ 95 ∧ 97 ≤ lw c ∧ lw c ≤ 102 ∧ hex c = lw c - 87) ∨ (¬ (48 ≤ c.toNat ∧ c.toNat ≤ 57) ∧ hex c = -1 ∧ 0 ≤ lw c ∧ lw c < 256 ∧ (lw c < 97 ∨ 103 ≤ lw c) ∧ (c.toNat = 95 → lw c = 127)) := by
  have h := kind_all ⟨c.toNat, c.toNat_lt⟩
  simp only [UInt8.ofNat_toNat] at h
  unfold kindOf at h
  split at h
  · rename_i h1
    exact .inl ⟨h1.1, h1.2, of_decide_eq_true h⟩
  · rename_i h1
    split at h
    · rename_i h2
      rw [Bool.and_eq_true, decide_eq_true_eq] at h
      refine .inr (.inl ⟨h1, fun h3 => ?_, h2.1, h2.2, h.1⟩)
      have h4 : c = 95 := UInt8.toNat_inj.1 h3
      rw [h4] at h
      exact absurd h.2 (by decide)
    · rename_i h2
      simp only [Bool.and_eq_true, decide_eq_true_eq, Bool.or_eq_true] at h
      refine .inr (.inr ⟨h1, h.1.1.1, h.1.1.2, h.1.2, by omega, fun h3 => ?_⟩)
      have h4 : c = 95 := UInt8.toNat_inj.1 h3
      rcases h.2 with h5 | h5
      · rw [h4] at h5
        exact absurd h5 (by decide)
      · exact h5
theorem hex_lo (c : UInt8) : -1 ≤ hex c ∧ hex c ≤ 15 := by
  rcases kind c with ⟨_, _, h⟩ | ⟨_, _, _, _, h⟩ | ⟨_, h, _⟩ <;> omega
theorem isHex_iff (c : UInt8) : isHex c = true ↔ 0 ≤ hex c := by unfold isHex; exact decide_eq_true_iff
theorem isHex_no {c : UInt8} (h : hex c = -1) : isHex c = false := by unfold isHex; rw [h]; rfl
theorem val_bound (l : List UInt8) (h : l.all isHex = true) : 0 ≤ val l ∧ val l < 16 ^ l.length := by
  have hgen : ∀ (k : Nat) (l : List UInt8), l.length = k → l.all isHex = true → 0 ≤ val l ∧ val l < 16 ^ l.length := by
    intro k
    induction k with
    | zero =>
      intro l hl _
      have : l = [] := List.eq_nil_of_length_eq_zero hl
      subst this
      exact ⟨by decide, by decide⟩
    | succ k ih =>
      intro l hl ha
      have hne : l ≠ [] := fun e => by rw [e] at hl; cases hl
      have e := (List.dropLast_concat_getLast hne).symm
      have hdl : l.dropLast.length = k := by rw [List.length_dropLast]; omega
      generalize l.dropLast = a at *
      generalize l.getLast hne = c at *
      subst e
      rw [List.all_append, Bool.and_eq_true] at ha
      obtain ⟨h1, h2⟩ := ih a hdl ha.1
      have hc : 0 ≤ hex c := (isHex_iff c).1 (by simpa using ha.2)
      have hc2 := (hex_lo c).2
      rw [val_snoc, hl, hdl, Int.pow_succ] at *
      omega
  exact hgen _ l rfl h
end C

theorem lowerH_any (c : UInt8) (w : World) : Calls Tryz.prog 371 #[.int .u8 c.toNat] w (RetP w (.int .u8 (C.lw c))) := by
  refine (Tryz.internal_strconv_lower c.toNat w).mono ?_
  rintro e w' ⟨rfl, rfl⟩
  exact ⟨rfl, rfl⟩

/-- A number and an error of the inner package, answered. -/
def RetH (w : World) (l : List UInt8) (e : Ending) (w' : World) : Prop :=
  e = .returned (.tuple #[.int .u64 (if C.okH l then C.val l else 0), if C.okH l then .nilIface else .iface 362 (.int .i64 2)]) ∧ Below w.heap.size w w'

set_option maxHeartbeats 8000000 in
set_option maxRecDepth 100000 in
theorem parseHexIn_any (t : ByteArray) (w : World) (hs : t.size ≤ 8) : Calls Tryz.prog 357 #[.string t, .int .i64 16, .int .i64 32] w (RetH w (L t)) := by
  have hmv : IntKind.u64.wrap (IntKind.u64.wrap 4294967296 - 1) = 4294967295 := by
    rw [IntKind.wrap_u64, IntKind.wrap_u64]
    decide
  by_cases hz : t.size = 0
  · obtain rfl : t = ⟨#[]⟩ := ByteArray.ext (Array.eq_empty_of_size_eq_zero hz)
    go_enter Tryz.func357, Tryz.ntmps357
    go_wp2
    go_ret2
    exact ⟨rfl, Below.refl _ _⟩
  · have hemp : t.toList.isEmpty = false := by
      rw [← decide_eq_emptyBytes]
      exact decide_eq_false (fun h => hz (by rw [h]; rfl))
    have hcv := Lib.run_convert_string_bytes (P := Tryz.prog) w 9 22 5 t (u := .string) Tryz.underlying9 Tryz.underlying22 Tryz.underlying5
    have hB : ∀ j, j < t.size → (Lib.bytesWorld w 5 t).cell? ⟨w.heap.size, j, none⟩ = some (.int .u8 (t.data.toList.getD j 0).toNat) := fun j hj => Lib.bytesWorld_cell w 5 t j hj
    have HBl := Lib.hid (Lib.bytesWorld_below w 5 t)
    obtain ⟨W1, hW1⟩ : ∃ W1, W1 = Lib.bytesWorld w 5 t := ⟨_, rfl⟩
    rw [← hW1] at hcv hB HBl
    clear hW1
    obtain ⟨bs, hL⟩ : ∃ bs, bs = t.data.toList := ⟨_, rfl⟩
    have hLn : bs.length = t.size := by rw [hL, Lib.size_eq]
    have hLL : L t = bs := hL.symm
    rw [← hL] at hB
    rw [hLL]
    clear hL hLL
    go_enter Tryz.func357, Tryz.ntmps357
    go_wp2
    go_loop [12, 13, 101] (fun vu vn vi => ∃ (k : Nat) (a : Int), vu = .bool false ∧ vn = .int .u64 a ∧ vi = .int .i64 k ∧ k ≤ t.size ∧ Hid (a = C.val (bs.take k) ∧ (bs.take k).all C.isHex = true))
      (fun _ _ vi => t.size - (intOf vi).toNat)
    case atStart => exact ⟨0, 0, rfl, rfl, rfl, by omega, rfl, rfl⟩
    case round =>
      obtain ⟨k, a, rfl, rfl, rfl, hk, hh⟩ := hrel
      obtain ⟨ha, hall⟩ := hh.out
      clear hh
      by_cases hkn : k < t.size
      · have hc := hB k hkn
        have hget : bs.getD k 0 = bs[k]'(by omega) := by simp [List.getD, List.getElem?_eq_getElem (show k < bs.length by omega)]
        have htk : bs.take (k + 1) = bs.take k ++ [bs[k]'(by omega)] := (List.take_append_getElem (by omega)).symm
        have hno : C.isHex (bs[k]'(by omega)) = false → C.okH bs = false := fun h => by
          unfold C.okH
          rw [show bs.all C.isHex = false from ?_, Bool.and_false]
          rw [← Bool.not_eq_true, List.all_eq_true]
          exact fun h2 => by rw [h2 _ (List.getElem_mem (show k < bs.length by omega))] at h; cases h
        rw [hget] at hc
        obtain ⟨hv0, hv1⟩ := C.val_bound _ hall
        have hpow : (16 : Int) ^ (bs.take k).length ≤ 268435456 := by
          have h1 : (bs.take k).length ≤ 7 := by rw [List.length_take]; omega
          generalize (bs.take k).length = q at h1
          rcases (by omega : q = 0 ∨ q = 1 ∨ q = 2 ∨ q = 3 ∨ q = 4 ∨ q = 5 ∨ q = 6 ∨ q = 7) with h | h | h | h | h | h | h | h <;> subst h <;> decide
        rw [← ha] at hv0 hv1
        have a1 : a < 268435456 := by omega
        generalize bs[k]'(by omega) = c at hc htk hno
        have hc256 : c.toNat < 256 := c.toNat_lt
        have HB := Lib.hid hB
        have HK := Lib.hid (lowerH_any c)
        have HA := Lib.hid ha
        clear hB hget hpow hv1 ha
        rcases C.kind c with ⟨k1, k2, k3⟩ | ⟨k1, k2, k3, k4, k5⟩ | ⟨k1, k2, k3, k4, k5, k6⟩
        · have HN : Hid (a * 16 + ((c.toNat : Int) - 48) = C.val (bs.take (k + 1)) ∧ (bs.take (k + 1)).all C.isHex = true) := Lib.hid ⟨by rw [htk, C.val_snoc, ← HA.out, k3], by rw [htk, List.all_append, hall]; simp [C.isHex_iff]; omega⟩
          clear hall htk hno HA HK
          go_wp2
          exact ⟨⟨k + 1, _, rfl, rfl, (by first | rfl | (congr 1; omega)), by omega, HN⟩, by simp [intOf]; omega⟩
        · have HN : Hid (a * 16 + (C.lw c - 97 + 10) = C.val (bs.take (k + 1)) ∧ (bs.take (k + 1)).all C.isHex = true) := Lib.hid ⟨by rw [htk, C.val_snoc, ← HA.out, k5]; omega, by rw [htk, List.all_append, hall]; simp [C.isHex_iff]; omega⟩
          clear hall htk hno HA
          generalize C.lw c = q at *
          go_wp2_with (refine (HK.out _).mono ?_; rintro e w' ⟨rfl, rfl⟩)
          all_goals exact ⟨⟨k + 1, _, rfl, rfl, (by first | rfl | (congr 1; omega)), by omega, HN⟩, by simp [intOf]; omega⟩
        · have HF := Lib.hid (hno (C.isHex_no k2))
          clear hno htk hall
          generalize C.lw c = q at *
          by_cases h95 : c.toNat = 95
          · obtain rfl := k6 h95
            rw [h95] at HK hc
            clear k6 k5 k4 k3 k1 k2 h95
            go_wp2_with (refine (HK.out _).mono ?_; rintro e w' ⟨rfl, rfl⟩)
            go_ret2
            exact ⟨by rw [HF.out]; rfl, HBl.out⟩
          · clear k6
            rcases k5 with k5 | k5
            · go_wp2_with (refine (HK.out _).mono ?_; rintro e w' ⟨rfl, rfl⟩)
              all_goals go_ret2
              all_goals exact ⟨by rw [HF.out]; rfl, HBl.out⟩
            · go_wp2_with (refine (HK.out _).mono ?_; rintro e w' ⟨rfl, rfl⟩)
              all_goals go_ret2
              all_goals exact ⟨by rw [HF.out]; rfl, HBl.out⟩
      · obtain rfl : k = t.size := by omega
        have HF : Hid (C.okH bs = true ∧ a = C.val bs) := by
          rw [List.take_of_length_le (by omega)] at ha hall
          refine Lib.hid ⟨?_, ha⟩
          unfold C.okH
          rw [hall, Bool.and_true]
          cases bs with
          | nil => simp at hLn; omega
          | cons x r => rfl
        have ha0 : 0 ≤ a := by
          rw [ha]
          exact (C.val_bound _ hall).1
        clear ha hall hB
        go_wp2
        go_ret2
        refine ⟨?_, HBl.out⟩
        rw [HF.out.1, ← HF.out.2]
        rfl

/-- A number and an error, answered. -/
def RetN (w : World) (l : List UInt8) (e : Ending) (w' : World) : Prop :=
  ∃ b, e = .returned (.tuple #[.int .u64 (if C.okH l then C.val l else 0), b]) ∧ ((C.okH l = true ∧ b = .nilIface) ∨ (C.okH l = false ∧ ∃ t p, b = .iface t (.pointer p))) ∧ Below w.heap.size w w'
theorem toErr_any (s : ByteArray) (w : World) (hs : s.size ≤ 8) (h : ErrOk w) : Calls Tryz.prog 270 #[.string ⟨#[80, 97, 114, 115, 101, 85, 105, 110, 116]⟩, .string s, .int .i64 16, .int .i64 32, .iface 362 (.int .i64 2)] w fun e w' => ∃ t p, e = .returned (.iface t (.pointer p)) ∧ Below w.heap.size w w' := by
  obtain ⟨⟨t1, p1, h1⟩, _⟩ := h
  refine (Any.strconv_toError_syntax Tryz.laysC245 ⟨#[80, 97, 114, 115, 101, 85, 105, 110, 116]⟩ s 16 32 _ w (by omega) h1 (.inr ⟨_, _, rfl⟩)).mono ?_
  rintro e w' ⟨N, rfl, _, _, hb⟩
  exact ⟨_, _, rfl, hb⟩
set_option maxHeartbeats 2000000 in
set_option maxRecDepth 100000 in
theorem parseHex_any (t : ByteArray) (w : World) (hs : t.size ≤ 8) (h : ErrOk w) : Calls Tryz.prog 362 #[.string t, .int .i64 16, .int .i64 32] w (RetN w (L t)) := by
  have HK := Lib.hid (parseHexIn_any t w hs)
  have HE := Lib.hid (fun (u : World) (hu : Below w.heap.size w u) => toErr_any t u hs (h.below hu))
  clear h
  go_enter Tryz.func362, Tryz.ntmps362
  by_cases hok : C.okH (L t) = true
  · go_wp2_with fail
    refine HK.out.mono ?_
    rintro e w1 ⟨rfl, hb1⟩
    rw [if_pos hok, if_pos hok]
    go_wp2
    go_ret2
    refine ⟨.nilIface, ?_, .inl ⟨hok, rfl⟩, hb1⟩
    rw [if_pos hok]
    rfl
  · rw [Bool.not_eq_true] at hok
    have hok2 : ¬ C.okH (L t) = true := by rw [hok]; decide
    have HOK := Lib.hid hok
    have HOK2 := Lib.hid hok2
    clear hok hok2
    go_wp2_with fail
    refine HK.out.mono ?_
    rintro e w1 ⟨rfl, hb1⟩
    rw [if_neg HOK2.out, if_neg HOK2.out]
    go_wp2_with fail
    refine (HE.out w1 hb1).mono ?_
    rintro e w2 ⟨ty, p, rfl, hb2⟩
    have HB := Lib.hid (below_then hb1.size hb1 hb2)
    clear hb1 hb2
    go_wp2
    go_ret2
    refine ⟨.iface ty (.pointer p), ?_, .inr ⟨HOK.out, _, _, rfl⟩, HB.out⟩
    rw [if_neg HOK2.out]
    rfl
end Go.Proofs.YteehjkfmlcfffaaGreatDoor

namespace Go.Proofs.YteehjkfmlcfffaaGreatDoor
open Go.RowKit

theorem indexByte_upto (c : UInt8) : ∀ l : List UInt8, Lib.indexByte l c = if (P.upto (· == c) l).length < l.length then ((P.upto (· == c) l).length : Int) else -1
  | [] => rfl
  | b :: l => by
    unfold Lib.indexByte
    cases hb : b == c
    · have e : P.upto (· == c) (b :: l) = b :: P.upto (· == c) l := by unfold P.upto; simp [hb]
      rw [e, if_neg (by decide), indexByte_upto c l, List.length_cons, List.length_cons]
      generalize (P.upto (· == c) l).length = q
      by_cases h : q < l.length
      · rw [if_pos h, if_neg (by simp), if_pos (by omega)]
        omega
      · rw [if_neg h, if_pos (by rfl), if_neg (by omega)]
    · have e : P.upto (· == c) (b :: l) = [] := by unfold P.upto; simp [hb]
      rw [e, if_pos rfl, if_pos (by simp)]
      rfl
/-- A slice's address behind its first k elements. -/
def addA (A : Option Addr) (c k : Nat) : Option Addr := if c = k then A else A.map fun x => x.add k
theorem Rd.fromA {w : World} {A : Option Addr} {n c k : Nat} {l : List UInt8} (h : Rd w A n 1 (bcells l)) (hnc : n ≤ c) (hk : k ≤ n) : Rd w (addA A c k) (n - k) 1 (bcells (l.drop k)) := by
  have hl := rd_len h
  by_cases hkn : k = n
  · exact ⟨by simp [bcells, hl], fun h0 => by omega⟩
  · obtain ⟨b, o, rfl, _, _⟩ := h.2 (by omega)
    have e : addA (some ⟨b, o, none⟩) c k = some ⟨b, o + k, none⟩ := by
      unfold addA
      rw [if_neg (by omega)]
      show some ((⟨b, o, none⟩ : Addr).add k) = _
      unfold Addr.add
      split <;> simp_all
    rw [e]
    exact h.from_ hk
theorem bindexByte_any (A : Option Addr) (n c : Nat) (x : UInt8) (l : List UInt8) (w : World) (hA : A = none → n = 0 ∧ c = 0) (h : Rd w A n 1 (bcells l)) :
    Calls Tryz.prog 275 #[.slice A n c, .int .u8 x.toNat] w (RetP w (.int .i64 (Lib.indexByte l x))) := by
  cases A with
  | none =>
    obtain ⟨rfl, rfl⟩ := hA rfl
    have hl : l = [] := List.eq_nil_of_length_eq_zero (rd_len h)
    subst hl
    refine (Tryz.bytes_IndexByte_nil x.toNat w).mono ?_
    rintro e w' ⟨rfl, rfl⟩
    exact ⟨rfl, rfl⟩
  | some a =>
    have hl := rd_len h
    refine (Tryz.bytes_IndexByte_at a n c (ints l) x.toNat w (by rw [ints_len]; exact hl) (fun i hi => ?_)).mono ?_
    · have hi' : i < l.length := by omega
      rw [h.cells a rfl (by omega) i (.int .u8 (l[i]'hi').toNat) (by simp [bcells, hi'])]
      simp [ints, List.getD, hi']
    · rintro e w' ⟨rfl, rfl⟩
      rw [bytesOf_ints]
      have : ((x.toNat : Int)).toNat.toUInt8 = x := by rw [Int.toNat_natCast]; exact UInt8.ofNat_toNat
      rw [this]
      exact ⟨rfl, rfl⟩
theorem bsuffix_any (A B0 : Option Addr) (n c m d : Nat) (xs ys : List UInt8) (w : World) (hnc : n ≤ c) (hn : n ≤ 2147483648) (hx : Rd w A n 1 (bcells xs)) (hy : Rd w B0 m 1 (bcells ys)) :
    Calls Tryz.prog 337 #[.slice A n c, .slice B0 m d] w (RetP w (.bool (Lib.hasSuffix xs ys))) := by
  refine (Tryz.bytes_HasSuffix_all A B0 n c m d (ints xs) (ints ys) w (by rw [ints_len]; exact rd_len hx) (by rw [ints_len]; exact rd_len hy) hnc (by omega) (ints_in hx) (ints_in hy)).mono ?_
  rintro e w' ⟨rfl, rfl⟩
  rw [bytesOf_ints, bytesOf_ints]
  exact ⟨rfl, rfl⟩
/-- The part ahead of a semicolon and the one behind it, answered. -/
def RetSemi (w u : World) (c : Nat) (l : List UInt8) (e : Ending) (w' : World) : Prop :=
  ∃ (A2 : Option Addr) (n2 c2 : Nat) (A1 : Option Addr) (f : Bool), e = .returned (.tuple #[.slice A1 (C.numOf l).length c, .slice A2 n2 c2, .bool f]) ∧ Below u.heap.size u w' ∧ Rd w A1 (C.numOf l).length 1 (bcells (C.numOf l)) ∧ Rd w A2 n2 1 (bcells (C.extOf l))
theorem semiCut_any (A B0 : Option Addr) (n c d : Nat) (l : List UInt8) (w u : World) (hnc : n ≤ c) (hn : n ≤ 1073741824) (hA : A = none → c = 0) (h : Rd w A n 1 (bcells l)) (hb : Below w.heap.size w u) (hy : Rd u B0 1 1 (bcells [59])) (ht : LibOk u) :
    Calls Tryz.prog 224 #[.slice A n c, .slice B0 1 d] u (RetSemi w u c l) := by
  have hl := rd_len h
  refine (bcut_any A B0 n c 1 d l [59] u hnc (by omega) (by omega) hA (h.below hb) hy ht).mono ?_
  rintro e w' ⟨rfl, hb2⟩
  have h1 := P.upto_from C.semi l
  have h2 := P.upto_len C.semi l
  have hidx : Lib.index l [59] = if (C.numOf l).length < l.length then ((C.numOf l).length : Int) else -1 := by
    rw [Lib.index_one]
    exact indexByte_upto 59 l
  have htk : l.take (C.numOf l).length = C.numOf l := by
    conv => lhs; arg 2; rw [← h1]
    exact List.take_left
  have hdr : l.drop ((C.numOf l).length + 1) = C.extOf l := by
    unfold C.extOf
    rw [← List.drop_drop]
    congr 1
    conv => lhs; arg 2; rw [← h1]
    exact List.drop_left
  have hle : (C.numOf l).length ≤ l.length := by unfold C.numOf; omega
  rw [hidx]
  by_cases hlt : (C.numOf l).length < l.length
  · rw [if_pos hlt]
    refine ⟨addA A c ((C.numOf l).length + 1), n - ((C.numOf l).length + 1), c - ((C.numOf l).length + 1), A, true, ?_, hb2, ?_, ?_⟩
    · unfold Lib.cutV Lib.fromV
      rw [if_pos (by omega), Int.toNat_natCast]
      rfl
    · have := h.upto (k := (C.numOf l).length) (by omega)
      rwa [htk] at this
    · have := h.fromA hnc (k := (C.numOf l).length + 1) (by omega)
      rwa [hdr] at this
  · rw [if_neg hlt]
    have e1 : (C.numOf l).length = n := by omega
    have e2 : C.numOf l = l := by rw [← htk]; exact List.take_of_length_le (by omega)
    have e3 : C.extOf l = [] := by rw [← hdr]; exact List.drop_eq_nil_of_le (by omega)
    refine ⟨none, 0, 0, A, false, ?_, hb2, ?_, ?_⟩
    · rw [e1]
      rfl
    · rw [e1, e2]
      exact h
    · rw [e3]
      exact Rd.nil _ _ _

/-- The size that a line tells, and whether it tells one. -/
def RetZ (w : World) (l : List UInt8) (e : Ending) (w' : World) : Prop :=
  ∃ v : Int, e = .returned (.tuple #[.int .i64 v, .bool (decide (0 ≤ C.sizeOf l))]) ∧ (0 ≤ C.sizeOf l → v = C.sizeOf l) ∧ Below w.heap.size w w'
theorem C.size_bad {l : List UInt8} (h : C.numOf l = [] ∨ 8 < (C.numOf l).length ∨ (C.numOf l).all C.isHex = false ∨ F.text (B (C.extOf l)) = false) : decide (0 ≤ C.sizeOf l) = false := by
  unfold C.sizeOf
  rw [if_pos h]
  rfl
theorem C.size_good {l : List UInt8} (h1 : C.okH (C.numOf l) = true) (h2 : (C.numOf l).length ≤ 8) (h3 : F.text (B (C.extOf l)) = true) : C.sizeOf l = C.val (C.numOf l) ∧ decide (0 ≤ C.sizeOf l) = true := by
  unfold C.okH at h1
  rw [Bool.and_eq_true] at h1
  have e : C.sizeOf l = C.val (C.numOf l) := by
    unfold C.sizeOf
    rw [if_neg]
    rintro (h | h | h | h)
    · rw [h] at h1; exact absurd h1.1 (by decide)
    · omega
    · rw [h1.2] at h; cases h
    · rw [h3] at h; cases h
  refine ⟨e, ?_⟩
  rw [e]
  exact decide_eq_true (C.val_bound _ h1.2).1
theorem C.okH_no {l : List UInt8} (h : C.okH l = false) : l = [] ∨ l.all C.isHex = false := by
  unfold C.okH at h
  rw [Bool.and_eq_false_iff] at h
  rcases h with h | h
  · exact .inl (by simpa using h)
  · exact .inr h
set_option maxHeartbeats 2000000 in
set_option maxRecDepth 100000 in
theorem csize_any (A : Option Addr) (n c : Nat) (l : List UInt8) (w : World) (hnc : n ≤ c) (hn : n ≤ 1073741824) (hA : A = none → c = 0) (h : Rd w A n 1 (bcells l)) (ht : LibOk w) (he : ErrOk w) :
    Calls Tryz.prog 338 #[.slice A n c] w (RetZ w l) := by
  have hll := rd_len h
  have hcc := Lib.run_convert_bytes_const (P := Tryz.prog) w 22 5 #[.int .u8 59] 1 1 Tryz.underlying22 Tryz.underlying5
  have HB0 := Lib.hid ((Below.refl w.heap.size w).alloc (Nat.le_refl _) (.cells #[.int .u8 59] 5 (1, 2)))
  have HC := Lib.hid (semiCut_any A (some ⟨w.heap.size, 0, none⟩) n c 1 l w (w.alloc (.cells #[.int .u8 59] 5 (1, 2))) hnc hn hA h HB0.out (Rd.newRowM w 5 #[.int .u8 59] (1, 2) 1 1 rfl) (ht.below HB0.out))
  have HT := Lib.hid (fun (u : World) (hu : Below w.heap.size w u) => he.below hu)
  have hk0 : (C.numOf l).length ≤ 1073741824 := by
    have := P.upto_len C.semi l
    unfold C.numOf
    omega
  clear ht he
  go_enter Tryz.func338, Tryz.ntmps338
  go_wp2_with fail
  clear hcc
  refine HC.out.mono ?_
  rintro e w1 ⟨A2, n2, c2, A1, f, rfl, hb1, hr1, hr2⟩
  have HB1 := Lib.hid (below_then HB0.out.size HB0.out hb1)
  clear HC HB0 hb1 h
  have HR1 := Lib.hid hr1
  have HR2 := Lib.hid hr2
  clear hr1 hr2
  have HSL := Lib.hid (rfl : C.numOf l = C.numOf l)
  obtain ⟨k, hk⟩ : ∃ k, k = (C.numOf l).length := ⟨_, rfl⟩
  rw [← hk] at HR1 hk0 ⊢
  by_cases h8 : 8 < k
  · have HF := Lib.hid (C.size_bad (l := l) (.inr (.inl (by omega))))
    have HF2 : Hid (¬ 0 ≤ C.sizeOf l) := Lib.hid (of_decide_eq_false HF.out)
    have h8i : (8 : Int) < k := by omega
    clear hk
    go_wp2
    refine bodyPost_ret (v := .tuple #[.int .i64 0, .bool false]) (by simp [results, Tryz.results338, go_sem]) rfl ?_
    exact ⟨0, by rw [HF.out], fun h => by have := HF2.out; omega, HB1.out⟩
  · have h8i : ¬ (8 : Int) < k := by omega
    have hcv1 := conv_bs (HR1.out.below HB1.out) c
    have HN := Lib.hid (parseHex_any (B (C.numOf l)) w1 (by rw [B_size]; omega) (HT.out w1 HB1.out))
    have hl2 : n2 ≤ n := by
      have h1 := rd_len HR2.out
      have h2 := P.upto_len C.semi l
      unfold C.extOf at h1
      rw [List.length_drop] at h1
      omega
    have HQ : Hid (∀ u : World, Calls Tryz.prog 237 #[.string (B (C.extOf l))] u (RetQuote u (F.text (B (C.extOf l))))) := Lib.hid fun u => quote_any _ u (by rw [B_size, rd_len HR2.out]; omega)
    have HGB := Lib.hid (fun (h1 : C.okH (C.numOf l) = true) (h3 : F.text (B (C.extOf l)) = true) => C.size_good (l := l) h1 (by omega) h3)
    have HB3 : Hid (C.okH (C.numOf l) = false → decide (0 ≤ C.sizeOf l) = false) := Lib.hid fun h => by
      rcases C.okH_no h with h | h
      · exact C.size_bad (.inl h)
      · exact C.size_bad (.inr (.inr (.inl h)))
    have HB4 : Hid (F.text (B (C.extOf l)) = false → decide (0 ≤ C.sizeOf l) = false) := Lib.hid fun h => C.size_bad (.inr (.inr (.inr h)))
    have hvb : C.okH (C.numOf l) = true → 0 ≤ C.val (C.numOf l) ∧ C.val (C.numOf l) < 4294967296 := fun h => by
      unfold C.okH at h
      rw [Bool.and_eq_true] at h
      obtain ⟨g1, g2⟩ := C.val_bound _ h.2
      refine ⟨g1, ?_⟩
      rw [← hk] at g2
      have : (16 : Int) ^ k ≤ 4294967296 := by
        rcases (by omega : k = 0 ∨ k = 1 ∨ k = 2 ∨ k = 3 ∨ k = 4 ∨ k = 5 ∨ k = 6 ∨ k = 7 ∨ k = 8) with h | h | h | h | h | h | h | h | h <;> subst h <;> decide
      omega
    obtain ⟨V, hV, hV0, hV1⟩ : ∃ V, V = (if C.okH (C.numOf l) then C.val (C.numOf l) else 0) ∧ 0 ≤ V ∧ V < 4294967296 := by
      refine ⟨_, rfl, ?_⟩
      cases hok : C.okH (C.numOf l)
      · simp
      · simpa using hvb hok
    have HV := Lib.hid hV
    clear hvb hV hk
    go_wp2_with fail
    refine HN.out.mono ?_
    rintro e w2 ⟨b, rfl, hb, hb2⟩
    rw [L_B, ← HV.out]
    have HB2 := Lib.hid (below_then HB1.out.size HB1.out hb2)
    have HBV := Lib.hid hb
    have hcv2 := conv_bs (HR2.out.below HB2.out) c2
    clear hcv1 HN HB1 HR1 hb hb2
    go_wp2_with fail
    refine (HQ.out w2).mono ?_
    rintro e w3 ⟨q, rfl, hb3⟩
    have HB3' := Lib.hid (below_then HB2.out.size HB2.out hb3)
    clear hcv2 HQ HB2 HR2 hb3
    rcases HBV.out with ⟨hok, rfl⟩ | ⟨hok, ty, pp, rfl⟩
    · cases htx : F.text (B (C.extOf l))
      · have HF := Lib.hid (HB4.out htx)
        have HF2 : Hid (¬ 0 ≤ C.sizeOf l) := Lib.hid (of_decide_eq_false HF.out)
        clear HB3 HB4 HGB htx hok
        go_wp2
        refine bodyPost_ret (v := .tuple #[.int .i64 V, .bool false]) (by simp [results, Tryz.results338, go_sem]) rfl ?_
        exact ⟨V, by rw [HF.out], fun h => by have := HF2.out; omega, HB3'.out⟩
      · have HF := Lib.hid (HGB.out hok htx)
        have HVV : Hid (V = C.sizeOf l) := Lib.hid (by rw [HV.out, if_pos (show C.okH (C.numOf l) = true from hok), HF.out.1])
        clear HB3 HB4 HGB htx hok
        go_wp2
        refine bodyPost_ret (v := .tuple #[.int .i64 V, .bool true]) (by simp [results, Tryz.results338, go_sem]) rfl ?_
        exact ⟨V, by rw [HF.out.2], fun _ => HVV.out, HB3'.out⟩
    · have HF := Lib.hid (HB3.out hok)
      have HF2 : Hid (¬ 0 ≤ C.sizeOf l) := Lib.hid (of_decide_eq_false HF.out)
      clear HB3 HB4 HGB hok
      go_wp2
      all_goals refine bodyPost_ret (v := .tuple #[.int .i64 V, .bool false]) (by simp [results, Tryz.results338, go_sem]) rfl ?_
      all_goals exact ⟨V, by rw [HF.out], fun h => by have := HF2.out; omega, HB3'.out⟩
end Go.Proofs.YteehjkfmlcfffaaGreatDoor

namespace Go.Proofs.YteehjkfmlcfffaaGreatDoor
open Go.RowKit

namespace C
theorem eol_get {l : List UInt8} (h : eolAt l < l.length) : l[eolAt l]? = some 10 := by
  have h1 := P.upto_from lf l
  have h2 := P.upto_len lf l
  cases h3 : P.from_ lf l with
  | nil => rw [h3] at h2; simp only [List.length_nil] at h2; unfold eolAt at h; omega
  | cons x r =>
    have h5 := P.from_head h3
    have hx : x = 10 := by unfold lf at h5; simpa using h5
    rw [h3, hx] at h1
    unfold eolAt
    generalize P.upto lf l = u at *
    rw [← h1, List.getElem?_append_right (Nat.le_refl _), Nat.sub_self]
    rfl
theorem line_suffix {l : List UInt8} {k : Nat} (hk : k < l.length) (h10 : l[k]? = some 10) : Lib.hasSuffix (l.take (k + 1)) P.crlf = decide (k ≠ 0 ∧ l.getD (k - 1) 0 = 13) := by
  unfold Lib.hasSuffix
  rw [Bool.eq_iff_iff, List.isSuffixOf_iff_suffix, decide_eq_true_iff, List.suffix_iff_eq_drop]
  have hg : l[k] = 10 := by
    rw [List.getElem?_eq_getElem hk] at h10
    injection h10
  cases k with
  | zero =>
    have e : l.take 1 = [10] := by
      rw [← List.take_append_getElem (i := 0) hk, hg]
      rfl
    rw [e]
    exact ⟨fun h => absurd h (by decide), fun h => absurd rfl h.1⟩
  | succ j =>
    have hj : j < l.length := by omega
    have e : l.take (j + 1 + 1) = l.take j ++ [l[j], 10] := by
      rw [← List.take_append_getElem (i := j + 1) hk, ← List.take_append_getElem (i := j) hj, hg, List.append_assoc]
      rfl
    have hl : (l.take (j + 1 + 1)).length - P.crlf.length = (l.take j).length := by
      rw [List.length_take, List.length_take]
      show min (j + 1 + 1) l.length - 2 = _
      omega
    rw [hl, e, List.drop_left, Nat.add_sub_cancel]
    have hd : l.getD j 0 = l[j] := by simp [List.getD, hj]
    rw [hd]
    constructor
    · intro h
      injection h with h1 _
      exact ⟨by omega, h1.symm⟩
    · rintro ⟨_, h⟩
      rw [h]
      rfl
end C
/-- The decoder: what is left, its stage, its size, its data. -/
structure St (w u : World) (st sz : Int) (A : Option Addr) (n c : Nat) (l : List UInt8) (Da : Option Addr) (dc : Nat) (data : List UInt8) (tv : Value) : Prop where
  blk : Blk u w.heap.size #[.slice A n c, .int .i64 st, .int .i64 sz, .slice Da data.length dc, tv] 291
  low : Below w.heap.size w u
  rd : Rd w A n 1 (bcells l)
  cap : n ≤ c
  nil : A = none → n = 0 ∧ c = 0
  plain : ∀ a, A = some a → a.spot = none ∨ c = 0
  row : Row u (w.heap.size + 1) 5 1 Da data.length dc (bcells data)
theorem plain_add {A : Option Addr} {c k : Nat} (h : ∀ a, A = some a → a.spot = none ∨ c = 0) : ∀ a, addA A c k = some a → a.spot = none ∨ c - k = 0 := by
  intro a ha
  unfold addA at ha
  split at ha
  · exact .inr (by omega)
  · cases A with
    | none => cases ha
    | some b =>
      obtain rfl : b.add k = a := by simpa using ha
      rcases h b rfl with h1 | h1
      · left
        obtain ⟨b1, o, p⟩ := b
        subst h1
        unfold Addr.add
        split <;> simp_all
      · right; omega
theorem nil_add {A : Option Addr} {n c k : Nat} (h : A = none → n = 0 ∧ c = 0) : addA A c k = none → n - k = 0 ∧ c - k = 0 := by
  intro ha
  unfold addA at ha
  split at ha
  · have := h ha; omega
  · cases A with
    | none => have := h rfl; omega
    | some b => cases ha
section
variable {w u : World} {st sz : Int} {A : Option Addr} {n c : Nat} {l : List UInt8} {Da : Option Addr} {dc : Nat} {data : List UInt8} {tv : Value}
theorem St.cells (h : St w u st sz A n c l Da dc data tv) : u.cell? ⟨w.heap.size, 0, none⟩ = some (.slice A n c) ∧ u.cell? ⟨w.heap.size, 1, none⟩ = some (.int .i64 st) ∧ u.cell? ⟨w.heap.size, 2, none⟩ = some (.int .i64 sz) ∧ u.cell? ⟨w.heap.size, 3, none⟩ = some (.slice Da data.length dc) ∧ u.cell? ⟨w.heap.size, 4, none⟩ = some tv := ⟨h.blk.cell 0 rfl, h.blk.cell 1 rfl, h.blk.cell 2 rfl, h.blk.cell 3 rfl, h.blk.cell 4 rfl⟩
theorem St.frees (h : St w u st sz A n c l Da dc data tv) : u.frozen? ⟨w.heap.size, 0, none⟩ = false ∧ u.frozen? ⟨w.heap.size, 1, none⟩ = false ∧ u.frozen? ⟨w.heap.size, 2, none⟩ = false ∧ u.frozen? ⟨w.heap.size, 3, none⟩ = false ∧ u.frozen? ⟨w.heap.size, 4, none⟩ = false := ⟨h.blk.free 0, h.blk.free 1, h.blk.free 2, h.blk.free 3, h.blk.free 4⟩
theorem St.below {v : World} (h : St w u st sz A n c l Da dc data tv) (hb : Below u.heap.size u v) : St w v st sz A n c l Da dc data tv :=
  ⟨h.blk.below hb, below_then h.low.size h.low hb, h.rd, h.cap, h.nil, h.plain, h.row.below hb⟩
theorem St.alloc (h : St w u st sz A n c l Da dc data tv) (o : Obj) : St w (u.alloc o) st sz A n c l Da dc data tv := h.below ((Below.refl _ _).alloc (Nat.le_refl _) _)
theorem St.rdu (h : St w u st sz A n c l Da dc data tv) : Rd u A n 1 (bcells l) := h.rd.below h.low
theorem St.ne8 : 291 ≠ 5 := by decide
theorem St.stage (h : St w u st sz A n c l Da dc data tv) (s : Int) : St w (u.setCell ⟨w.heap.size, 1, none⟩ (.int .i64 s)) s sz A n c l Da dc data tv :=
  ⟨h.blk.set 1 (.int .i64 s), below_set h.low (Nat.le_refl _) _ _, h.rd, h.cap, h.nil, h.plain, h.row.farT h.blk St.ne8 _ _⟩
theorem St.sized (h : St w u st sz A n c l Da dc data tv) (s : Int) : St w (u.setCell ⟨w.heap.size, 2, none⟩ (.int .i64 s)) st s A n c l Da dc data tv :=
  ⟨h.blk.set 2 (.int .i64 s), below_set h.low (Nat.le_refl _) _ _, h.rd, h.cap, h.nil, h.plain, h.row.farT h.blk St.ne8 _ _⟩
theorem St.tails (h : St w u st sz A n c l Da dc data tv) (v : Value) : St w (u.setCell ⟨w.heap.size, 4, none⟩ v) st sz A n c l Da dc data v :=
  ⟨h.blk.set 4 v, below_set h.low (Nat.le_refl _) _ _, h.rd, h.cap, h.nil, h.plain, h.row.farT h.blk St.ne8 _ _⟩
theorem St.rest (h : St w u st sz A n c l Da dc data tv) (k : Nat) (hk : k ≤ n) : St w (u.setCell ⟨w.heap.size, 0, none⟩ (.slice (addA A c k) (n - k) (c - k))) st sz (addA A c k) (n - k) (c - k) (l.drop k) Da dc data tv :=
  ⟨h.blk.set 0 (.slice (addA A c k) (n - k) (c - k)), below_set h.low (Nat.le_refl _) _ _, h.rd.fromA h.cap hk, by have := h.cap; omega, nil_add h.nil, plain_add h.plain, h.row.farT h.blk St.ne8 _ _⟩
end
theorem addA_end {A : Option Addr} {c : Nat} : addA A c c = A := if_pos rfl
theorem addA_in {b o c k : Nat} (h : k ≠ c) : addA (some ⟨b, o, none⟩) c k = some ⟨b, o + k, none⟩ := by
  unfold addA
  rw [if_neg (by omega)]
  show some ((⟨b, o, none⟩ : Addr).add k) = _
  unfold Addr.add
  split <;> simp_all
theorem C.sizeOf_lt (l : List UInt8) : C.sizeOf l < 4294967296 := by
  unfold C.sizeOf
  split
  · omega
  · rename_i h
    have h8 : (C.numOf l).length ≤ 8 := by
      rcases Nat.lt_or_ge 8 (C.numOf l).length with h1 | h1
      · exact absurd (.inr (.inl h1)) h
      · exact h1
    have ha : (C.numOf l).all C.isHex = true := by
      cases h2 : (C.numOf l).all C.isHex
      · exact absurd (.inr (.inr (.inl h2))) h
      · rfl
    have g := (C.val_bound _ ha).2
    have : (16 : Int) ^ (C.numOf l).length ≤ 4294967296 := by
      generalize (C.numOf l).length = k at h8
      rcases (by omega : k = 0 ∨ k = 1 ∨ k = 2 ∨ k = 3 ∨ k = 4 ∨ k = 5 ∨ k = 6 ∨ k = 7 ∨ k = 8) with h | h | h | h | h | h | h | h | h <;> subst h <;> decide
    omega
/-- What readSize answers. -/
def RetRS (w : World) (A : Option Addr) (n c : Nat) (l : List UInt8) (Da : Option Addr) (dc : Nat) (data : List UInt8) (tv : Value) (e : Ending) (w' : World) : Prop :=
  ((C.lineE l ≠ 0 ∨ C.lineN l = 0) ∧ e = .returned (.tuple #[.bool false, .int .i64 (C.lineE l)]) ∧ Below w.heap.size w w') ∨
  (¬ (C.lineE l ≠ 0 ∨ C.lineN l = 0) ∧ 65536 < data.length + C.lineS l ∧ e = .returned (.tuple #[.bool false, .int .i64 71]) ∧ Below w.heap.size w w') ∨
  (¬ (C.lineE l ≠ 0 ∨ C.lineN l = 0) ∧ ¬ 65536 < data.length + C.lineS l ∧ e = .returned (.tuple #[.bool true, .int .i64 0]) ∧
    St w w' (if C.lineS l = 0 then 2 else 1) (C.lineS l) (addA A c (C.lineN l)) (n - C.lineN l) (c - C.lineN l) (l.drop (C.lineN l)) Da dc data tv)
set_option maxHeartbeats 4000000 in
set_option maxRecDepth 100000 in
theorem readSize_any (w u : World) (sz : Int) (A : Option Addr) (n c : Nat) (l : List UInt8) (Da : Option Addr) (dc : Nat) (data : List UInt8) (tv : Value) (hS : St w u 0 sz A n c l Da dc data tv) (hd : data.length ≤ 65536) (hn : n ≤ 1073741824) (ht : LibOk w) (he : ErrOk w) :
    Calls Tryz.prog 289 #[.pointer (some ⟨w.heap.size, 0, none⟩)] u (RetRS w A n c l Da dc data tv) := by
  have hll := rd_len hS.rd
  have HS := Lib.hid hS
  have HLT := Lib.hid (fun (v : World) (hv : Below w.heap.size w v) => ht.below hv)
  have HET := Lib.hid (fun (v : World) (hv : Below w.heap.size w v) => he.below hv)
  have HIX : Hid (Calls Tryz.prog 275 #[.slice A n c, .int .u8 10] u (RetP u (.int .i64 (if C.eolAt l < l.length then (C.eolAt l : Int) else -1)))) := Lib.hid (by
    have h := bindexByte_any A n c 10 l u hS.nil (hS.rd.below hS.low)
    rw [indexByte_upto] at h
    exact h)
  clear ht he
  obtain ⟨k, hk⟩ : ∃ k, k = C.eolAt l := ⟨_, rfl⟩
  rw [← hk, hll] at HIX
  have hcap := hS.cap
  obtain ⟨x0, x1, x2, x3, x4⟩ : u.cell? ⟨w.heap.size, 0, none⟩ = some (.slice A n c) ∧ u.cell? ⟨w.heap.size, 1, none⟩ = some (.int .i64 0) ∧ u.cell? ⟨w.heap.size, 2, none⟩ = some (.int .i64 sz) ∧ u.cell? ⟨w.heap.size, 3, none⟩ = some (.slice Da data.length dc) ∧ u.cell? ⟨w.heap.size, 4, none⟩ = some tv := ⟨hS.blk.cell 0 rfl, hS.blk.cell 1 rfl, hS.blk.cell 2 rfl, hS.blk.cell 3 rfl, hS.blk.cell 4 rfl⟩
  go_enter Tryz.func289, Tryz.ntmps289
  by_cases hkn : k < n
  · rw [if_pos hkn] at HIX
    have hkl : C.eolAt l < l.length := by omega
    have HBAD : Hid (C.lineBad l → C.lineE l = 70 ∧ C.lineN l = 0) := Lib.hid fun h => by
      unfold C.lineE C.lineN
      rw [if_pos hkl, if_pos h, if_neg (fun h2 => h2.2 h)]
      exact ⟨rfl, rfl⟩
    have HGOOD : Hid (¬ C.lineBad l → C.lineE l = 0 ∧ C.lineN l = k + 1 ∧ C.lineS l = (C.sizeOf (l.take (k - 1))).toNat) := Lib.hid fun h => by
      unfold C.lineE C.lineN C.lineS
      rw [if_pos hkl, if_neg h, if_pos ⟨hkl, h⟩, if_pos ⟨hkl, h⟩, hk]
      exact ⟨rfl, rfl, rfl⟩
    have hk0 : ¬ (k : Int) < 0 := by omega
    by_cases h2 : 200 ≤ k
    · have HE := Lib.hid (HBAD.out (.inl (by omega)))
      have h2i : (200 : Int) ≤ k := by omega
      clear HBAD HGOOD hkl hk
      go_wp2_with (refine HIX.out.mono ?_; rintro e w1 ⟨rfl, rfl⟩)
      go_ret2
      exact .inl ⟨.inr HE.out.2, by rw [HE.out.1]; rfl, HS.out.low⟩
    · obtain ⟨b, o, rfl, _, _⟩ := hS.rd.2 (by omega)
      have h2i : ¬ (200 : Int) ≤ k := by omega
      have hkc : (k : Int) + 1 ≤ c := by omega
      have hcc := Lib.run_convert_bytes_const (P := Tryz.prog) u 22 5 #[.int .u8 13, .int .u8 10] 2 2 Tryz.underlying22 Tryz.underlying5
      have HB2 := Lib.hid ((Below.refl u.heap.size u).alloc (Nat.le_refl _) (.cells #[.int .u8 13, .int .u8 10] 5 (2, 3)))
      have HK2 := Lib.hid (hS.blk.below HB2.out)
      have HL2 := Lib.hid (below_then hS.low.size hS.low HB2.out)
      have HR2 := Lib.hid (hS.row.below HB2.out)
      have hsx := bsuffix_any (some ⟨b, o, none⟩) (some ⟨u.heap.size, 0, none⟩) (k + 1) c 2 2 (l.take (k + 1)) P.crlf (u.alloc (.cells #[.int .u8 13, .int .u8 10] 5 (2, 3))) (by omega) (by omega) ((hS.rd.upto (by omega)).below HL2.out) (Rd.newRowM u 5 #[.int .u8 13, .int .u8 10] (2, 3) 2 1 rfl)
      rw [C.line_suffix (by omega) (by rw [hk]; exact C.eol_get hkl)] at hsx
      have HSX := Lib.hid hsx
      clear hsx
      have HKK := Lib.hid hk
      clear hk
      go_wp2_with fail
      refine HIX.out.mono ?_
      rintro e w1 ⟨rfl, rfl⟩
      go_wp2_with fail
      clear hcc
      generalize u.alloc (.cells #[.int .u8 13, .int .u8 10] 5 (2, 3)) = u1 at *
      refine HSX.out.mono ?_
      rintro e w1 ⟨rfl, rfl⟩
      clear HSX HIX x0 x1 x2 x3 x4
      obtain ⟨x0, x1, x2, x3, x4⟩ : u1.cell? ⟨w.heap.size, 0, none⟩ = some (.slice (some ⟨b, o, none⟩) n c) ∧ u1.cell? ⟨w.heap.size, 1, none⟩ = some (.int .i64 0) ∧ u1.cell? ⟨w.heap.size, 2, none⟩ = some (.int .i64 sz) ∧ u1.cell? ⟨w.heap.size, 3, none⟩ = some (.slice Da data.length dc) ∧ u1.cell? ⟨w.heap.size, 4, none⟩ = some tv := ⟨HK2.out.cell 0 rfl, HK2.out.cell 1 rfl, HK2.out.cell 2 rfl, HK2.out.cell 3 rfl, HK2.out.cell 4 rfl⟩
      have hk := HKK.out
      by_cases hs : k ≠ 0 ∧ l.getD (k - 1) 0 = 13
      · rw [decide_eq_true hs]
        obtain ⟨j, rfl⟩ : ∃ j, k = j + 1 := ⟨k - 1, by omega⟩
        have HZ := Lib.hid (csize_any (some ⟨b, o, none⟩) j c (l.take j) u1 (by omega) (by omega) (fun h => by cases h) ((hS.rd.upto (by omega)).below HL2.out) (HLT.out u1 HL2.out) (HET.out u1 HL2.out))
        have hjc : (j : Int) ≤ c := by omega
        have hb3 : C.sizeOf (l.take j) < 0 → C.lineBad l := fun h => .inr (.inr (.inr (by rw [← hk]; exact h)))
        have hb4 : ¬ C.sizeOf (l.take j) < 0 → ¬ C.lineBad l := fun h hb => by
          rcases hb with hb | hb | hb | hb
          · omega
          · omega
          · rw [← hk] at hb; exact hb hs.2
          · rw [← hk] at hb; exact h hb
        have HBAD2 := Lib.hid (fun h => HBAD.out (hb3 h))
        have HGOOD2 : Hid (0 ≤ C.sizeOf (l.take j) → C.lineE l = 0 ∧ C.lineN l = j + 2 ∧ C.lineS l = (C.sizeOf (l.take j)).toNat) := Lib.hid (fun h => HGOOD.out (hb4 (by omega)))
        clear hb3 hb4 HBAD HGOOD hs hkl hk HKK hS
        go_wp2_with fail
        refine HZ.out.mono ?_
        rintro e w2 ⟨v, rfl, hv, hb2⟩
        have HS2 := Lib.hid ((HS.out.below HB2.out).below hb2)
        have HVV := Lib.hid hv
        clear hv hb2 HZ HK2 HL2 HR2 HS HB2 x0 x1 x2 x3 x4
        by_cases hz : C.sizeOf (l.take j) < 0
        · have HE := Lib.hid (HBAD2.out hz)
          rw [decide_eq_false (by omega)]
          clear HBAD2 HGOOD2 hz
          go_wp2
          go_ret2
          exact .inl ⟨.inr HE.out.2, by rw [HE.out.1]; rfl, HS2.out.low⟩
        · have HE := Lib.hid (HGOOD2.out (by omega))
          obtain ⟨z, hzz⟩ : ∃ z : Nat, C.sizeOf (l.take j) = z := ⟨(C.sizeOf (l.take j)).toNat, by omega⟩
          have hz32 : (z : Int) < 4294967296 := by rw [← hzz]; exact C.sizeOf_lt _
          have hvz := HVV.out (by omega)
          rw [decide_eq_true (by omega)]
          rw [hzz] at hvz HE
          have hv0 : 0 ≤ v := by omega
          have hv32 : v < 4294967296 := by omega
          have HVZ := Lib.hid hvz
          have HE2 : Hid (C.lineE l = 0 ∧ C.lineN l = j + 2 ∧ C.lineS l = z) := Lib.hid ⟨HE.out.1, HE.out.2.1, by rw [HE.out.2.2, Int.toNat_natCast]⟩
          clear HBAD2 HGOOD2 hz HE hzz HVV hvz hz32
          have HS3 := Lib.hid (HS2.out.rest (j + 2) (by omega))
          obtain ⟨x0, x1, x2, x3, x4⟩ := HS2.out.cells
          obtain ⟨f0, f1, f2, f3, f4⟩ := HS2.out.frees
          have HS4 : Hid (∃ X Y, X = addA (some ⟨b, o, none⟩) c (j + 2) ∧ Y = n - (j + 2)) := Lib.hid ⟨_, _, rfl, rfl⟩
          clear HS4
          have hj2 : ((j + 1 : Nat) : Int) + 1 = ((j + 2 : Nat) : Int) := by omega
          have hnle : ((j + 2 : Nat) : Int) ≤ n := by omega
          have hcle : ((j + 2 : Nat) : Int) ≤ c := by omega
          have HJC : Hid (C.lineN l = j + 2) := Lib.hid HE2.out.2.1
          have HRET : Hid (∀ w4 : World, ∀ st' : Int, st' = (if z = 0 then 2 else 1) → ¬ 65536 < data.length + z → St w w4 st' v (addA (some ⟨b, o, none⟩) c (j + 2)) (n - (j + 2)) (c - (j + 2)) (l.drop (j + 2)) Da dc data tv → RetRS w (some ⟨b, o, none⟩) n c l Da dc data tv (.returned (.tuple #[.bool true, .int .i64 0])) w4) := Lib.hid (by
            intro w4 st' hst hle hs4
            obtain ⟨g1, g2, g3⟩ := HE2.out
            refine .inr (.inr ⟨fun h => h.elim (fun h => h g1) (fun h => by omega), by omega, rfl, ?_⟩)
            rw [g2, g3, ← hst, ← HVZ.out]
            exact hs4)
          have HRET2 : Hid (∀ w4 : World, 65536 < data.length + z → Below w.heap.size w w4 → RetRS w (some ⟨b, o, none⟩) n c l Da dc data tv (.returned (.tuple #[.bool false, .int .i64 71])) w4) := Lib.hid (by
            intro w4 hle hs4
            obtain ⟨g1, g2, g3⟩ := HE2.out
            exact .inr (.inl ⟨fun h => h.elim (fun h => h g1) (fun h => by omega), by omega, rfl, hs4⟩))
          clear HE2
          by_cases hjc : j + 2 = c
          · have hji : ((j + 2 : Nat) : Int) = c := by omega
            have e1 : addA (some ⟨b, o, none⟩) c (j + 2) = some ⟨b, o, none⟩ := by rw [hjc]; exact addA_end
            have e2 : n - (j + 2) = 0 := by omega
            have e3 : c - (j + 2) = 0 := by omega
            rw [e1, e2, e3] at HS3 HRET
            clear e1 e2 e3
            go_upto_region 10 with fail
            generalize w2.setCell ⟨w.heap.size, 0, none⟩ (.slice (some ⟨b, o, none⟩) 0 0) = w3 at *
            clear x0 x1 x2 x3 x4 f0 f1 f2 f3 f4
            have HS5 := Lib.hid ((HS3.out.sized v).stage 1)
            obtain ⟨x0, x1, x2, x3, x4⟩ := HS3.out.cells
            obtain ⟨f0, f1, f2, f3, f4⟩ := HS3.out.frees
            go_upto_region 11 with fail
            generalize (w3.setCell ⟨w.heap.size, 2, none⟩ (.int .i64 v)).setCell ⟨w.heap.size, 1, none⟩ (.int .i64 1) = w5 at *
            clear x0 x1 x2 x3 x4 f0 f1 f2 f3 f4
            obtain ⟨x0, x1, x2, x3, x4⟩ := HS5.out.cells
            obtain ⟨f0, f1, f2, f3, f4⟩ := HS5.out.frees
            by_cases hv00 : v = 0
            · have hz0 : z = 0 := by have := HVZ.out; omega
              clear HVZ
              subst hv00
              have HS6 := Lib.hid (HS5.out.stage 2)
              go_upto_region 13 with fail
              generalize w5.setCell ⟨w.heap.size, 1, none⟩ (.int .i64 2) = w6 at *
              clear x0 x1 x2 x3 x4 f0 f1 f2 f3 f4
              obtain ⟨x0, x1, x2, x3, x4⟩ := HS6.out.cells
              have hov : ¬ (65536 : Int) < (data.length : Int) := by omega
              go_wp2
              go_ret2
              exact HRET.out w6 2 (if_pos hz0).symm (by omega) HS6.out
            · have hz0 : ¬ z = 0 := by have := HVZ.out; omega
              by_cases hov : (65536 : Int) < (data.length : Int) + v
              · have HOV : Hid (65536 < data.length + z) := Lib.hid (by have := HVZ.out; omega)
                clear HVZ hz0
                go_wp2
                go_ret2
                exact HRET2.out w5 HOV.out HS5.out.low
              · have HOV : Hid (¬ 65536 < data.length + z) := Lib.hid (by have := HVZ.out; omega)
                have HZ0 := Lib.hid hz0
                clear HVZ hz0
                go_wp2
                go_ret2
                exact HRET.out w5 1 (if_neg HZ0.out).symm HOV.out HS5.out
          · have hji : ((j + 2 : Nat) : Int) < c := by omega
            rw [addA_in hjc] at HS3 HRET
            go_upto_region 10 with fail
            generalize w2.setCell ⟨w.heap.size, 0, none⟩ (.slice (some ⟨b, o + (j + 2), none⟩) (n - (j + 2)) (c - (j + 2))) = w3 at *
            clear x0 x1 x2 x3 x4 f0 f1 f2 f3 f4
            have HS5 := Lib.hid ((HS3.out.sized v).stage 1)
            obtain ⟨x0, x1, x2, x3, x4⟩ := HS3.out.cells
            obtain ⟨f0, f1, f2, f3, f4⟩ := HS3.out.frees
            go_upto_region 11 with fail
            generalize (w3.setCell ⟨w.heap.size, 2, none⟩ (.int .i64 v)).setCell ⟨w.heap.size, 1, none⟩ (.int .i64 1) = w5 at *
            clear x0 x1 x2 x3 x4 f0 f1 f2 f3 f4
            obtain ⟨x0, x1, x2, x3, x4⟩ := HS5.out.cells
            obtain ⟨f0, f1, f2, f3, f4⟩ := HS5.out.frees
            by_cases hv00 : v = 0
            · have hz0 : z = 0 := by have := HVZ.out; omega
              clear HVZ
              subst hv00
              have HS6 := Lib.hid (HS5.out.stage 2)
              go_upto_region 13 with fail
              generalize w5.setCell ⟨w.heap.size, 1, none⟩ (.int .i64 2) = w6 at *
              clear x0 x1 x2 x3 x4 f0 f1 f2 f3 f4
              obtain ⟨x0, x1, x2, x3, x4⟩ := HS6.out.cells
              have hov : ¬ (65536 : Int) < (data.length : Int) := by omega
              go_wp2
              go_ret2
              exact HRET.out w6 2 (if_pos hz0).symm (by omega) HS6.out
            · have hz0 : ¬ z = 0 := by have := HVZ.out; omega
              by_cases hov : (65536 : Int) < (data.length : Int) + v
              · have HOV : Hid (65536 < data.length + z) := Lib.hid (by have := HVZ.out; omega)
                clear HVZ hz0
                go_wp2
                go_ret2
                exact HRET2.out w5 HOV.out HS5.out.low
              · have HOV : Hid (¬ 65536 < data.length + z) := Lib.hid (by have := HVZ.out; omega)
                have HZ0 := Lib.hid hz0
                clear HVZ hz0
                go_wp2
                go_ret2
                exact HRET.out w5 1 (if_neg HZ0.out).symm HOV.out HS5.out
      · rw [decide_eq_false hs]
        have HE := Lib.hid (HBAD.out (by
          by_cases h0 : k = 0
          · exact .inr (.inl (by omega))
          · exact .inr (.inr (.inl (fun h => hs ⟨h0, by rw [hk]; exact h⟩)))))
        clear HBAD HGOOD hs hkl hk HKK
        go_wp2
        go_ret2
        exact .inl ⟨.inr HE.out.2, by rw [HE.out.1]; rfl, HL2.out⟩
  · rw [if_neg hkn] at HIX
    have hE : C.lineE l = if 200 ≤ n then 70 else 0 := by
      unfold C.lineE
      rw [if_neg (by rw [← hk, hll]; exact hkn), hll]
    have hN : C.lineN l = 0 := by
      unfold C.lineN
      rw [if_neg (by rw [← hk, hll]; exact fun h => hkn h.1)]
    have HE := Lib.hid hE
    have HN := Lib.hid hN
    clear hE hN hk hkn
    by_cases h2 : 200 ≤ n
    · have HE2 := Lib.hid (HE.out.trans (if_pos h2))
      have h2i : ¬ (n : Int) < 200 := by omega
      go_wp2_with (refine HIX.out.mono ?_; rintro e w1 ⟨rfl, rfl⟩)
      go_ret2
      exact .inl ⟨.inr HN.out, by rw [HE2.out]; rfl, HS.out.low⟩
    · have HE2 := Lib.hid (HE.out.trans (if_neg h2))
      have h2i : (n : Int) < 200 := by omega
      go_wp2_with (refine HIX.out.mono ?_; rintro e w1 ⟨rfl, rfl⟩)
      go_ret2
      exact .inl ⟨.inr HN.out, by rw [HE2.out]; rfl, HS.out.low⟩
end Go.Proofs.YteehjkfmlcfffaaGreatDoor

namespace Go.Proofs.YteehjkfmlcfffaaGreatDoor
open Go.RowKit

theorem St.drew {w u : World} {st sz : Int} {A : Option Addr} {n c : Nat} {l : List UInt8} {Da : Option Addr} {dc : Nat} {data : List UInt8} {tv : Value} (h : St w u st sz A n c l Da dc data tv) : St w u.drew st sz A n c l Da dc data tv := h.below (Below.refl _ _).drew
theorem addA_ite {b o c k : Nat} : addA (some ⟨b, o, none⟩) c k = if c = k then some ⟨b, o, none⟩ else some ⟨b, o + k, none⟩ := by
  split
  · rename_i h
    rw [h]
    exact addA_end
  · exact addA_in (by omega)
/-- The data longer. -/
theorem St.more {w u v : World} {st sz : Int} {A : Option Addr} {n c : Nat} {l : List UInt8} {Da : Option Addr} {dc : Nat} {data : List UInt8} {tv : Value} (h : St w u st sz A n c l Da dc data tv) {Da' : Option Addr} {dc' : Nat} {data' : List UInt8} (hr : Row v (w.heap.size + 1) 5 1 Da' data'.length dc' (bcells data')) (ha : App u v Da dc Da' dc') : St w (v.setCell ⟨w.heap.size, 3, none⟩ (.slice Da' data'.length dc')) st sz A n c l Da' dc' data' tv := by
  have hlt := h.blk.lt
  have hb : Blk v w.heap.size #[.slice A n c, .int .i64 st, .int .i64 sz, .slice Da data.length dc, tv] 291 := h.blk.app ha (fun k hk => by have := (h.row.lt k hk).1; omega)
  have hl : Below w.heap.size w v := h.low.trans ((ha.below h.row (by omega)).mono (by omega))
  exact ⟨hb.set 3 (.slice Da' data'.length dc'), below_set hl (Nat.le_refl _) _ _, h.rd, h.cap, h.nil, h.plain, hr.farT hb St.ne8 _ _⟩
/-- What readData answers. -/
def RetRD (w : World) (z : Nat) (A : Option Addr) (n c : Nat) (l : List UInt8) (data : List UInt8) (tv : Value) (e : Ending) (w' : World) : Prop :=
  (n < z + 2 ∧ e = .returned (.tuple #[.bool false, .int .i64 0]) ∧ Below w.heap.size w w') ∨
  (¬ n < z + 2 ∧ P.crlf.isPrefixOf (l.drop z) = false ∧ e = .returned (.tuple #[.bool false, .int .i64 70]) ∧ Below w.heap.size w w') ∨
  (¬ n < z + 2 ∧ ¬ P.crlf.isPrefixOf (l.drop z) = false ∧ e = .returned (.tuple #[.bool true, .int .i64 0]) ∧
    ∃ Da' dc', St w w' 0 z (addA A c (z + 2)) (n - (z + 2)) (c - (z + 2)) (l.drop (z + 2)) Da' dc' (data ++ l.take z) tv)
set_option maxHeartbeats 4000000 in
set_option maxRecDepth 100000 in
theorem readData_any (w u : World) (z : Nat) (A : Option Addr) (n c : Nat) (l : List UInt8) (Da : Option Addr) (dc : Nat) (data : List UInt8) (tv : Value) (hS : St w u 1 z A n c l Da dc data tv) (hd : data.length + z ≤ 65536) (hn : n ≤ 1073741824) :
    Calls Tryz.prog 290 #[.pointer (some ⟨w.heap.size, 0, none⟩)] u (RetRD w z A n c l data tv) := by
  have hll := rd_len hS.rd
  have HS := Lib.hid hS
  have hcap := hS.cap
  obtain ⟨x0, x1, x2, x3, x4⟩ := hS.cells
  go_enter Tryz.func290, Tryz.ntmps290
  by_cases hz : n < z + 2
  · have hzi : (n : Int) < (z : Int) + 2 := by omega
    go_wp2
    go_region
    go_wp2
    go_ret2
    exact .inl ⟨hz, rfl, below_drewN HS.out.low 1⟩
  · obtain ⟨b, o, rfl, _, _⟩ := hS.rd.2 (by omega)
    have hzi : ¬ (n : Int) < (z : Int) + 2 := by omega
    have HZ := Lib.hid hz
    clear hS
    go_wp2
    go_region
    clear x0 x1 x2 x3 x4
    replace HS := Lib.hid HS.out.drew
    generalize u.drew = u1 at *
    go_wp2_with fail
    have hcc := Lib.run_convert_bytes_const (P := Tryz.prog) u1.drew 22 5 #[.int .u8 13, .int .u8 10] 2 2 Tryz.underlying22 Tryz.underlying5
    have HPX : Hid (∀ v : World, St w v 1 z (some ⟨b, o, none⟩) n c l Da dc data tv → ∀ B0, Rd v B0 2 1 (bcells P.crlf) → Calls Tryz.prog 147 #[.slice (some ⟨b, o + z, none⟩) (n - z) (c - z), .slice B0 2 2] v (RetP v (.bool (P.crlf.isPrefixOf (l.drop z))))) := Lib.hid fun v hv B0 hB =>
      bprefix_any _ B0 (n - z) (c - z) 2 2 (l.drop z) P.crlf v (by omega) ((hv.rd.from_ (by omega)).below hv.low) hB
    have hzc : (z : Int) ≤ c := by omega
    have hzc2 : ¬ (z : Int) = c := by omega
    have hzc3 : (z : Int) < c := by omega
    have hS0 := HS.out.drew
    refine wp_region_noPanic ?_
    refine HT.begin (n := 12) (S := (fun v => St w v 1 z (some ⟨b, o, none⟩) n c l Da dc data tv)) (by kernel_rfl) hS0 ?_
    generalize u1.drew = u2 at *
    refine HT.take 0 (.pointer (some ⟨w.heap.size, 0, none⟩)) rfl (by kernel_rfl) (fun _ _ _ h => h) (Or.inl ⟨by rfl, ?_⟩) (?_ : HT _ _ _ _ _ _ _ ⟨#[_, _, _, _, _, _, _, _, _, _, _, _, _, _, _, .pointer (some ⟨w.heap.size, 0, none⟩), _, _, _, _, _, _, _, _, _, _, _, _, _, _, _, _, _, _, _, _, _, _, _, _, _, _, _, _, _, _, _, _, _, _, _, _, _, _, _, _, _, _, _, _, _], []⟩ _)
    · intro u hu
      go_simp
    refine HT.take 1 (.pointer (some ⟨w.heap.size, 0, none⟩)) rfl (by kernel_rfl) (fun _ _ _ h => h) (Or.inl ⟨by rfl, ?_⟩) (?_ : HT _ _ _ _ _ _ _ ⟨#[_, _, _, _, _, _, _, _, _, _, _, _, _, _, _, .pointer (some ⟨w.heap.size, 0, none⟩), .pointer (some ⟨w.heap.size, 0, none⟩), _, _, _, _, _, _, _, _, _, _, _, _, _, _, _, _, _, _, _, _, _, _, _, _, _, _, _, _, _, _, _, _, _, _, _, _, _, _, _, _, _, _, _, _], []⟩ _)
    · intro u hu
      go_simp
    refine HT.take 2 (.pointer (some ⟨w.heap.size, 0, none⟩)) rfl (by kernel_rfl) (fun _ _ _ h => h) (Or.inl ⟨by rfl, ?_⟩) (?_ : HT _ _ _ _ _ _ _ ⟨#[_, _, _, _, _, _, _, _, _, _, _, _, _, _, _, .pointer (some ⟨w.heap.size, 0, none⟩), .pointer (some ⟨w.heap.size, 0, none⟩), .pointer (some ⟨w.heap.size, 0, none⟩), _, _, _, _, _, _, _, _, _, _, _, _, _, _, _, _, _, _, _, _, _, _, _, _, _, _, _, _, _, _, _, _, _, _, _, _, _, _, _, _, _, _, _], []⟩ _)
    · intro u hu
      go_simp
    refine HT.take 3 (.slice (some ⟨b, o, none⟩) n c) rfl (by kernel_rfl) (fun _ _ _ h => h) (Or.inl ⟨by rfl, ?_⟩) (?_ : HT _ _ _ _ _ _ _ ⟨#[_, _, _, _, _, _, _, _, _, _, _, _, _, _, _, .pointer (some ⟨w.heap.size, 0, none⟩), .pointer (some ⟨w.heap.size, 0, none⟩), .pointer (some ⟨w.heap.size, 0, none⟩), .slice (some ⟨b, o, none⟩) n c, _, _, _, _, _, _, _, _, _, _, _, _, _, _, _, _, _, _, _, _, _, _, _, _, _, _, _, _, _, _, _, _, _, _, _, _, _, _, _, _, _, _], []⟩ _)
    · intro u hu
      obtain ⟨x0, x1, x2, x3, x4⟩ := hu.cells
      go_simp
    refine HT.take 4 (.pointer (some ⟨w.heap.size, 0, none⟩)) rfl (by kernel_rfl) (fun _ _ _ h => h) (Or.inl ⟨by rfl, ?_⟩) (?_ : HT _ _ _ _ _ _ _ ⟨#[_, _, _, _, _, _, _, _, _, _, _, _, _, _, _, .pointer (some ⟨w.heap.size, 0, none⟩), .pointer (some ⟨w.heap.size, 0, none⟩), .pointer (some ⟨w.heap.size, 0, none⟩), .slice (some ⟨b, o, none⟩) n c, .pointer (some ⟨w.heap.size, 0, none⟩), _, _, _, _, _, _, _, _, _, _, _, _, _, _, _, _, _, _, _, _, _, _, _, _, _, _, _, _, _, _, _, _, _, _, _, _, _, _, _, _, _], []⟩ _)
    · intro u hu
      go_simp
    refine HT.take 5 (.pointer (some ⟨w.heap.size, 0, none⟩)) rfl (by kernel_rfl) (fun _ _ _ h => h) (Or.inl ⟨by rfl, ?_⟩) (?_ : HT _ _ _ _ _ _ _ ⟨#[_, _, _, _, _, _, _, _, _, _, _, _, _, _, _, .pointer (some ⟨w.heap.size, 0, none⟩), .pointer (some ⟨w.heap.size, 0, none⟩), .pointer (some ⟨w.heap.size, 0, none⟩), .slice (some ⟨b, o, none⟩) n c, .pointer (some ⟨w.heap.size, 0, none⟩), .pointer (some ⟨w.heap.size, 0, none⟩), _, _, _, _, _, _, _, _, _, _, _, _, _, _, _, _, _, _, _, _, _, _, _, _, _, _, _, _, _, _, _, _, _, _, _, _, _, _, _, _], []⟩ _)
    · intro u hu
      go_simp
    refine HT.take 6 (.pointer (some ⟨w.heap.size, 2, none⟩)) rfl (by kernel_rfl) (fun _ _ _ h => h) (Or.inl ⟨by rfl, ?_⟩) (?_ : HT _ _ _ _ _ _ _ ⟨#[_, _, _, _, _, _, _, _, _, _, _, _, _, _, _, .pointer (some ⟨w.heap.size, 0, none⟩), .pointer (some ⟨w.heap.size, 0, none⟩), .pointer (some ⟨w.heap.size, 0, none⟩), .slice (some ⟨b, o, none⟩) n c, .pointer (some ⟨w.heap.size, 0, none⟩), .pointer (some ⟨w.heap.size, 0, none⟩), .pointer (some ⟨w.heap.size, 2, none⟩), _, _, _, _, _, _, _, _, _, _, _, _, _, _, _, _, _, _, _, _, _, _, _, _, _, _, _, _, _, _, _, _, _, _, _, _, _, _, _], []⟩ _)
    · intro u hu
      go_simp
    refine HT.take 7 (.int .i64 z) rfl (by kernel_rfl) (fun _ _ _ h => h) (Or.inl ⟨by rfl, ?_⟩) (?_ : HT _ _ _ _ _ _ _ ⟨#[_, _, _, _, _, _, _, _, _, _, _, _, _, _, _, .pointer (some ⟨w.heap.size, 0, none⟩), .pointer (some ⟨w.heap.size, 0, none⟩), .pointer (some ⟨w.heap.size, 0, none⟩), .slice (some ⟨b, o, none⟩) n c, .pointer (some ⟨w.heap.size, 0, none⟩), .pointer (some ⟨w.heap.size, 0, none⟩), .pointer (some ⟨w.heap.size, 2, none⟩), .int .i64 z, _, _, _, _, _, _, _, _, _, _, _, _, _, _, _, _, _, _, _, _, _, _, _, _, _, _, _, _, _, _, _, _, _, _, _, _, _, _], []⟩ _)
    · intro u hu
      obtain ⟨x0, x1, x2, x3, x4⟩ := hu.cells
      go_simp
    refine HT.take 8 (.slice (some ⟨b, o + z, none⟩) (n - z) (c - z)) rfl (by kernel_rfl) (fun _ _ _ h => h) (Or.inl ⟨by rfl, ?_⟩) (?_ : HT _ _ _ _ _ _ _ ⟨#[_, _, _, _, _, _, _, _, _, _, _, _, _, _, _, .pointer (some ⟨w.heap.size, 0, none⟩), .pointer (some ⟨w.heap.size, 0, none⟩), .pointer (some ⟨w.heap.size, 0, none⟩), .slice (some ⟨b, o, none⟩) n c, .pointer (some ⟨w.heap.size, 0, none⟩), .pointer (some ⟨w.heap.size, 0, none⟩), .pointer (some ⟨w.heap.size, 2, none⟩), .int .i64 z, .slice (some ⟨b, o + z, none⟩) (n - z) (c - z), _, _, _, _, _, _, _, _, _, _, _, _, _, _, _, _, _, _, _, _, _, _, _, _, _, _, _, _, _, _, _, _, _, _, _, _, _], []⟩ _)
    · intro u hu
      go_simp
      rw [if_pos (show z ≤ n by omega), if_neg (show ¬ c = z by omega)]
    refine HT.step 9 rfl (by kernel_rfl) (fun hS K hK => ?_)
    go_simp
    refine hK.out _ _ (hS.alloc _) ?_
    clear hK
    refine HT.step 10 rfl (by kernel_rfl) (fun hS K hK => ?_)
    go_simp
    refine hK.out _ _ (hS0.alloc _) ?_
    clear hK hS hcc
    refine HT.step 11 rfl (by kernel_rfl) (fun hS K hK => ?_)
    go_simp
    refine (HPX.out _ hS _ (Rd.newRowM u2 5 #[.int .u8 13, .int .u8 10] (2, 3) 2 1 rfl)).mono ?_
    rintro e w' ⟨rfl, rfl⟩
    refine hK.out _ _ hS ?_
    clear hK
    refine HT.tail _ rfl rfl (by kernel_rfl) (fun hS => ?_)
    replace HS := Lib.hid hS
    generalize u2.alloc (.cells #[.int .u8 13, .int .u8 10] 5 (2, 3)) = u3 at *
    clear hS hS0
    by_cases hp : P.crlf.isPrefixOf (l.drop z) = false
    · rw [hp]
      have HP := Lib.hid hp
      clear hp
      go_wp2
      refine NoPanic.normal ?_
      go_wp2
      go_ret2
      exact .inr (.inl ⟨HZ.out, HP.out, rfl, HS.out.low⟩)
    · have HP := Lib.hid hp
      rw [Bool.not_eq_false] at hp
      rw [hp]
      clear hp
      go_wp2
      refine NoPanic.normal ?_
      go_wp2_with fail
      clear HPX
      obtain ⟨dl, hdl⟩ : ∃ dl, dl = data.length := ⟨_, rfl⟩
      have hlen : (data ++ l.take z).length = data.length + z := by rw [List.length_append, List.length_take]; omega
      have HLN := Lib.hid hlen
      clear hlen hdl
      have hS0 := HS.out.drew
      have hz2 : w.heap.size + 1 ≤ u3.heap.size := hS0.blk.lt
      refine wp_region_noPanic ?_
      refine HT.begin (n := 15) (S := (fun v => Blk v w.heap.size #[.slice (some ⟨b, o, none⟩) n c, .int .i64 1, .int .i64 z, .slice Da data.length dc, tv] 291)) (by kernel_rfl) hS0.blk ?_
      generalize u3.drew = u4 at *
      refine HT.take 0 (.pointer (some ⟨w.heap.size, 0, none⟩)) rfl (by kernel_rfl) (fun _ _ _ h => h) (Or.inl ⟨by rfl, ?_⟩) (?_ : HT _ _ _ _ _ _ _ ⟨#[_, _, _, _, _, _, _, _, _, _, _, _, _, _, _, _, _, _, _, _, _, _, _, _, _, _, _, _, .pointer (some ⟨w.heap.size, 0, none⟩), _, _, _, _, _, _, _, _, _, _, _, _, _, _, _, _, _, _, _, _, _, _, _, _, _, _, _, _, _, _, _, _], []⟩ _)
      · intro u hu
        go_simp
      refine HT.take 1 (.pointer (some ⟨w.heap.size, 0, none⟩)) rfl (by kernel_rfl) (fun _ _ _ h => h) (Or.inl ⟨by rfl, ?_⟩) (?_ : HT _ _ _ _ _ _ _ ⟨#[_, _, _, _, _, _, _, _, _, _, _, _, _, _, _, _, _, _, _, _, _, _, _, _, _, _, _, _, .pointer (some ⟨w.heap.size, 0, none⟩), .pointer (some ⟨w.heap.size, 0, none⟩), _, _, _, _, _, _, _, _, _, _, _, _, _, _, _, _, _, _, _, _, _, _, _, _, _, _, _, _, _, _, _], []⟩ _)
      · intro u hu
        go_simp
      refine HT.take 2 (.pointer (some ⟨w.heap.size, 0, none⟩)) rfl (by kernel_rfl) (fun _ _ _ h => h) (Or.inl ⟨by rfl, ?_⟩) (?_ : HT _ _ _ _ _ _ _ ⟨#[_, _, _, _, _, _, _, _, _, _, _, _, _, _, _, _, _, _, _, _, _, _, _, _, _, _, _, _, .pointer (some ⟨w.heap.size, 0, none⟩), .pointer (some ⟨w.heap.size, 0, none⟩), .pointer (some ⟨w.heap.size, 0, none⟩), _, _, _, _, _, _, _, _, _, _, _, _, _, _, _, _, _, _, _, _, _, _, _, _, _, _, _, _, _, _], []⟩ _)
      · intro u hu
        go_simp
      refine HT.take 3 (.pointer (some ⟨w.heap.size, 3, none⟩)) rfl (by kernel_rfl) (fun _ _ _ h => h) (Or.inl ⟨by rfl, ?_⟩) (?_ : HT _ _ _ _ _ _ _ ⟨#[_, _, _, _, _, _, _, _, _, _, _, _, _, _, _, _, _, _, _, _, _, _, _, _, _, _, _, _, .pointer (some ⟨w.heap.size, 0, none⟩), .pointer (some ⟨w.heap.size, 0, none⟩), .pointer (some ⟨w.heap.size, 0, none⟩), .pointer (some ⟨w.heap.size, 3, none⟩), _, _, _, _, _, _, _, _, _, _, _, _, _, _, _, _, _, _, _, _, _, _, _, _, _, _, _, _, _], []⟩ _)
      · intro u hu
        go_simp
      refine HT.take 4 (.slice Da data.length dc) rfl (by kernel_rfl) (fun _ _ _ h => h) (Or.inl ⟨by rfl, ?_⟩) (?_ : HT _ _ _ _ _ _ _ ⟨#[_, _, _, _, _, _, _, _, _, _, _, _, _, _, _, _, _, _, _, _, _, _, _, _, _, _, _, _, .pointer (some ⟨w.heap.size, 0, none⟩), .pointer (some ⟨w.heap.size, 0, none⟩), .pointer (some ⟨w.heap.size, 0, none⟩), .pointer (some ⟨w.heap.size, 3, none⟩), .slice Da data.length dc, _, _, _, _, _, _, _, _, _, _, _, _, _, _, _, _, _, _, _, _, _, _, _, _, _, _, _, _], []⟩ _)
      · intro u hu
        have x0 := hu.cell 0 rfl
        have x2 := hu.cell 2 rfl
        have x3 := hu.cell 3 rfl
        go_simp
      refine HT.take 5 (.pointer (some ⟨w.heap.size, 0, none⟩)) rfl (by kernel_rfl) (fun _ _ _ h => h) (Or.inl ⟨by rfl, ?_⟩) (?_ : HT _ _ _ _ _ _ _ ⟨#[_, _, _, _, _, _, _, _, _, _, _, _, _, _, _, _, _, _, _, _, _, _, _, _, _, _, _, _, .pointer (some ⟨w.heap.size, 0, none⟩), .pointer (some ⟨w.heap.size, 0, none⟩), .pointer (some ⟨w.heap.size, 0, none⟩), .pointer (some ⟨w.heap.size, 3, none⟩), .slice Da data.length dc, .pointer (some ⟨w.heap.size, 0, none⟩), _, _, _, _, _, _, _, _, _, _, _, _, _, _, _, _, _, _, _, _, _, _, _, _, _, _, _], []⟩ _)
      · intro u hu
        go_simp
      refine HT.take 6 (.pointer (some ⟨w.heap.size, 0, none⟩)) rfl (by kernel_rfl) (fun _ _ _ h => h) (Or.inl ⟨by rfl, ?_⟩) (?_ : HT _ _ _ _ _ _ _ ⟨#[_, _, _, _, _, _, _, _, _, _, _, _, _, _, _, _, _, _, _, _, _, _, _, _, _, _, _, _, .pointer (some ⟨w.heap.size, 0, none⟩), .pointer (some ⟨w.heap.size, 0, none⟩), .pointer (some ⟨w.heap.size, 0, none⟩), .pointer (some ⟨w.heap.size, 3, none⟩), .slice Da data.length dc, .pointer (some ⟨w.heap.size, 0, none⟩), .pointer (some ⟨w.heap.size, 0, none⟩), _, _, _, _, _, _, _, _, _, _, _, _, _, _, _, _, _, _, _, _, _, _, _, _, _, _], []⟩ _)
      · intro u hu
        go_simp
      refine HT.take 7 (.pointer (some ⟨w.heap.size, 0, none⟩)) rfl (by kernel_rfl) (fun _ _ _ h => h) (Or.inl ⟨by rfl, ?_⟩) (?_ : HT _ _ _ _ _ _ _ ⟨#[_, _, _, _, _, _, _, _, _, _, _, _, _, _, _, _, _, _, _, _, _, _, _, _, _, _, _, _, .pointer (some ⟨w.heap.size, 0, none⟩), .pointer (some ⟨w.heap.size, 0, none⟩), .pointer (some ⟨w.heap.size, 0, none⟩), .pointer (some ⟨w.heap.size, 3, none⟩), .slice Da data.length dc, .pointer (some ⟨w.heap.size, 0, none⟩), .pointer (some ⟨w.heap.size, 0, none⟩), .pointer (some ⟨w.heap.size, 0, none⟩), _, _, _, _, _, _, _, _, _, _, _, _, _, _, _, _, _, _, _, _, _, _, _, _, _], []⟩ _)
      · intro u hu
        go_simp
      refine HT.take 8 (.slice (some ⟨b, o, none⟩) n c) rfl (by kernel_rfl) (fun _ _ _ h => h) (Or.inl ⟨by rfl, ?_⟩) (?_ : HT _ _ _ _ _ _ _ ⟨#[_, _, _, _, _, _, _, _, _, _, _, _, _, _, _, _, _, _, _, _, _, _, _, _, _, _, _, _, .pointer (some ⟨w.heap.size, 0, none⟩), .pointer (some ⟨w.heap.size, 0, none⟩), .pointer (some ⟨w.heap.size, 0, none⟩), .pointer (some ⟨w.heap.size, 3, none⟩), .slice Da data.length dc, .pointer (some ⟨w.heap.size, 0, none⟩), .pointer (some ⟨w.heap.size, 0, none⟩), .pointer (some ⟨w.heap.size, 0, none⟩), .slice (some ⟨b, o, none⟩) n c, _, _, _, _, _, _, _, _, _, _, _, _, _, _, _, _, _, _, _, _, _, _, _, _], []⟩ _)
      · intro u hu
        have x0 := hu.cell 0 rfl
        have x2 := hu.cell 2 rfl
        have x3 := hu.cell 3 rfl
        go_simp
      refine HT.take 9 (.pointer (some ⟨w.heap.size, 0, none⟩)) rfl (by kernel_rfl) (fun _ _ _ h => h) (Or.inl ⟨by rfl, ?_⟩) (?_ : HT _ _ _ _ _ _ _ ⟨#[_, _, _, _, _, _, _, _, _, _, _, _, _, _, _, _, _, _, _, _, _, _, _, _, _, _, _, _, .pointer (some ⟨w.heap.size, 0, none⟩), .pointer (some ⟨w.heap.size, 0, none⟩), .pointer (some ⟨w.heap.size, 0, none⟩), .pointer (some ⟨w.heap.size, 3, none⟩), .slice Da data.length dc, .pointer (some ⟨w.heap.size, 0, none⟩), .pointer (some ⟨w.heap.size, 0, none⟩), .pointer (some ⟨w.heap.size, 0, none⟩), .slice (some ⟨b, o, none⟩) n c, .pointer (some ⟨w.heap.size, 0, none⟩), _, _, _, _, _, _, _, _, _, _, _, _, _, _, _, _, _, _, _, _, _, _, _], []⟩ _)
      · intro u hu
        go_simp
      refine HT.take 10 (.pointer (some ⟨w.heap.size, 0, none⟩)) rfl (by kernel_rfl) (fun _ _ _ h => h) (Or.inl ⟨by rfl, ?_⟩) (?_ : HT _ _ _ _ _ _ _ ⟨#[_, _, _, _, _, _, _, _, _, _, _, _, _, _, _, _, _, _, _, _, _, _, _, _, _, _, _, _, .pointer (some ⟨w.heap.size, 0, none⟩), .pointer (some ⟨w.heap.size, 0, none⟩), .pointer (some ⟨w.heap.size, 0, none⟩), .pointer (some ⟨w.heap.size, 3, none⟩), .slice Da data.length dc, .pointer (some ⟨w.heap.size, 0, none⟩), .pointer (some ⟨w.heap.size, 0, none⟩), .pointer (some ⟨w.heap.size, 0, none⟩), .slice (some ⟨b, o, none⟩) n c, .pointer (some ⟨w.heap.size, 0, none⟩), .pointer (some ⟨w.heap.size, 0, none⟩), _, _, _, _, _, _, _, _, _, _, _, _, _, _, _, _, _, _, _, _, _, _], []⟩ _)
      · intro u hu
        go_simp
      refine HT.take 11 (.pointer (some ⟨w.heap.size, 2, none⟩)) rfl (by kernel_rfl) (fun _ _ _ h => h) (Or.inl ⟨by rfl, ?_⟩) (?_ : HT _ _ _ _ _ _ _ ⟨#[_, _, _, _, _, _, _, _, _, _, _, _, _, _, _, _, _, _, _, _, _, _, _, _, _, _, _, _, .pointer (some ⟨w.heap.size, 0, none⟩), .pointer (some ⟨w.heap.size, 0, none⟩), .pointer (some ⟨w.heap.size, 0, none⟩), .pointer (some ⟨w.heap.size, 3, none⟩), .slice Da data.length dc, .pointer (some ⟨w.heap.size, 0, none⟩), .pointer (some ⟨w.heap.size, 0, none⟩), .pointer (some ⟨w.heap.size, 0, none⟩), .slice (some ⟨b, o, none⟩) n c, .pointer (some ⟨w.heap.size, 0, none⟩), .pointer (some ⟨w.heap.size, 0, none⟩), .pointer (some ⟨w.heap.size, 2, none⟩), _, _, _, _, _, _, _, _, _, _, _, _, _, _, _, _, _, _, _, _, _], []⟩ _)
      · intro u hu
        go_simp
      refine HT.take 12 (.int .i64 z) rfl (by kernel_rfl) (fun _ _ _ h => h) (Or.inl ⟨by rfl, ?_⟩) (?_ : HT _ _ _ _ _ _ _ ⟨#[_, _, _, _, _, _, _, _, _, _, _, _, _, _, _, _, _, _, _, _, _, _, _, _, _, _, _, _, .pointer (some ⟨w.heap.size, 0, none⟩), .pointer (some ⟨w.heap.size, 0, none⟩), .pointer (some ⟨w.heap.size, 0, none⟩), .pointer (some ⟨w.heap.size, 3, none⟩), .slice Da data.length dc, .pointer (some ⟨w.heap.size, 0, none⟩), .pointer (some ⟨w.heap.size, 0, none⟩), .pointer (some ⟨w.heap.size, 0, none⟩), .slice (some ⟨b, o, none⟩) n c, .pointer (some ⟨w.heap.size, 0, none⟩), .pointer (some ⟨w.heap.size, 0, none⟩), .pointer (some ⟨w.heap.size, 2, none⟩), .int .i64 z, _, _, _, _, _, _, _, _, _, _, _, _, _, _, _, _, _, _, _, _], []⟩ _)
      · intro u hu
        have x0 := hu.cell 0 rfl
        have x2 := hu.cell 2 rfl
        have x3 := hu.cell 3 rfl
        go_simp
      refine HT.take 13 (.slice (some ⟨b, o, none⟩) z c) rfl (by kernel_rfl) (fun _ _ _ h => h) (Or.inl ⟨by rfl, ?_⟩) (?_ : HT _ _ _ _ _ _ _ ⟨#[_, _, _, _, _, _, _, _, _, _, _, _, _, _, _, _, _, _, _, _, _, _, _, _, _, _, _, _, .pointer (some ⟨w.heap.size, 0, none⟩), .pointer (some ⟨w.heap.size, 0, none⟩), .pointer (some ⟨w.heap.size, 0, none⟩), .pointer (some ⟨w.heap.size, 3, none⟩), .slice Da data.length dc, .pointer (some ⟨w.heap.size, 0, none⟩), .pointer (some ⟨w.heap.size, 0, none⟩), .pointer (some ⟨w.heap.size, 0, none⟩), .slice (some ⟨b, o, none⟩) n c, .pointer (some ⟨w.heap.size, 0, none⟩), .pointer (some ⟨w.heap.size, 0, none⟩), .pointer (some ⟨w.heap.size, 2, none⟩), .int .i64 z, .slice (some ⟨b, o, none⟩) z c, _, _, _, _, _, _, _, _, _, _, _, _, _, _, _, _, _, _, _], []⟩ _)
      · intro u hu
        go_simp
        try rw [if_pos (show z ≤ c by omega)]
      refine HT.step 14 rfl (by kernel_rfl) (fun hS K hK => ?_)
      rw [if_pos (by rfl)]
      refine wpB _ (.tmp 32) (.tmp 41) rfl (w.heap.size + 1) Da data.length dc data rfl hS0.row (some ⟨b, o, none⟩) z c (l.take z) rfl ((hS0.rd.upto (by omega)).below hS0.low) (by omega) hS0.blk.lt ?_
      intro Da' dc' u5 hr5 ha5
      refine hK.out _ _ (hS.app ha5 (fun k hk => by have := (hS0.row.lt k hk).1; omega)) ?_
      clear hK hS
      rw [← HLN.out] at hr5
      refine (?_ : HT _ _ _ _ _ _ _ ⟨#[_, _, _, _, _, _, _, _, _, _, _, _, _, _, _, _, _, _, _, _, _, _, _, _, _, _, _, _, .pointer (some ⟨w.heap.size, 0, none⟩), .pointer (some ⟨w.heap.size, 0, none⟩), .pointer (some ⟨w.heap.size, 0, none⟩), .pointer (some ⟨w.heap.size, 3, none⟩), .slice Da data.length dc, .pointer (some ⟨w.heap.size, 0, none⟩), .pointer (some ⟨w.heap.size, 0, none⟩), .pointer (some ⟨w.heap.size, 0, none⟩), .slice (some ⟨b, o, none⟩) n c, .pointer (some ⟨w.heap.size, 0, none⟩), .pointer (some ⟨w.heap.size, 0, none⟩), .pointer (some ⟨w.heap.size, 2, none⟩), .int .i64 z, .slice (some ⟨b, o, none⟩) z c, .slice Da' (data.length + z) dc', _, _, _, _, _, _, _, _, _, _, _, _, _, _, _, _, _, _], []⟩ _)
      refine HT.tail _ rfl rfl (by kernel_rfl) (fun hS => ?_)
      have x3 := hS.cell 3 rfl
      have f3 := hS.free 3
      have HS6 := Lib.hid (hS0.more hr5 ha5)
      rw [HLN.out] at HS6
      clear hr5 ha5 hS hS0
      go_wp2
      refine NoPanic.normal ?_
      go_wp2_with fail
      clear x3 f3
      generalize u5.setCell ⟨w.heap.size, 3, none⟩ (.slice Da' (data.length + z) dc') = u6 at *
      
      have hS0 := HS6.out.drew
      refine wp_region_noPanic ?_
      refine HT.begin (n := 11) (S := (fun v => St w v 1 z (some ⟨b, o, none⟩) n c l Da' dc' (data ++ l.take z) tv)) (by kernel_rfl) hS0 ?_
      generalize u6.drew = u7 at *
      refine HT.take 0 (.pointer (some ⟨w.heap.size, 0, none⟩)) rfl (by kernel_rfl) (fun _ _ _ h => h) (Or.inl ⟨by rfl, ?_⟩) (?_ : HT _ _ _ _ _ _ _ ⟨#[_, _, _, _, _, _, _, _, _, _, _, _, _, _, _, _, _, _, _, _, _, _, _, _, _, _, _, _, _, _, _, _, _, _, _, _, _, _, _, _, _, _, _, _, _, .pointer (some ⟨w.heap.size, 0, none⟩), _, _, _, _, _, _, _, _, _, _, _, _, _, _, _], []⟩ _)
      · intro u hu
        go_simp
      refine HT.take 1 (.pointer (some ⟨w.heap.size, 0, none⟩)) rfl (by kernel_rfl) (fun _ _ _ h => h) (Or.inl ⟨by rfl, ?_⟩) (?_ : HT _ _ _ _ _ _ _ ⟨#[_, _, _, _, _, _, _, _, _, _, _, _, _, _, _, _, _, _, _, _, _, _, _, _, _, _, _, _, _, _, _, _, _, _, _, _, _, _, _, _, _, _, _, _, _, .pointer (some ⟨w.heap.size, 0, none⟩), .pointer (some ⟨w.heap.size, 0, none⟩), _, _, _, _, _, _, _, _, _, _, _, _, _, _], []⟩ _)
      · intro u hu
        go_simp
      refine HT.take 2 (.pointer (some ⟨w.heap.size, 0, none⟩)) rfl (by kernel_rfl) (fun _ _ _ h => h) (Or.inl ⟨by rfl, ?_⟩) (?_ : HT _ _ _ _ _ _ _ ⟨#[_, _, _, _, _, _, _, _, _, _, _, _, _, _, _, _, _, _, _, _, _, _, _, _, _, _, _, _, _, _, _, _, _, _, _, _, _, _, _, _, _, _, _, _, _, .pointer (some ⟨w.heap.size, 0, none⟩), .pointer (some ⟨w.heap.size, 0, none⟩), .pointer (some ⟨w.heap.size, 0, none⟩), _, _, _, _, _, _, _, _, _, _, _, _, _], []⟩ _)
      · intro u hu
        go_simp
      refine HT.take 3 (.pointer (some ⟨w.heap.size, 0, none⟩)) rfl (by kernel_rfl) (fun _ _ _ h => h) (Or.inl ⟨by rfl, ?_⟩) (?_ : HT _ _ _ _ _ _ _ ⟨#[_, _, _, _, _, _, _, _, _, _, _, _, _, _, _, _, _, _, _, _, _, _, _, _, _, _, _, _, _, _, _, _, _, _, _, _, _, _, _, _, _, _, _, _, _, .pointer (some ⟨w.heap.size, 0, none⟩), .pointer (some ⟨w.heap.size, 0, none⟩), .pointer (some ⟨w.heap.size, 0, none⟩), .pointer (some ⟨w.heap.size, 0, none⟩), _, _, _, _, _, _, _, _, _, _, _, _], []⟩ _)
      · intro u hu
        go_simp
      refine HT.take 4 (.slice (some ⟨b, o, none⟩) n c) rfl (by kernel_rfl) (fun _ _ _ h => h) (Or.inl ⟨by rfl, ?_⟩) (?_ : HT _ _ _ _ _ _ _ ⟨#[_, _, _, _, _, _, _, _, _, _, _, _, _, _, _, _, _, _, _, _, _, _, _, _, _, _, _, _, _, _, _, _, _, _, _, _, _, _, _, _, _, _, _, _, _, .pointer (some ⟨w.heap.size, 0, none⟩), .pointer (some ⟨w.heap.size, 0, none⟩), .pointer (some ⟨w.heap.size, 0, none⟩), .pointer (some ⟨w.heap.size, 0, none⟩), .slice (some ⟨b, o, none⟩) n c, _, _, _, _, _, _, _, _, _, _, _], []⟩ _)
      · intro u hu
        obtain ⟨x0, x1, x2, x3, x4⟩ := hu.cells
        go_simp
      refine HT.take 5 (.pointer (some ⟨w.heap.size, 0, none⟩)) rfl (by kernel_rfl) (fun _ _ _ h => h) (Or.inl ⟨by rfl, ?_⟩) (?_ : HT _ _ _ _ _ _ _ ⟨#[_, _, _, _, _, _, _, _, _, _, _, _, _, _, _, _, _, _, _, _, _, _, _, _, _, _, _, _, _, _, _, _, _, _, _, _, _, _, _, _, _, _, _, _, _, .pointer (some ⟨w.heap.size, 0, none⟩), .pointer (some ⟨w.heap.size, 0, none⟩), .pointer (some ⟨w.heap.size, 0, none⟩), .pointer (some ⟨w.heap.size, 0, none⟩), .slice (some ⟨b, o, none⟩) n c, .pointer (some ⟨w.heap.size, 0, none⟩), _, _, _, _, _, _, _, _, _, _], []⟩ _)
      · intro u hu
        go_simp
      refine HT.take 6 (.pointer (some ⟨w.heap.size, 0, none⟩)) rfl (by kernel_rfl) (fun _ _ _ h => h) (Or.inl ⟨by rfl, ?_⟩) (?_ : HT _ _ _ _ _ _ _ ⟨#[_, _, _, _, _, _, _, _, _, _, _, _, _, _, _, _, _, _, _, _, _, _, _, _, _, _, _, _, _, _, _, _, _, _, _, _, _, _, _, _, _, _, _, _, _, .pointer (some ⟨w.heap.size, 0, none⟩), .pointer (some ⟨w.heap.size, 0, none⟩), .pointer (some ⟨w.heap.size, 0, none⟩), .pointer (some ⟨w.heap.size, 0, none⟩), .slice (some ⟨b, o, none⟩) n c, .pointer (some ⟨w.heap.size, 0, none⟩), .pointer (some ⟨w.heap.size, 0, none⟩), _, _, _, _, _, _, _, _, _], []⟩ _)
      · intro u hu
        go_simp
      refine HT.take 7 (.pointer (some ⟨w.heap.size, 2, none⟩)) rfl (by kernel_rfl) (fun _ _ _ h => h) (Or.inl ⟨by rfl, ?_⟩) (?_ : HT _ _ _ _ _ _ _ ⟨#[_, _, _, _, _, _, _, _, _, _, _, _, _, _, _, _, _, _, _, _, _, _, _, _, _, _, _, _, _, _, _, _, _, _, _, _, _, _, _, _, _, _, _, _, _, .pointer (some ⟨w.heap.size, 0, none⟩), .pointer (some ⟨w.heap.size, 0, none⟩), .pointer (some ⟨w.heap.size, 0, none⟩), .pointer (some ⟨w.heap.size, 0, none⟩), .slice (some ⟨b, o, none⟩) n c, .pointer (some ⟨w.heap.size, 0, none⟩), .pointer (some ⟨w.heap.size, 0, none⟩), .pointer (some ⟨w.heap.size, 2, none⟩), _, _, _, _, _, _, _, _], []⟩ _)
      · intro u hu
        go_simp
      refine HT.take 8 (.int .i64 z) rfl (by kernel_rfl) (fun _ _ _ h => h) (Or.inl ⟨by rfl, ?_⟩) (?_ : HT _ _ _ _ _ _ _ ⟨#[_, _, _, _, _, _, _, _, _, _, _, _, _, _, _, _, _, _, _, _, _, _, _, _, _, _, _, _, _, _, _, _, _, _, _, _, _, _, _, _, _, _, _, _, _, .pointer (some ⟨w.heap.size, 0, none⟩), .pointer (some ⟨w.heap.size, 0, none⟩), .pointer (some ⟨w.heap.size, 0, none⟩), .pointer (some ⟨w.heap.size, 0, none⟩), .slice (some ⟨b, o, none⟩) n c, .pointer (some ⟨w.heap.size, 0, none⟩), .pointer (some ⟨w.heap.size, 0, none⟩), .pointer (some ⟨w.heap.size, 2, none⟩), .int .i64 z, _, _, _, _, _, _, _], []⟩ _)
      · intro u hu
        obtain ⟨x0, x1, x2, x3, x4⟩ := hu.cells
        go_simp
      refine HT.take 9 (.int .i64 ((z : Int) + 2)) rfl (by kernel_rfl) (fun _ _ _ h => h) (Or.inl ⟨by rfl, ?_⟩) (?_ : HT _ _ _ _ _ _ _ ⟨#[_, _, _, _, _, _, _, _, _, _, _, _, _, _, _, _, _, _, _, _, _, _, _, _, _, _, _, _, _, _, _, _, _, _, _, _, _, _, _, _, _, _, _, _, _, .pointer (some ⟨w.heap.size, 0, none⟩), .pointer (some ⟨w.heap.size, 0, none⟩), .pointer (some ⟨w.heap.size, 0, none⟩), .pointer (some ⟨w.heap.size, 0, none⟩), .slice (some ⟨b, o, none⟩) n c, .pointer (some ⟨w.heap.size, 0, none⟩), .pointer (some ⟨w.heap.size, 0, none⟩), .pointer (some ⟨w.heap.size, 2, none⟩), .int .i64 z, .int .i64 ((z : Int) + 2), _, _, _, _, _, _], []⟩ _)
      · intro u hu
        go_simp
        rw [IntKind.wrap_i64]
        omega
      refine HT.take 10 (.slice (addA (some ⟨b, o, none⟩) c (z + 2)) (n - (z + 2)) (c - (z + 2))) rfl (by kernel_rfl) (fun _ _ _ h => h) (Or.inl ⟨by rfl, ?_⟩) (?_ : HT _ _ _ _ _ _ _ ⟨#[_, _, _, _, _, _, _, _, _, _, _, _, _, _, _, _, _, _, _, _, _, _, _, _, _, _, _, _, _, _, _, _, _, _, _, _, _, _, _, _, _, _, _, _, _, .pointer (some ⟨w.heap.size, 0, none⟩), .pointer (some ⟨w.heap.size, 0, none⟩), .pointer (some ⟨w.heap.size, 0, none⟩), .pointer (some ⟨w.heap.size, 0, none⟩), .slice (some ⟨b, o, none⟩) n c, .pointer (some ⟨w.heap.size, 0, none⟩), .pointer (some ⟨w.heap.size, 0, none⟩), .pointer (some ⟨w.heap.size, 2, none⟩), .int .i64 z, .int .i64 ((z : Int) + 2), .slice (addA (some ⟨b, o, none⟩) c (z + 2)) (n - (z + 2)) (c - (z + 2)), _, _, _, _, _], []⟩ _)
      · intro u hu
        go_simp
        rw [if_pos (by omega), show ((z : Int) + 2).toNat = z + 2 by omega, addA_ite]
      refine HT.tail _ rfl rfl (by kernel_rfl) (fun hS => ?_)
      obtain ⟨x0, x1, x2, x3, x4⟩ := hS.cells
      obtain ⟨f0, f1, f2, f3, f4⟩ := hS.frees
      have HS8 := Lib.hid (hS.rest (z + 2) (by omega))
      clear hS hS0 HS6
      go_wp2
      refine NoPanic.normal ?_
      go_upto_region 7 with fail
      generalize u7.setCell ⟨w.heap.size, 0, none⟩ (.slice (addA (some ⟨b, o, none⟩) c (z + 2)) (n - (z + 2)) (c - (z + 2))) = u8 at *
      clear x0 x1 x2 x3 x4 f0 f1 f2 f3 f4
      have HS9 := Lib.hid (HS8.out.stage 0)
      obtain ⟨x0, x1, x2, x3, x4⟩ := HS8.out.cells
      obtain ⟨f0, f1, f2, f3, f4⟩ := HS8.out.frees
      go_wp2
      go_ret2
      exact .inr (.inr ⟨HZ.out, HP.out, rfl, _, _, HS9.out⟩)
end Go.Proofs.YteehjkfmlcfffaaGreatDoor
