/- The walks of bytes.IndexByte, bytes.HasSuffix and bytes.Cut at a semicolon; of chunk.size. -/
import Derived.Test.YtnmldbcgpfglkaaGreatDoorHexNum
import Derived.Test.YtnmldbcgpfglkaaGreatDoorHeadB
import Derived.Test.YtnmldbcgpfglkaaGreatDoorQuoteA
namespace Go.Proofs.YtnmldbcgpfglkaaGreatDoor
open Go.RowKit

theorem indexByte_upto (c : UInt8) : ∀ l : List UInt8, Lib.indexByte l c = if (P.upto (· == c) l).length < l.length then ((P.upto (· == c) l).length : Int) else -1
  | [] => rfl
  | b :: l => by
    unfold Lib.indexByte
    cases hb : b == c
    · have e : P.upto (· == c) (b :: l) = b :: P.upto (· == c) l := by unfold P.upto; simp [hb]
      rw [e, if_neg (by decide), indexByte_upto c l, List.length_cons, List.length_cons]
      generalize (P.upto (· == c) l).length = q
      by_cases h : q < l.length
      · rw [if_pos h, if_neg (by simp), if_pos (by omega)]
        omega
      · rw [if_neg h, if_pos (by rfl), if_neg (by omega)]
    · have e : P.upto (· == c) (b :: l) = [] := by unfold P.upto; simp [hb]
      rw [e, if_pos rfl, if_pos (by simp)]
      rfl
/-- A slice's address behind its first k elements. -/
def addA (A : Option Addr) (c k : Nat) : Option Addr := if c = k then A else A.map fun x => x.add k
theorem Rd.fromA {w : World} {A : Option Addr} {n c k : Nat} {l : List UInt8} (h : Rd w A n 1 (bcells l)) (hnc : n ≤ c) (hk : k ≤ n) : Rd w (addA A c k) (n - k) 1 (bcells (l.drop k)) := by
  have hl := rd_len h
  by_cases hkn : k = n
  · exact ⟨by simp [bcells, hl], fun h0 => by omega⟩
  · obtain ⟨b, o, rfl, _, _⟩ := h.2 (by omega)
    have e : addA (some ⟨b, o, none⟩) c k = some ⟨b, o + k, none⟩ := by
      unfold addA
      rw [if_neg (by omega)]
      show some ((⟨b, o, none⟩ : Addr).add k) = _
      unfold Addr.add
      split <;> simp_all
    rw [e]
    exact h.from_ hk
theorem bindexByte_any (A : Option Addr) (n c : Nat) (x : UInt8) (l : List UInt8) (w : World) (hA : A = none → n = 0 ∧ c = 0) (h : Rd w A n 1 (bcells l)) :
    Calls Tryz.prog 120 #[.slice A n c, .int .u8 x.toNat] w (RetP w (.int .i64 (Lib.indexByte l x))) := by
  cases A with
  | none =>
    obtain ⟨rfl, rfl⟩ := hA rfl
    have hl : l = [] := List.eq_nil_of_length_eq_zero (rd_len h)
    subst hl
    refine (Tryz.bytes_IndexByte_nil x.toNat w).mono ?_
    rintro e w' ⟨rfl, rfl⟩
    exact ⟨rfl, rfl⟩
  | some a =>
    have hl := rd_len h
    refine (Tryz.bytes_IndexByte_at a n c (ints l) x.toNat w (by rw [ints_len]; exact hl) (fun i hi => ?_)).mono ?_
    · have hi' : i < l.length := by omega
      rw [h.cells a rfl (by omega) i (.int .u8 (l[i]'hi').toNat) (by simp [bcells, hi'])]
      simp [ints, List.getD, hi']
    · rintro e w' ⟨rfl, rfl⟩
      rw [bytesOf_ints]
      have : ((x.toNat : Int)).toNat.toUInt8 = x := by rw [Int.toNat_natCast]; exact UInt8.ofNat_toNat
      rw [this]
      exact ⟨rfl, rfl⟩
theorem bsuffix_any (A B0 : Option Addr) (n c m d : Nat) (xs ys : List UInt8) (w : World) (hnc : n ≤ c) (hn : n ≤ 2147483648) (hx : Rd w A n 1 (bcells xs)) (hy : Rd w B0 m 1 (bcells ys)) :
    Calls Tryz.prog 121 #[.slice A n c, .slice B0 m d] w (RetP w (.bool (Lib.hasSuffix xs ys))) := by
  refine (Tryz.bytes_HasSuffix_all A B0 n c m d (ints xs) (ints ys) w (by rw [ints_len]; exact rd_len hx) (by rw [ints_len]; exact rd_len hy) hnc (by omega) (ints_in hx) (ints_in hy)).mono ?_
  rintro e w' ⟨rfl, rfl⟩
  rw [bytesOf_ints, bytesOf_ints]
  exact ⟨rfl, rfl⟩
/-- The part ahead of a semicolon and the one behind it, answered. -/
def RetSemi (w u : World) (c : Nat) (l : List UInt8) (e : Ending) (w' : World) : Prop :=
  ∃ (A2 : Option Addr) (n2 c2 : Nat) (A1 : Option Addr) (f : Bool), e = .returned (.tuple #[.slice A1 (C.numOf l).length c, .slice A2 n2 c2, .bool f]) ∧ Below u.heap.size u w' ∧ Rd w A1 (C.numOf l).length 1 (bcells (C.numOf l)) ∧ Rd w A2 n2 1 (bcells (C.extOf l))
theorem semiCut_any (A B0 : Option Addr) (n c d : Nat) (l : List UInt8) (w u : World) (hnc : n ≤ c) (hn : n ≤ 1073741824) (hA : A = none → c = 0) (h : Rd w A n 1 (bcells l)) (hb : Below w.heap.size w u) (hy : Rd u B0 1 1 (bcells [59])) (ht : LibOk u) :
    Calls Tryz.prog 138 #[.slice A n c, .slice B0 1 d] u (RetSemi w u c l) := by
  have hl := rd_len h
  refine (bcut_any A B0 n c 1 d l [59] u hnc (by omega) (by omega) hA (h.below hb) hy ht).mono ?_
  rintro e w' ⟨rfl, hb2⟩
  have h1 := P.upto_from C.semi l
  have h2 := P.upto_len C.semi l
  have hidx : Lib.index l [59] = if (C.numOf l).length < l.length then ((C.numOf l).length : Int) else -1 := by
    rw [Lib.index_one]
    exact indexByte_upto 59 l
  have htk : l.take (C.numOf l).length = C.numOf l := by
    conv => lhs; arg 2; rw [← h1]
    exact List.take_left
  have hdr : l.drop ((C.numOf l).length + 1) = C.extOf l := by
    unfold C.extOf
    rw [← List.drop_drop]
    congr 1
    conv => lhs; arg 2; rw [← h1]
    exact List.drop_left
  have hle : (C.numOf l).length ≤ l.length := by unfold C.numOf; omega
  rw [hidx]
  by_cases hlt : (C.numOf l).length < l.length
  · rw [if_pos hlt]
    refine ⟨addA A c ((C.numOf l).length + 1), n - ((C.numOf l).length + 1), c - ((C.numOf l).length + 1), A, true, ?_, hb2, ?_, ?_⟩
    · unfold Lib.cutV Lib.fromV
      rw [if_pos (by omega), Int.toNat_natCast]
      rfl
    · have := h.upto (k := (C.numOf l).length) (by omega)
      rwa [htk] at this
    · have := h.fromA hnc (k := (C.numOf l).length + 1) (by omega)
      rwa [hdr] at this
  · rw [if_neg hlt]
    have e1 : (C.numOf l).length = n := by omega
    have e2 : C.numOf l = l := by rw [← htk]; exact List.take_of_length_le (by omega)
    have e3 : C.extOf l = [] := by rw [← hdr]; exact List.drop_eq_nil_of_le (by omega)
    refine ⟨none, 0, 0, A, false, ?_, hb2, ?_, ?_⟩
    · rw [e1]
      rfl
    · rw [e1, e2]
      exact h
    · rw [e3]
      exact Rd.nil _ _ _

/-- The size that a line tells, and whether it tells one. -/
def RetZ (w : World) (l : List UInt8) (e : Ending) (w' : World) : Prop :=
  ∃ v : Int, e = .returned (.tuple #[.int .i64 v, .bool (decide (0 ≤ C.sizeOf l))]) ∧ (0 ≤ C.sizeOf l → v = C.sizeOf l) ∧ Below w.heap.size w w'
theorem C.size_bad {l : List UInt8} (h : C.numOf l = [] ∨ 8 < (C.numOf l).length ∨ (C.numOf l).all C.isHex = false ∨ F.text (B (C.extOf l)) = false) : decide (0 ≤ C.sizeOf l) = false := by
  unfold C.sizeOf
  rw [if_pos h]
  rfl
theorem C.size_good {l : List UInt8} (h1 : C.okH (C.numOf l) = true) (h2 : (C.numOf l).length ≤ 8) (h3 : F.text (B (C.extOf l)) = true) : C.sizeOf l = C.val (C.numOf l) ∧ decide (0 ≤ C.sizeOf l) = true := by
  unfold C.okH at h1
  rw [Bool.and_eq_true] at h1
  have e : C.sizeOf l = C.val (C.numOf l) := by
    unfold C.sizeOf
    rw [if_neg]
    rintro (h | h | h | h)
    · rw [h] at h1; exact absurd h1.1 (by decide)
    · omega
    · rw [h1.2] at h; cases h
    · rw [h3] at h; cases h
  refine ⟨e, ?_⟩
  rw [e]
  exact decide_eq_true (C.val_bound _ h1.2).1
theorem C.okH_no {l : List UInt8} (h : C.okH l = false) : l = [] ∨ l.all C.isHex = false := by
  unfold C.okH at h
  rw [Bool.and_eq_false_iff] at h
  rcases h with h | h
  · exact .inl (by simpa using h)
  · exact .inr h
set_option maxHeartbeats 2000000 in
set_option maxRecDepth 100000 in
theorem csize_any (A : Option Addr) (n c : Nat) (l : List UInt8) (w : World) (hnc : n ≤ c) (hn : n ≤ 1073741824) (hA : A = none → c = 0) (h : Rd w A n 1 (bcells l)) (ht : LibOk w) (he : ErrOk w) :
    Calls Tryz.prog 122 #[.slice A n c] w (RetZ w l) := by
  have hll := rd_len h
  have hcc := Lib.run_convert_bytes_const (P := Tryz.prog) w 22 5 #[.int .u8 59] 1 1 Tryz.underlying22 Tryz.underlying5
  have HB0 := Lib.hid ((Below.refl w.heap.size w).alloc (Nat.le_refl _) (.cells #[.int .u8 59] 5 (1, 2)))
  have HC := Lib.hid (semiCut_any A (some ⟨w.heap.size, 0, none⟩) n c 1 l w (w.alloc (.cells #[.int .u8 59] 5 (1, 2))) hnc hn hA h HB0.out (Rd.newRowM w 5 #[.int .u8 59] (1, 2) 1 1 rfl) (ht.below HB0.out))
  have HT := Lib.hid (fun (u : World) (hu : Below w.heap.size w u) => he.below hu)
  have hk0 : (C.numOf l).length ≤ 1073741824 := by
    have := P.upto_len C.semi l
    unfold C.numOf
    omega
  clear ht he
  go_enter Tryz.func122, Tryz.ntmps122
  go_wp2_with fail
  clear hcc
  refine HC.out.mono ?_
  rintro e w1 ⟨A2, n2, c2, A1, f, rfl, hb1, hr1, hr2⟩
  have HB1 := Lib.hid (below_then HB0.out.size HB0.out hb1)
  clear HC HB0 hb1 h
  have HR1 := Lib.hid hr1
  have HR2 := Lib.hid hr2
  clear hr1 hr2
  have HSL := Lib.hid (rfl : C.numOf l = C.numOf l)
  obtain ⟨k, hk⟩ : ∃ k, k = (C.numOf l).length := ⟨_, rfl⟩
  rw [← hk] at HR1 hk0 ⊢
  by_cases h8 : 8 < k
  · have HF := Lib.hid (C.size_bad (l := l) (.inr (.inl (by omega))))
    have HF2 : Hid (¬ 0 ≤ C.sizeOf l) := Lib.hid (of_decide_eq_false HF.out)
    have h8i : (8 : Int) < k := by omega
    clear hk
    go_wp2
    refine bodyPost_ret (v := .tuple #[.int .i64 0, .bool false]) (by simp [results, Tryz.results122, go_sem]) rfl ?_
    exact ⟨0, by rw [HF.out], fun h => by have := HF2.out; omega, HB1.out⟩
  · have h8i : ¬ (8 : Int) < k := by omega
    have hcv1 := conv_bs (HR1.out.below HB1.out) c
    have HN := Lib.hid (parseHex_any (B (C.numOf l)) w1 (by rw [B_size]; omega) (HT.out w1 HB1.out))
    have hl2 : n2 ≤ n := by
      have h1 := rd_len HR2.out
      have h2 := P.upto_len C.semi l
      unfold C.extOf at h1
      rw [List.length_drop] at h1
      omega
    have HQ : Hid (∀ u : World, Calls Tryz.prog 151 #[.string (B (C.extOf l))] u (RetQuote u (F.text (B (C.extOf l))))) := Lib.hid fun u => quote_any _ u (by rw [B_size, rd_len HR2.out]; omega)
    have HGB := Lib.hid (fun (h1 : C.okH (C.numOf l) = true) (h3 : F.text (B (C.extOf l)) = true) => C.size_good (l := l) h1 (by omega) h3)
    have HB3 : Hid (C.okH (C.numOf l) = false → decide (0 ≤ C.sizeOf l) = false) := Lib.hid fun h => by
      rcases C.okH_no h with h | h
      · exact C.size_bad (.inl h)
      · exact C.size_bad (.inr (.inr (.inl h)))
    have HB4 : Hid (F.text (B (C.extOf l)) = false → decide (0 ≤ C.sizeOf l) = false) := Lib.hid fun h => C.size_bad (.inr (.inr (.inr h)))
    have hvb : C.okH (C.numOf l) = true → 0 ≤ C.val (C.numOf l) ∧ C.val (C.numOf l) < 4294967296 := fun h => by
      unfold C.okH at h
      rw [Bool.and_eq_true] at h
      obtain ⟨g1, g2⟩ := C.val_bound _ h.2
      refine ⟨g1, ?_⟩
      rw [← hk] at g2
      have : (16 : Int) ^ k ≤ 4294967296 := by
        rcases (by omega : k = 0 ∨ k = 1 ∨ k = 2 ∨ k = 3 ∨ k = 4 ∨ k = 5 ∨ k = 6 ∨ k = 7 ∨ k = 8) with h | h | h | h | h | h | h | h | h <;> subst h <;> decide
      omega
    obtain ⟨V, hV, hV0, hV1⟩ : ∃ V, V = (if C.okH (C.numOf l) then C.val (C.numOf l) else 0) ∧ 0 ≤ V ∧ V < 4294967296 := by
      refine ⟨_, rfl, ?_⟩
      cases hok : C.okH (C.numOf l)
      · simp
      · simpa using hvb hok
    have HV := Lib.hid hV
    clear hvb hV hk
    go_wp2_with fail
    refine HN.out.mono ?_
    rintro e w2 ⟨b, rfl, hb, hb2⟩
    rw [L_B, ← HV.out]
    have HB2 := Lib.hid (below_then HB1.out.size HB1.out hb2)
    have HBV := Lib.hid hb
    have hcv2 := conv_bs (HR2.out.below HB2.out) c2
    clear hcv1 HN HB1 HR1 hb hb2
    go_wp2_with fail
    refine (HQ.out w2).mono ?_
    rintro e w3 ⟨q, rfl, hb3⟩
    have HB3' := Lib.hid (below_then HB2.out.size HB2.out hb3)
    clear hcv2 HQ HB2 HR2 hb3
    rcases HBV.out with ⟨hok, rfl⟩ | ⟨hok, ty, pp, rfl⟩
    · cases htx : F.text (B (C.extOf l))
      · have HF := Lib.hid (HB4.out htx)
        have HF2 : Hid (¬ 0 ≤ C.sizeOf l) := Lib.hid (of_decide_eq_false HF.out)
        clear HB3 HB4 HGB htx hok
        go_wp2
        refine bodyPost_ret (v := .tuple #[.int .i64 V, .bool false]) (by simp [results, Tryz.results122, go_sem]) rfl ?_
        exact ⟨V, by rw [HF.out], fun h => by have := HF2.out; omega, HB3'.out⟩
      · have HF := Lib.hid (HGB.out hok htx)
        have HVV : Hid (V = C.sizeOf l) := Lib.hid (by rw [HV.out, if_pos (show C.okH (C.numOf l) = true from hok), HF.out.1])
        clear HB3 HB4 HGB htx hok
        go_wp2
        refine bodyPost_ret (v := .tuple #[.int .i64 V, .bool true]) (by simp [results, Tryz.results122, go_sem]) rfl ?_
        exact ⟨V, by rw [HF.out.2], fun _ => HVV.out, HB3'.out⟩
    · have HF := Lib.hid (HB3.out hok)
      have HF2 : Hid (¬ 0 ≤ C.sizeOf l) := Lib.hid (of_decide_eq_false HF.out)
      clear HB3 HB4 HGB hok
      go_wp2
      all_goals refine bodyPost_ret (v := .tuple #[.int .i64 V, .bool false]) (by simp [results, Tryz.results122, go_sem]) rfl ?_
      all_goals exact ⟨V, by rw [HF.out], fun h => by have := HF2.out; omega, HB3'.out⟩
end Go.Proofs.YtnmldbcgpfglkaaGreatDoor
