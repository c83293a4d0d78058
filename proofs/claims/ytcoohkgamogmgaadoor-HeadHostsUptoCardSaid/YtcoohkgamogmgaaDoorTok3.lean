/- The walks of tok.List, and of the document's Trim and List. -/
import Derived.Test.YtcoohkgamogmgaaDoorTok2
namespace Go.Proofs.YtcoohkgamogmgaaDoor
open Go.RowKit

theorem split44 (s : ByteArray) (w : World) (hs : s.size ≤ 1099511627776) :
    Calls Tryd.prog 102 #[.string s, .int .u8 44] w (RetRow w 9 1 (F.split 44 s).length (scells (F.split 44 s))) := split_any s 44 w hs
theorem pieces44 (s : ByteArray) (w : World) (hs : s.size ≤ 1099511627776) :
    Calls Tryd.prog 117 #[.string s, .int .u8 44] w (RetRow w 9 1 (F.pieces 44 s).length (scells (F.pieces 44 s))) := pieces_any s 44 w hs

theorem pieces_len (c : UInt8) : ∀ (n : Nat) (q : Bool) (cur l : List UInt8), l.length ≤ n → (T.pieces c q cur l).length ≤ l.length + 1 := by
  intro n
  induction n with
  | zero =>
    intro q cur l h
    have : l = [] := List.eq_nil_of_length_eq_zero (by omega)
    subst this
    simp [T.pieces]
  | succ n ih =>
    intro q cur l h
    cases l with
    | nil => simp [T.pieces]
    | cons x r =>
      rw [T.pieces_cons]
      simp only [List.length_cons] at h ⊢
      split
      · cases r with
        | nil => simp
        | cons y r' =>
          have := ih q (cur ++ [x, y]) r' (by simp at h; omega)
          simp only [List.length_cons]; omega
      · split
        · have := ih (!q) (cur ++ [x]) r (by omega); omega
        · split
          · have := ih q [] r (by omega); simp only [List.length_cons]; omega
          · have := ih q (cur ++ [x]) r (by omega); omega
theorem split_len (c : UInt8) (s : ByteArray) : (F.split c s).length ≤ s.size + 1 := by
  unfold F.split
  rw [List.length_map, L_size]
  exact pieces_len c _ _ _ _ (Nat.le_refl _)
theorem fpieces_len (c : UInt8) (s : ByteArray) : (F.pieces c s).length ≤ s.size + 1 := by
  unfold F.pieces
  rw [List.length_map, L_size]
  exact pieces_len c _ _ _ _ (Nat.le_refl _)
theorem list_len (s : ByteArray) : (F.list s).length ≤ s.size + 1 := Nat.le_trans (List.length_filter_le _ _) (split_len 44 s)

def full (p : ByteArray) : Bool := !(L p).isEmpty
theorem full_true {p : ByteArray} (h : full p = true) : p.toList.isEmpty = false ∧ ¬ p.toList = [] := by
  unfold full at h
  rw [L_toList]
  cases hl : L p <;> simp [hl] at h ⊢
theorem full_false {p : ByteArray} (h : full p = false) : p.toList.isEmpty = true ∧ p.toList = [] := by
  unfold full at h
  rw [L_toList]
  cases hl : L p <;> simp [hl] at h ⊢

set_option maxHeartbeats 400000 in
theorem list_any (s : ByteArray) (w : World) (hs : s.size ≤ 1099511627776) :
    Calls Tryd.prog 64 #[.string s] w (RetRow w 9 1 (F.list s).length (scells (F.list s))) := by
  go_enter Tryd.func64, Tryd.ntmps64
  go_wp2_with fail
  refine (split44 s _ hs).mono ?_
  rintro e w1 ⟨X, d, rfl, hX, hb1⟩
  have hle := split_len 44 s
  obtain ⟨ps, hps⟩ : ∃ ps, ps = F.split 44 s := ⟨_, rfl⟩
  have hfin : F.list s = ps.filter full := by rw [hps]; rfl
  rw [← hps] at hX hle ⊢
  obtain ⟨n, hn⟩ : ∃ n, n = ps.length := ⟨_, rfl⟩
  rw [← hn] at hX hle ⊢
  have HP := Lib.hid hps; clear hps
  have HN := Lib.hid hn; clear hn
  have HF := Lib.hid hfin; clear hfin
  have hx := hX.rd
  clear hX
  go_wp2
  go_loopw [3, 5, 9] (fun o _ i wr => ∃ (k m : Nat) (A : Option Addr) (c : Nat), k ≤ n ∧ m ≤ k ∧ i = .int .i64 k ∧ o = .slice A m c ∧ m = ((ps.take k).filter full).length ∧ Row wr w1.heap.size 9 1 A m c (scells ((ps.take k).filter full)) ∧ Below w1.heap.size w1 wr) (fun _ _ i _ => n - (intOf i).toNat)
  case atStart => exact ⟨0, 0, none, 0, Nat.zero_le _, Nat.le_refl _, rfl, rfl, rfl, Row.none_ _ _ _ _, Below.refl _ _⟩
  case round =>
    obtain ⟨k, m, A, c, hk, hmk, rfl, rfl, hm, hrow, hbel⟩ := hrel
    have HM := Lib.hid hm
    clear hm
    by_cases hlt : k < n
    · obtain ⟨b, o, rfl, hb, c1⟩ := (hx.below hbel).str hlt HN.out.symm
      have hv := F.filter_snoc full ps k (by rw [← HN.out]; exact hlt)
      obtain ⟨x, hxk⟩ : ∃ x, x = ps[k]'(by rw [← HN.out]; exact hlt) := ⟨_, rfl⟩
      rw [← hxk] at hv c1
      clear hxk
      rcases tf (full x) with hfx | hfx
      · obtain ⟨f1, f2⟩ := full_true hfx
        rw [hfx] at hv
        have hv' : ((ps.take (k + 1)).filter full) = ((ps.take k).filter full) ++ [x] := by simpa using hv
        have HV := Lib.hid hv'
        clear hv'
        clear hv hfx
        go_wp2_with (at_builtin; refine appS _ rfl (.tmp 15) (.tmp 17) rfl w1.heap.size A m c _ rfl (hrow.alloc _) _ 1 1 [x] rfl (newS _ _) (by omega) (by have := hbel.size; simp; omega) ?_; intro A1 c1 w2 hr2 ha2)
        go_roundw
        case rel =>
          refine ⟨k + 1, m + 1, A1, c1, by omega, by omega, by go_num, rfl, ?_, ?_, ?_⟩
          · rw [HV.out, List.length_append, HM.out]; rfl
          · rw [HV.out]; exact hr2
          · exact (hbel.alloc hbel.size _).trans (ha2.below (hrow.alloc _) (by have := hbel.size; simp; omega))
        case measure => simp [intOf]; omega
      · obtain ⟨f1, f2⟩ := full_false hfx
        rw [hfx] at hv
        have hv' : ((ps.take (k + 1)).filter full) = ((ps.take k).filter full) := by simpa using hv
        have HV := Lib.hid hv'
        clear hv'
        clear hv hfx
        go_wp2
        go_roundw
        case rel => exact ⟨k + 1, m, A, c, by omega, by omega, by go_num, rfl, by rw [HV.out, HM.out], by rw [HV.out]; exact hrow, hbel⟩
        case measure => simp [intOf]; omega
    · have ht : ps.take k = ps := List.take_of_length_le (by have := HN.out; omega)
      rw [ht] at hrow
      have HM2 : Hid (m = (F.list s).length) := by have := HM.out; rw [ht] at this; rw [HF.out]; exact this
      clear ht HM
      go_wp2
      go_ret
      refine ⟨A, c, ?_, ?_, hb1.trans (hbel.mono hb1.size)⟩
      · rw [← HM2.out]; rfl
      · rw [← HM2.out, HF.out]; exact hrow.mono hb1.size

theorem refTrim_fin (l : List UInt8) (lo hi : Nat) (h0 : lo ≤ hi) (h1 : hi ≤ l.length) (h2 : l.dropWhile T.blank = l.drop lo) (h3 : T.trimR ((l.drop lo).take (hi - lo)) = T.trimR (l.drop lo)) (h4 : hi = lo ∨ ∃ h : hi - 1 < l.length, lo < hi ∧ T.blank l[hi - 1] = false) :
    (l.drop lo).take (hi - lo) = T.trim l := by
  unfold T.trim
  rw [h2, ← h3]
  rcases h4 with rfl | ⟨h, hlt, hb⟩
  · simp [T.trimR_nil]
  · have e : (l.drop lo).take (hi - lo) = (l.drop lo).take (hi - 1 - lo) ++ [l[hi - 1]] := by
      rw [show hi - lo = (hi - 1 - lo) + 1 from by omega, List.take_succ_eq_append_getElem (by simp; omega)]
      congr 2
      rw [List.getElem_drop]
      congr 1
      omega
    rw [e, T.trimR_snoc_not hb]
theorem refTrim_step (l : List UInt8) (lo hi : Nat) (h0 : lo < hi) (h1 : hi ≤ l.length) (hb : T.blank (l[hi - 1]'(by omega)) = true) : T.trimR ((l.drop lo).take (hi - lo)) = T.trimR ((l.drop lo).take (hi - 1 - lo)) := by
  have e : (l.drop lo).take (hi - lo) = (l.drop lo).take (hi - 1 - lo) ++ [l[hi - 1]] := by
    rw [show hi - lo = (hi - 1 - lo) + 1 from by omega, List.take_succ_eq_append_getElem (by simp; omega)]
    congr 2
    rw [List.getElem_drop]
    congr 1
    omega
  rw [e, T.trimR_snoc_blank hb]

theorem blank_tests (x : UInt8) : (((x.toNat : Int) == 32) = true ∧ T.blank x = true) ∨ (((x.toNat : Int) == 32) = false ∧ ((x.toNat : Int) == 9) = true ∧ T.blank x = true) ∨ (((x.toNat : Int) == 32) = false ∧ ((x.toNat : Int) == 9) = false ∧ T.blank x = false) := by
  unfold T.blank
  by_cases h1 : x.toNat = 32
  · left; simp [h1]
  · by_cases h2 : x.toNat = 9
    · right; left; simp [h2]
    · right; right
      simp [h1, h2]; omega

set_option maxHeartbeats 1000000 in
theorem refTrim_any (s : ByteArray) (w : World) (hs : s.size ≤ 1099511627776) :
    Calls Tryd.prog 118 #[.string s] w (RetS w (B (T.trim (L s)))) := by
  have HZ : Hid ((L s).length = s.size) := (L_size s).symm
  go_enter Tryd.func118, Tryd.ntmps118
  go_wp2
  go_loop [3] (fun i => ∃ k : Nat, k ≤ s.size ∧ i = .int .i64 k ∧ (L s).dropWhile T.blank = ((L s).drop k).dropWhile T.blank) (fun i => s.size - (intOf i).toNat)
  case atStart => exact ⟨0, Nat.zero_le _, rfl, rfl⟩
  case round =>
    obtain ⟨k, hk, rfl, hd⟩ := hrel
    have HD := Lib.hid hd; clear hd
    have hway : (∃ h : k < s.size, T.blank s[k] = true ∧ (((s[k].toNat : Int) == 32) = true ∨ (((s[k].toNat : Int) == 32) = false ∧ ((s[k].toNat : Int) == 9) = true))) ∨
        ((L s).dropWhile T.blank = (L s).drop k ∧ ((∃ h : k < s.size, ((s[k].toNat : Int) == 32) = false ∧ ((s[k].toNat : Int) == 9) = false) ∨ k = s.size)) := by
      by_cases hlt : k < s.size
      · have hL : k < (L s).length := by rw [HZ.out]; exact hlt
        rcases blank_tests (s[k]) with ⟨e1, hb⟩ | ⟨e1, e2, hb⟩ | ⟨e1, e2, hb⟩
        · exact .inl ⟨hlt, hb, .inl e1⟩
        · exact .inl ⟨hlt, hb, .inr ⟨e1, e2⟩⟩
        · exact .inr ⟨by rw [HD.out, T.dropWhile_stop hL hb], .inl ⟨hlt, e1, e2⟩⟩
      · exact .inr ⟨by rw [HD.out, List.drop_of_length_le (by rw [HZ.out]; omega)]; rfl, .inr (by omega)⟩
    rcases hway with ⟨hlt, hb, hw⟩ | ⟨hd, hw⟩
    · have hL : k < (L s).length := by rw [HZ.out]; exact hlt
      have HB : Hid (T.blank ((L s)[k]'hL) = true) := hb
      clear hb
      rcases hw with e1 | ⟨e1, e2⟩
      all_goals
        go_wp2
        go_round
        case rel => exact ⟨k + 1, by omega, by go_num, by rw [HD.out, T.dropWhile_step hL HB.out]⟩
        case measure => simp [intOf]; omega
    · have HB := Lib.hid hd
      clear hd HD
      rcases hw with ⟨hlt, e1, e2⟩ | hks
      case' inr => have hks' : ¬ k < s.size := by omega
      case' inr => clear hks
      all_goals
        go_wp2
        go_loop [4] (fun i => ∃ m : Nat, k ≤ m ∧ m ≤ s.size ∧ i = .int .i64 m ∧ T.trimR (((L s).drop k).take (m - k)) = T.trimR ((L s).drop k)) (fun i => (intOf i).toNat)
        case atStart => exact ⟨s.size, hk, Nat.le_refl _, rfl, by rw [List.take_of_length_le (by rw [List.length_drop, HZ.out]; omega)]⟩
        case round =>
          obtain ⟨m, hkm, hm, rfl, ht⟩ := hrel
          have HT := Lib.hid ht; clear ht
          by_cases hlt2 : k < m
          · first
            | (exfalso; omega)
            | (obtain ⟨j, rfl⟩ : ∃ j, m = j + 1 := ⟨m - 1, by omega⟩
               have hm1 : j < s.size := by omega
               have hL : j < (L s).length := by rw [HZ.out]; exact hm1
               rcases blank_tests (s[j]'hm1) with ⟨e3, hb⟩ | ⟨e3, e4, hb⟩ | ⟨e3, e4, hb⟩
               · have HB2 : Hid (T.blank ((L s)[j]'hL) = true) := hb
                 have e3' : ((s[j]'hm1).toNat : Int) = 32 := by simpa using e3
                 clear hb
                 go_wp2
                 go_round
                 case rel => exact ⟨j, by omega, by omega, rfl, by rw [← HT.out, refTrim_step (L s) k (j + 1) hlt2 (by rw [HZ.out]; exact hm) HB2.out]; rfl⟩
                 case measure => simp [intOf]
               · have HB2 : Hid (T.blank ((L s)[j]'hL) = true) := hb
                 have e3' : ¬ ((s[j]'hm1).toNat : Int) = 32 := by simpa using e3
                 have e4' : ((s[j]'hm1).toNat : Int) = 9 := by simpa using e4
                 clear hb
                 go_wp2
                 go_round
                 case rel => exact ⟨j, by omega, by omega, rfl, by rw [← HT.out, refTrim_step (L s) k (j + 1) hlt2 (by rw [HZ.out]; exact hm) HB2.out]; rfl⟩
                 case measure => simp [intOf]
               · have HF := Lib.hid (refTrim_fin (L s) k (j + 1) hkm (by rw [HZ.out]; exact hm) HB.out HT.out (.inr ⟨hL, hlt2, hb⟩))
                 have e3' : ¬ ((s[j]'hm1).toNat : Int) = 32 := by simpa using e3
                 have e4' : ¬ ((s[j]'hm1).toNat : Int) = 9 := by simpa using e4
                 clear hb
                 go_wp2
                 go_ret
                 exact ⟨ret_string (by rw [extract_B]; exact congrArg B HF.out), Below.refl _ _⟩)
          · have HF := Lib.hid (refTrim_fin (L s) k m hkm (by rw [HZ.out]; exact hm) HB.out HT.out (.inl (by omega)))
            go_wp2
            go_ret
            exact ⟨ret_string (by rw [extract_B]; exact congrArg B HF.out), Below.refl _ _⟩
end Go.Proofs.YtcoohkgamogmgaaDoor
