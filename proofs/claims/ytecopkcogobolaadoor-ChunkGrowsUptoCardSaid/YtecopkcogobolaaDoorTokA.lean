/- The walks of tok: Fold, and of the document's Lower. The walks of tok.Trim, split, List, and of the document's Trim, Pieces, List. The walks of tok.List, and of the document's Trim and List. -/
import Derived.Test.YtecopkcogobolaaDoorLib
import Derived.Test.YtecopkcogobolaaDoorPlainA
import Derived.Test.YtecopkcogobolaaDoorShelf
import Derived.Shelf.Strings.SlTrimAscii
namespace Go.Proofs.YtecopkcogobolaaDoor
open Go.RowKit

theorem fold_step (l : List UInt8) (k : Nat) (h : k < l.length) (m : List UInt8) (hm : m = (l.take k).map T.lower ++ l.drop k) :
    m.length = l.length ∧ (∀ h' : k < m.length, m[k] = l[k]) ∧ m.set k (T.lower l[k]) = (l.take (k + 1)).map T.lower ++ l.drop (k + 1) := by
  subst hm
  have hk : ((l.take k).map T.lower).length = k := by simp; omega
  refine ⟨by simp; omega, fun h' => ?_, ?_⟩
  · rw [List.getElem_append_right (by omega)]
    simp only [hk, Nat.sub_self, List.getElem_drop, Nat.add_zero]
  · rw [List.set_append_right _ _ (by omega), hk, Nat.sub_self, List.drop_eq_getElem_cons h, List.set_cons_zero, List.take_succ_eq_append_getElem h, List.map_append, List.append_assoc]
    rfl

theorem setCell_same {w : World} {p : Addr} {v : Value} (h : w.cell? p = some v) : w.setCell p v = w := by
  obtain ⟨b, o, sp⟩ := p
  unfold World.cell? at h
  cases hb : w.heap[b]? with
  | none => simp [hb] at h
  | some ob =>
    cases ob <;> simp [hb] at h
    case cells c e f =>
      have hlt : b < w.heap.size := (Array.getElem?_eq_some_iff.1 hb).1
      have hbb : w.heap[b] = .cells c e f := (Array.getElem?_eq_some_iff.1 hb).2
      obtain ⟨hsp, hc⟩ := h
      unfold World.setCell
      have : w.heap.modify b (fun | .cells c elem frozen => .cells (if sp.isSome then c else c.setIfInBounds o v) elem frozen | o => o) = w.heap := by
        apply Array.ext
        · simp
        · intro i h1 h2
          simp only [Array.getElem_modify]
          split
          · rename_i e
            subst e
            rw [hbb]
            subst hsp
            show Obj.cells (c.setIfInBounds o v) e f = Obj.cells c e f
            congr 1
            obtain ⟨ho, hv⟩ := Array.getElem?_eq_some_iff.1 hc
            apply Array.ext
            · simp
            · intro j hj1 hj2
              rw [Array.getElem_setIfInBounds (by simpa using hj1)]
              split
              · rename_i e; subst e; exact hv.symm
              · rfl
          · rfl
      exact congrArg (fun h => ({ w with heap := h } : World)) this

theorem map_snoc {α β : Type} (f : α → β) (l : List α) (k : Nat) (h : k < l.length) : (l.take (k + 1)).map f = (l.take k).map f ++ [f l[k]] := by
  rw [List.take_succ_eq_append_getElem h, List.map_append]; rfl

end Go.Proofs.YtecopkcogobolaaDoor

namespace Go.Proofs.YtecopkcogobolaaDoor
open Go.RowKit

theorem trimS_eq (l : List UInt8) : Lib.trimS l [32, 9] = T.trim l := by
  unfold Lib.trimS Lib.trimLeftS Lib.trimRightS T.trim
  have : T.blank = fun c => ([32, 9] : List UInt8).contains c := funext T.blank_eq
  rw [T.trim_comm, T.trimR, this]

theorem strTrim (s : ByteArray) (w : World) (hs : s.size ≤ 1099511627776) : Calls Tryd.prog 95 #[.string s, .string ⟨#[32, 9]⟩] w (RetS w (B (T.trim (L s)))) := by
  refine (Any.strings_Trim_laid Tryd.lays160 (by kernel_rfl) s ⟨#[32, 9]⟩ w (by omega) (by decide) (ascii_of_all (by decide))).mono ?_
  rintro e w' ⟨rfl, hb⟩
  refine ⟨?_, hb⟩
  rw [← trimS_eq]; rfl

set_option maxHeartbeats 400000 in
theorem trim_any (s : ByteArray) (w : World) (hs : s.size ≤ 1099511627776) :
    Calls Tryd.prog 72 #[.string s] w (RetS w (B (T.trim (L s)))) := by
  go_enter Tryd.func72, Tryd.ntmps72
  go_wp2_with fail
  refine (strTrim s w hs).mono ?_
  rintro e w1 ⟨rfl, hb1⟩
  go_wp2
  go_ret
  exact ⟨rfl, hb1⟩

theorem extract_le (s : ByteArray) (a b : Nat) : (s.extract a b).size ≤ s.size := by
  rw [L_size, L_extract, L_size]
  simp only [List.length_take, List.length_drop]
  omega

/-- What split has done after k bytes: the pieces that are done, the beginning of the next one, the mark. -/
def SplitAt (c : UInt8) (l : List UInt8) (k f : Nat) (q : Bool) (done : List (List UInt8)) : Prop :=
  f ≤ k ∧ f ≤ l.length ∧ k ≤ l.length + 1 ∧ T.pieces c false [] l = done ++ T.pieces c q ((l.take k).drop f) (l.drop k)
theorem SplitAt.start (c : UInt8) (l : List UInt8) : SplitAt c l 0 0 false [] := ⟨Nat.le_refl _, Nat.zero_le _, Nat.zero_le _, by simp⟩
theorem SplitAt.len_le {c : UInt8} {l : List UInt8} {k f : Nat} {q : Bool} {done : List (List UInt8)} (h : SplitAt c l k f q done) (hd : done.length ≤ f) : done.length ≤ l.length := Nat.le_trans hd h.2.1
theorem SplitAt.esc {c : UInt8} {l : List UInt8} {k f : Nat} {done : List (List UInt8)} (h : SplitAt c l k f true done) (hk : k < l.length) (hx : l[k] = 92) : SplitAt c l (k + 2) f true done := by
  refine ⟨by have := h.1; omega, h.2.1, by omega, ?_⟩
  rw [h.2.2.2, T.pieces_step c true hk h.1, if_pos ⟨rfl, hx⟩]
theorem SplitAt.quote {c : UInt8} {l : List UInt8} {k f : Nat} {q : Bool} {done : List (List UInt8)} (h : SplitAt c l k f q done) (hk : k < l.length) (hx : l[k] = 34) : SplitAt c l (k + 1) f (!q) done := by
  refine ⟨by have := h.1; omega, h.2.1, by omega, ?_⟩
  rw [h.2.2.2, T.pieces_step c q hk h.1, if_neg (by rw [hx]; rintro ⟨_, h⟩; cases h), if_pos hx]
theorem SplitAt.cut {c : UInt8} {l : List UInt8} {k f : Nat} {done : List (List UInt8)} (h : SplitAt c l k f false done) (hk : k < l.length) (h34 : ¬ l[k] = 34) (hx : l[k] = c) : SplitAt c l (k + 1) (k + 1) false (done ++ [(l.take k).drop f]) := by
  refine ⟨Nat.le_refl _, by omega, by omega, ?_⟩
  rw [h.2.2.2, T.pieces_step c false hk h.1, if_neg (by simp), if_neg h34, if_pos ⟨rfl, hx⟩, List.append_assoc]; rfl
theorem SplitAt.on {c : UInt8} {l : List UInt8} {k f : Nat} {q : Bool} {done : List (List UInt8)} (h : SplitAt c l k f q done) (hk : k < l.length) (h92 : ¬ (q = true ∧ l[k] = 92)) (h34 : ¬ l[k] = 34) (hx : ¬ (q = false ∧ l[k] = c)) : SplitAt c l (k + 1) f q done := by
  refine ⟨by have := h.1; omega, h.2.1, by omega, ?_⟩
  rw [h.2.2.2, T.pieces_step c q hk h.1, if_neg h92, if_neg h34, if_neg hx]
theorem SplitAt.fin {c : UInt8} {l : List UInt8} {k f : Nat} {q : Bool} {done : List (List UInt8)} (h : SplitAt c l k f q done) (hk : l.length ≤ k) : T.pieces c false [] l = done ++ [l.drop f] := by
  rw [h.2.2.2, T.pieces_end c q hk]

def trimmed (done : List (List UInt8)) : List ByteArray := done.map fun p => B (T.trim p)
theorem trimmed_snoc (done : List (List UInt8)) (p : List UInt8) : trimmed (done ++ [p]) = trimmed done ++ [B (T.trim p)] := by simp [trimmed]
theorem trimmed_len (done : List (List UInt8)) : (trimmed done).length = done.length := List.length_map _

/-- The loop's relation. -/
def SplitRel (c : UInt8) (s : ByteArray) (B0 : Nat) (f : List (List UInt8) → List ByteArray) (o fr q i : Value) (wr : World) : Prop :=
  ∃ (k m n : Nat) (b : Bool) (done : List (List UInt8)) (A : Option Addr) (d : Nat), i = .int .i64 k ∧ fr = .int .i64 m ∧ q = .bool b ∧ o = .slice A n d ∧ n = done.length ∧ n ≤ m ∧ SplitAt c (L s) k m b done ∧
    Row wr B0 9 1 A n d (scells (f done)) ∧ B0 ≤ wr.heap.size

def plainly (done : List (List UInt8)) : List ByteArray := done.map B
theorem plain_snoc (done : List (List UInt8)) (p : List UInt8) : plainly (done ++ [p]) = plainly done ++ [B p] := by simp [plainly]
theorem plain_len (done : List (List UInt8)) : (plainly done).length = done.length := List.length_map _

end Go.Proofs.YtecopkcogobolaaDoor

namespace Go.Proofs.YtecopkcogobolaaDoor
open Go.RowKit

theorem pieces_len (c : UInt8) : ∀ (n : Nat) (q : Bool) (cur l : List UInt8), l.length ≤ n → (T.pieces c q cur l).length ≤ l.length + 1 := by
  intro n
  induction n with
  | zero =>
    intro q cur l h
    have : l = [] := List.eq_nil_of_length_eq_zero (by omega)
    subst this
    simp [T.pieces]
  | succ n ih =>
    intro q cur l h
    cases l with
    | nil => simp [T.pieces]
    | cons x r =>
      rw [T.pieces_cons]
      simp only [List.length_cons] at h ⊢
      split
      · cases r with
        | nil => simp
        | cons y r' =>
          have := ih q (cur ++ [x, y]) r' (by simp at h; omega)
          simp only [List.length_cons]; omega
      · split
        · have := ih (!q) (cur ++ [x]) r (by omega); omega
        · split
          · have := ih q [] r (by omega); simp only [List.length_cons]; omega
          · have := ih q (cur ++ [x]) r (by omega); omega
theorem split_len (c : UInt8) (s : ByteArray) : (F.split c s).length ≤ s.size + 1 := by
  unfold F.split
  rw [List.length_map, L_size]
  exact pieces_len c _ _ _ _ (Nat.le_refl _)
theorem fpieces_len (c : UInt8) (s : ByteArray) : (F.pieces c s).length ≤ s.size + 1 := by
  unfold F.pieces
  rw [List.length_map, L_size]
  exact pieces_len c _ _ _ _ (Nat.le_refl _)
theorem list_len (s : ByteArray) : (F.list s).length ≤ s.size + 1 := Nat.le_trans (List.length_filter_le _ _) (split_len 44 s)

def full (p : ByteArray) : Bool := !(L p).isEmpty
theorem full_true {p : ByteArray} (h : full p = true) : p.toList.isEmpty = false ∧ ¬ p.toList = [] := by
  unfold full at h
  rw [L_toList]
  cases hl : L p <;> simp [hl] at h ⊢
theorem full_false {p : ByteArray} (h : full p = false) : p.toList.isEmpty = true ∧ p.toList = [] := by
  unfold full at h
  rw [L_toList]
  cases hl : L p <;> simp [hl] at h ⊢

theorem refTrim_fin (l : List UInt8) (lo hi : Nat) (h0 : lo ≤ hi) (h1 : hi ≤ l.length) (h2 : l.dropWhile T.blank = l.drop lo) (h3 : T.trimR ((l.drop lo).take (hi - lo)) = T.trimR (l.drop lo)) (h4 : hi = lo ∨ ∃ h : hi - 1 < l.length, lo < hi ∧ T.blank l[hi - 1] = false) :
    (l.drop lo).take (hi - lo) = T.trim l := by
  unfold T.trim
  rw [h2, ← h3]
  rcases h4 with rfl | ⟨h, hlt, hb⟩
  · simp [T.trimR_nil]
  · have e : (l.drop lo).take (hi - lo) = (l.drop lo).take (hi - 1 - lo) ++ [l[hi - 1]] := by
      rw [show hi - lo = (hi - 1 - lo) + 1 from by omega, List.take_succ_eq_append_getElem (by simp; omega)]
      congr 2
      rw [List.getElem_drop]
      congr 1
      omega
    rw [e, T.trimR_snoc_not hb]
theorem refTrim_step (l : List UInt8) (lo hi : Nat) (h0 : lo < hi) (h1 : hi ≤ l.length) (hb : T.blank (l[hi - 1]'(by omega)) = true) : T.trimR ((l.drop lo).take (hi - lo)) = T.trimR ((l.drop lo).take (hi - 1 - lo)) := by
  have e : (l.drop lo).take (hi - lo) = (l.drop lo).take (hi - 1 - lo) ++ [l[hi - 1]] := by
    rw [show hi - lo = (hi - 1 - lo) + 1 from by omega, List.take_succ_eq_append_getElem (by simp; omega)]
    congr 2
    rw [List.getElem_drop]
    congr 1
    omega
  rw [e, T.trimR_snoc_blank hb]

theorem blank_tests (x : UInt8) : (((x.toNat : Int) == 32) = true ∧ T.blank x = true) ∨ (((x.toNat : Int) == 32) = false ∧ ((x.toNat : Int) == 9) = true ∧ T.blank x = true) ∨ (((x.toNat : Int) == 32) = false ∧ ((x.toNat : Int) == 9) = false ∧ T.blank x = false) := by
  unfold T.blank
  by_cases h1 : x.toNat = 32
  · left; simp [h1]
  · by_cases h2 : x.toNat = 9
    · right; left; simp [h2]
    · right; right
      simp [h1, h2]; omega

set_option maxHeartbeats 1000000 in
theorem refTrim_any (s : ByteArray) (w : World) (hs : s.size ≤ 1099511627776) :
    Calls Tryd.prog 80 #[.string s] w (RetS w (B (T.trim (L s)))) := by
  have HZ : Hid ((L s).length = s.size) := (L_size s).symm
  go_enter Tryd.func80, Tryd.ntmps80
  go_wp2
  go_loop [3] (fun i => ∃ k : Nat, k ≤ s.size ∧ i = .int .i64 k ∧ (L s).dropWhile T.blank = ((L s).drop k).dropWhile T.blank) (fun i => s.size - (intOf i).toNat)
  case atStart => exact ⟨0, Nat.zero_le _, rfl, rfl⟩
  case round =>
    obtain ⟨k, hk, rfl, hd⟩ := hrel
    have HD := Lib.hid hd; clear hd
    have hway : (∃ h : k < s.size, T.blank s[k] = true ∧ (((s[k].toNat : Int) == 32) = true ∨ (((s[k].toNat : Int) == 32) = false ∧ ((s[k].toNat : Int) == 9) = true))) ∨
        ((L s).dropWhile T.blank = (L s).drop k ∧ ((∃ h : k < s.size, ((s[k].toNat : Int) == 32) = false ∧ ((s[k].toNat : Int) == 9) = false) ∨ k = s.size)) := by
      by_cases hlt : k < s.size
      · have hL : k < (L s).length := by rw [HZ.out]; exact hlt
        rcases blank_tests (s[k]) with ⟨e1, hb⟩ | ⟨e1, e2, hb⟩ | ⟨e1, e2, hb⟩
        · exact .inl ⟨hlt, hb, .inl e1⟩
        · exact .inl ⟨hlt, hb, .inr ⟨e1, e2⟩⟩
        · exact .inr ⟨by rw [HD.out, T.dropWhile_stop hL hb], .inl ⟨hlt, e1, e2⟩⟩
      · exact .inr ⟨by rw [HD.out, List.drop_of_length_le (by rw [HZ.out]; omega)]; rfl, .inr (by omega)⟩
    rcases hway with ⟨hlt, hb, hw⟩ | ⟨hd, hw⟩
    · have hL : k < (L s).length := by rw [HZ.out]; exact hlt
      have HB : Hid (T.blank ((L s)[k]'hL) = true) := hb
      clear hb
      rcases hw with e1 | ⟨e1, e2⟩
      all_goals
        go_wp2
        go_round
        case rel => exact ⟨k + 1, by omega, by go_num, by rw [HD.out, T.dropWhile_step hL HB.out]⟩
        case measure => simp [intOf]; omega
    · have HB := Lib.hid hd
      clear hd HD
      rcases hw with ⟨hlt, e1, e2⟩ | hks
      case' inr => have hks' : ¬ k < s.size := by omega
      case' inr => clear hks
      all_goals
        go_wp2
        go_loop [4] (fun i => ∃ m : Nat, k ≤ m ∧ m ≤ s.size ∧ i = .int .i64 m ∧ T.trimR (((L s).drop k).take (m - k)) = T.trimR ((L s).drop k)) (fun i => (intOf i).toNat)
        case atStart => exact ⟨s.size, hk, Nat.le_refl _, rfl, by rw [List.take_of_length_le (by rw [List.length_drop, HZ.out]; omega)]⟩
        case round =>
          obtain ⟨m, hkm, hm, rfl, ht⟩ := hrel
          have HT := Lib.hid ht; clear ht
          by_cases hlt2 : k < m
          · first
            | (exfalso; omega)
            | (obtain ⟨j, rfl⟩ : ∃ j, m = j + 1 := ⟨m - 1, by omega⟩
               have hm1 : j < s.size := by omega
               have hL : j < (L s).length := by rw [HZ.out]; exact hm1
               rcases blank_tests (s[j]'hm1) with ⟨e3, hb⟩ | ⟨e3, e4, hb⟩ | ⟨e3, e4, hb⟩
               · have HB2 : Hid (T.blank ((L s)[j]'hL) = true) := hb
                 have e3' : ((s[j]'hm1).toNat : Int) = 32 := by simpa using e3
                 clear hb
                 go_wp2
                 go_round
                 case rel => exact ⟨j, by omega, by omega, rfl, by rw [← HT.out, refTrim_step (L s) k (j + 1) hlt2 (by rw [HZ.out]; exact hm) HB2.out]; rfl⟩
                 case measure => simp [intOf]
               · have HB2 : Hid (T.blank ((L s)[j]'hL) = true) := hb
                 have e3' : ¬ ((s[j]'hm1).toNat : Int) = 32 := by simpa using e3
                 have e4' : ((s[j]'hm1).toNat : Int) = 9 := by simpa using e4
                 clear hb
                 go_wp2
                 go_round
                 case rel => exact ⟨j, by omega, by omega, rfl, by rw [← HT.out, refTrim_step (L s) k (j + 1) hlt2 (by rw [HZ.out]; exact hm) HB2.out]; rfl⟩
                 case measure => simp [intOf]
               · have HF := Lib.hid (refTrim_fin (L s) k (j + 1) hkm (by rw [HZ.out]; exact hm) HB.out HT.out (.inr ⟨hL, hlt2, hb⟩))
                 have e3' : ¬ ((s[j]'hm1).toNat : Int) = 32 := by simpa using e3
                 have e4' : ¬ ((s[j]'hm1).toNat : Int) = 9 := by simpa using e4
                 clear hb
                 go_wp2
                 go_ret
                 exact ⟨ret_string (by rw [extract_B]; exact congrArg B HF.out), Below.refl _ _⟩)
          · have HF := Lib.hid (refTrim_fin (L s) k m hkm (by rw [HZ.out]; exact hm) HB.out HT.out (.inl (by omega)))
            go_wp2
            go_ret
            exact ⟨ret_string (by rw [extract_B]; exact congrArg B HF.out), Below.refl _ _⟩
end Go.Proofs.YtecopkcogobolaaDoor
