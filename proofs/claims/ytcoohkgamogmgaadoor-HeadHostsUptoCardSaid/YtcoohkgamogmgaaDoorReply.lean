/- The walks of Reply, of the words of a status, of SameBytes and SameResponse. Conditions: the number is of 64 bits; for Itoa the library's table of powers of ten is as its text lays it. -/
import Derived.Test.YtcoohkgamogmgaaDoorShow
import Derived.Test.YtcoohkgamogmgaaDoorSame
namespace Go.Proofs.YtcoohkgamogmgaaDoor
open Go.RowKit

set_option maxHeartbeats 400000 in
theorem sameBytes_any (A B : Option Addr) (n m c d : Nat) (xs ys : List UInt8) (w : World) (hn : n ≤ 1099511627776) (hm : m ≤ 1099511627776) (hx : Rd w A n 1 (bcells xs)) (hy : Rd w B m 1 (bcells ys)) (hxl : xs.length = n) (hyl : ys.length = m) :
    Calls Tryd.prog 20 #[.slice A n c, .slice B m d] w (RetB w (decide (xs = ys))) := by
  have HX := Lib.hid hxl
  have HY := Lib.hid hyl
  clear hxl hyl
  by_cases hnm : n = m
  · subst hnm
    go_enter Tryd.func20, Tryd.ntmps20
    go_wp2
    go_loopw [5] (fun i wr => ∃ k : Nat, k ≤ n ∧ i = .int .i64 k ∧ xs.take k = ys.take k ∧ ∃ q, wr = w.drewN q) (fun i _ => n - (intOf i).toNat)
    case atStart => exact ⟨0, Nat.zero_le _, rfl, rfl, 0, rfl⟩
    case round =>
      obtain ⟨k, hk, rfl, he, q, rfl⟩ := hrel
      have HE := Lib.hid he; clear he
      by_cases hlt : k < n
      · obtain ⟨b1, o1, rfl, hl1, c1⟩ := hx.byte hlt HX.out
        obtain ⟨b2, o2, rfl, hl2, d1⟩ := hy.byte hlt HY.out
        have hsnoc : ∀ h : xs[k]'(by have := HX.out; omega) = ys[k]'(by have := HY.out; omega), xs.take (k + 1) = ys.take (k + 1) := fun h => take_eq_snoc _ _ HE.out h
        have hne : ∀ h : ¬ xs[k]'(by have := HX.out; omega) = ys[k]'(by have := HY.out; omega), ¬ xs = ys := fun h e => h (by subst e; rfl)
        obtain ⟨x, hx1⟩ : ∃ x, x = xs[k]'(by have := HX.out; omega) := ⟨_, rfl⟩
        obtain ⟨y, hy1⟩ : ∃ y, y = ys[k]'(by have := HY.out; omega) := ⟨_, rfl⟩
        rw [← hx1] at c1 hsnoc hne
        rw [← hy1] at d1 hsnoc hne
        have HS := Lib.hid hsnoc
        have HN := Lib.hid hne
        clear hx1 hy1 hsnoc hne
        by_cases hd : x = y
        · have hb : ((x.toNat : Int) != (y.toNat : Int)) = false := by rw [hd]; simp
          have hyes := HS.out hd
          have HYS := Lib.hid hyes
          clear hyes hd
          go_wp2
          go_region
          go_wp2
          go_roundw
          case rel => exact ⟨k + 1, by omega, by go_num, HYS.out, _, rfl⟩
          case measure => simp [intOf]; omega
        · have hb : ((x.toNat : Int) != (y.toNat : Int)) = true := by
            rw [bne_iff_ne]; intro e; exact hd (UInt8.toNat_inj.1 (by omega))
          have hno := decide_eq_false (HN.out hd)
          have HNO := Lib.hid hno
          clear hno hd
          go_wp2
          go_region
          go_wp2
          go_ret
          exact ⟨ret_bool HNO.out.symm, below_drewN (Below.refl _ _) _⟩
      · have hfin : xs = ys := by
          have := HE.out
          have h1 := HX.out
          have h2 := HY.out
          rw [List.take_of_length_le (by omega), List.take_of_length_le (by omega)] at this
          exact this
        have HF := Lib.hid hfin
        clear hfin
        go_wp2
        go_ret
        exact ⟨ret_bool (by rw [decide_eq_true HF.out]), below_drewN (Below.refl _ _) _⟩
  · have h1 : ((n : Int) == (m : Int)) = false := by simp; omega
    have h2 : ((n : Int) != (m : Int)) = true := by simp; omega
    go_enter Tryd.func20, Tryd.ntmps20
    go_wp2
    go_ret
    exact ⟨ret_bool (by have := HX.out; have := HY.out; symm; apply decide_eq_false; rintro rfl; omega), Below.refl _ _⟩

/-! ### The words of a status -/
def words : List (Int × ByteArray) := [(400, ⟨#[66, 97, 100, 32, 82, 101, 113, 117, 101, 115, 116]⟩), (403, ⟨#[70, 111, 114, 98, 105, 100, 100, 101, 110]⟩), (404, ⟨#[78, 111, 116, 32, 70, 111, 117, 110, 100]⟩), (413, ⟨#[67, 111, 110, 116, 101, 110, 116, 32, 84, 111, 111, 32, 76, 97, 114, 103, 101]⟩), (431, ⟨#[82, 101, 113, 117, 101, 115, 116, 32, 72, 101, 97, 100, 101, 114, 32, 70, 105, 101, 108, 100, 115, 32, 84, 111, 111, 32, 76, 97, 114, 103, 101]⟩), (501, ⟨#[78, 111, 116, 32, 73, 109, 112, 108, 101, 109, 101, 110, 116, 101, 100]⟩), (502, ⟨#[66, 97, 100, 32, 71, 97, 116, 101, 119, 97, 121]⟩), (504, ⟨#[71, 97, 116, 101, 119, 97, 121, 32, 84, 105, 109, 101, 111, 117, 116]⟩), (505, ⟨#[72, 84, 84, 80, 32, 86, 101, 114, 115, 105, 111, 110, 32, 78, 111, 116, 32, 83, 117, 112, 112, 111, 114, 116, 101, 100]⟩)]
def wordOf (s : Int) : List (Int × ByteArray) → ByteArray
  | [] => ⟨#[69, 114, 114, 111, 114]⟩
  | x :: l => if x.1 = s then x.2 else wordOf s l
def word (s : Int) : ByteArray := wordOf s words
theorem wordOf_drop (s : Int) (l : List (Int × ByteArray)) (k : Nat) (h : ∀ x ∈ l.take k, x.1 ≠ s) : wordOf s l = wordOf s (l.drop k) := by
  induction k generalizing l with
  | zero => rfl
  | succ k ih =>
    cases l with
    | nil => rfl
    | cons x l =>
      rw [List.drop_succ_cons, wordOf, if_neg (h x (by simp)), ih l (fun y hy => h y (by simp [hy]))]

theorem reason_any (s : Int) (w : World) : Calls Tryd.prog 48 #[.int .i64 s] w (RetS w (word s)) := by
  have close : ∀ b : ByteArray, b = word s → Ending.returned (.string b) = .returned (.string (word s)) := fun b h => by rw [h]
  have HC := Lib.hid close
  clear close
  by_cases h0 : s = 400
  · subst h0
    go_enter Tryd.func48, Tryd.ntmps48
    go_wp2
    go_ret
    exact ⟨rfl, Below.refl _ _⟩
  by_cases h1 : s = 403
  · subst h1
    go_enter Tryd.func48, Tryd.ntmps48
    go_wp2
    go_ret
    exact ⟨rfl, Below.refl _ _⟩
  by_cases h2 : s = 404
  · subst h2
    go_enter Tryd.func48, Tryd.ntmps48
    go_wp2
    go_ret
    exact ⟨rfl, Below.refl _ _⟩
  by_cases h3 : s = 413
  · subst h3
    go_enter Tryd.func48, Tryd.ntmps48
    go_wp2
    go_ret
    exact ⟨rfl, Below.refl _ _⟩
  by_cases h4 : s = 431
  · subst h4
    go_enter Tryd.func48, Tryd.ntmps48
    go_wp2
    go_ret
    exact ⟨rfl, Below.refl _ _⟩
  by_cases h5 : s = 501
  · subst h5
    go_enter Tryd.func48, Tryd.ntmps48
    go_wp2
    go_ret
    exact ⟨rfl, Below.refl _ _⟩
  by_cases h6 : s = 502
  · subst h6
    go_enter Tryd.func48, Tryd.ntmps48
    go_wp2
    go_ret
    exact ⟨rfl, Below.refl _ _⟩
  by_cases h7 : s = 504
  · subst h7
    go_enter Tryd.func48, Tryd.ntmps48
    go_wp2
    go_ret
    exact ⟨rfl, Below.refl _ _⟩
  by_cases h8 : s = 505
  · subst h8
    go_enter Tryd.func48, Tryd.ntmps48
    go_wp2
    go_ret
    exact ⟨rfl, Below.refl _ _⟩
  have hfin : (⟨#[69, 114, 114, 111, 114]⟩ : ByteArray) = word s := by
    unfold word
    rw [wordOf_drop s words 9 (by
      intro x hx
      simp only [words, List.take_succ_cons, List.take_zero, List.mem_cons, List.mem_nil_iff, or_false] at hx
      rcases hx with rfl | rfl | rfl | rfl | rfl | rfl | rfl | rfl | rfl <;> exact fun e => by simp_all)]
    rfl
  have HF := Lib.hid hfin
  clear hfin
  have b0 : (s == 400) = false := by simpa using h0
  have b1 : (s == 403) = false := by simpa using h1
  have b2 : (s == 404) = false := by simpa using h2
  have b3 : (s == 413) = false := by simpa using h3
  have b4 : (s == 431) = false := by simpa using h4
  have b5 : (s == 501) = false := by simpa using h5
  have b6 : (s == 502) = false := by simpa using h6
  have b7 : (s == 504) = false := by simpa using h7
  have b8 : (s == 505) = false := by simpa using h8
  go_enter Tryd.func48, Tryd.ntmps48
  go_wp2
  go_ret
  exact ⟨HC.out _ HF.out, Below.refl _ _⟩

def ncells : List Value := words.map fun x => .int .i64 x.1
def tcells : List Value := words.map fun x => .string x.2
theorem words_at {w : World} {b1 b2 k : Nat} (h1 : Rd w (some ⟨b1, 0, none⟩) 9 1 ncells) (h2 : Rd w (some ⟨b2, 0, none⟩) 9 1 tcells) (hk : k < 9) :
    ∃ x, words[k]? = some x ∧ w.cell? ⟨b1, k, none⟩ = some (.int .i64 x.1) ∧ w.cell? ⟨b2, k, none⟩ = some (.string x.2) := by
  have hl : k < words.length := hk
  obtain ⟨c1, o1, e1, _, f1⟩ := h1.2 (by omega)
  obtain ⟨c2, o2, e2, _, f2⟩ := h2.2 (by omega)
  cases e1
  cases e2
  refine ⟨words[k], List.getElem?_eq_getElem hl, ?_, ?_⟩
  · have := f1 k (.int .i64 (words[k]).1) (by rw [ncells, List.getElem?_map, List.getElem?_eq_getElem hl]; rfl)
    rwa [Nat.zero_add] at this
  · have := f2 k (.string (words[k]).2) (by rw [tcells, List.getElem?_map, List.getElem?_eq_getElem hl]; rfl)
    rwa [Nat.zero_add] at this

set_option maxHeartbeats 400000 in
theorem refReason_any (s : Int) (w : World) : Calls Tryd.prog 50 #[.int .i64 s] w (RetS w (word s)) := by
  go_enter Tryd.func50, Tryd.ntmps50
  go_wp2
  go_loopw [5] (fun i wr => ∃ k : Nat, k ≤ 9 ∧ i = .int .i64 k ∧ (∀ x ∈ words.take k, x.1 ≠ s) ∧ Rd wr (some ⟨w.heap.size, 0, none⟩) 9 1 ncells ∧ Rd wr (some ⟨w.heap.size + 1, 0, none⟩) 9 1 tcells ∧ Below w.heap.size w wr) (fun i _ => 9 - (intOf i).toNat)
  case atStart =>
    refine ⟨0, by omega, rfl, fun x hx => by simp at hx, ?_, ?_, ?_⟩
    · exact (Rd.newRow w _ _ 9 1 rfl).alloc _
    · have h := Rd.newRow (w.alloc (.cells #[.int .i64 400, .int .i64 403, .int .i64 404, .int .i64 413, .int .i64 431, .int .i64 501, .int .i64 502, .int .i64 504, .int .i64 505] 101)) 102 tcells.toArray 9 1 rfl
      rw [World.size_alloc] at h
      exact h
    · exact ((Below.refl _ _).alloc (Nat.le_refl _) _).alloc (by rw [World.size_alloc]; omega) _
  case round =>
    obtain ⟨k, hk, rfl, hno, h1, h2, hb⟩ := hrel
    have HNO := Lib.hid hno
    clear hno
    by_cases hlt : k < 9
    · obtain ⟨x, hx, c1, c2⟩ := words_at h1 h2 hlt
      have hl : k < words.length := hlt
      have hxe : words[k] = x := by rw [List.getElem?_eq_getElem hl] at hx; exact Option.some.inj hx
      have HX := Lib.hid hxe
      clear hx hxe
      by_cases hs : x.1 = s
      · have hbt : (x.1 == s) = true := by rw [hs]; simp
        have hfin : x.2 = word s := by
          unfold word
          rw [wordOf_drop s words k HNO.out, List.drop_eq_getElem_cons hl, HX.out, wordOf, if_pos hs]
        have HF := Lib.hid hfin
        clear hfin hs
        go_wp2
        go_ret
        exact ⟨ret_string HF.out, hb⟩
      · have hbt : (x.1 == s) = false := by simpa using hs
        have hno' : ∀ y ∈ words.take (k + 1), y.1 ≠ s := by
          intro y hy
          rw [List.take_succ_eq_append_getElem hl, HX.out] at hy
          rcases List.mem_append.1 hy with h | h
          · exact HNO.out y h
          · rw [List.mem_singleton.1 h]; exact hs
        have HN := Lib.hid hno'
        clear hno' hs
        go_wp2
        go_roundw
        case rel => exact ⟨k + 1, by omega, by go_num, HN.out, h1, h2, hb⟩
        case measure => simp [intOf]; omega
    · have hk9 : k = 9 := by omega
      subst hk9
      have hfin : (⟨#[69, 114, 114, 111, 114]⟩ : ByteArray) = word s := by
        unfold word
        rw [wordOf_drop s words 9 HNO.out]
        rfl
      have HF := Lib.hid hfin
      clear hfin
      go_wp2
      go_ret
      exact ⟨ret_string HF.out, hb⟩
end Go.Proofs.YtcoohkgamogmgaaDoor
