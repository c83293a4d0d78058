/- The walks of tok: Fold, and of the document's Lower. -/
import Derived.Test.YtcoohkgamogmgaaDoorLib
import Derived.Test.YtcoohkgamogmgaaDoorPlain
namespace Go.Proofs.YtcoohkgamogmgaaDoor
open Go.RowKit

theorem fold_step (l : List UInt8) (k : Nat) (h : k < l.length) (m : List UInt8) (hm : m = (l.take k).map T.lower ++ l.drop k) :
    m.length = l.length ∧ (∀ h' : k < m.length, m[k] = l[k]) ∧ m.set k (T.lower l[k]) = (l.take (k + 1)).map T.lower ++ l.drop (k + 1) := by
  subst hm
  have hk : ((l.take k).map T.lower).length = k := by simp; omega
  refine ⟨by simp; omega, fun h' => ?_, ?_⟩
  · rw [List.getElem_append_right (by omega)]
    simp only [hk, Nat.sub_self, List.getElem_drop, Nat.add_zero]
  · rw [List.set_append_right _ _ (by omega), hk, Nat.sub_self, List.drop_eq_getElem_cons h, List.set_cons_zero, List.take_succ_eq_append_getElem h, List.map_append, List.append_assoc]
    rfl

theorem setCell_same {w : World} {p : Addr} {v : Value} (h : w.cell? p = some v) : w.setCell p v = w := by
  obtain ⟨b, o, sp⟩ := p
  unfold World.cell? at h
  cases hb : w.heap[b]? with
  | none => simp [hb] at h
  | some ob =>
    cases ob <;> simp [hb] at h
    case cells c e f =>
      have hlt : b < w.heap.size := (Array.getElem?_eq_some_iff.1 hb).1
      have hbb : w.heap[b] = .cells c e f := (Array.getElem?_eq_some_iff.1 hb).2
      obtain ⟨hsp, hc⟩ := h
      unfold World.setCell
      have : w.heap.modify b (fun | .cells c elem frozen => .cells (if sp.isSome then c else c.setIfInBounds o v) elem frozen | o => o) = w.heap := by
        apply Array.ext
        · simp
        · intro i h1 h2
          simp only [Array.getElem_modify]
          split
          · rename_i e
            subst e
            rw [hbb]
            subst hsp
            show Obj.cells (c.setIfInBounds o v) e f = Obj.cells c e f
            congr 1
            obtain ⟨ho, hv⟩ := Array.getElem?_eq_some_iff.1 hc
            apply Array.ext
            · simp
            · intro j hj1 hj2
              rw [Array.getElem_setIfInBounds (by simpa using hj1)]
              split
              · rename_i e; subst e; exact hv.symm
              · rfl
          · rfl
      exact congrArg (fun h => ({ w with heap := h } : World)) this

set_option maxHeartbeats 400000 in
theorem fold_any (s : ByteArray) (w : World) (hs : s.size ≤ 1099511627776) :
    Calls Tryd.prog 65 #[.string s] w (RetS w (B (T.fold (L s)))) := by
  obtain ⟨c, m, W, hcv, hc, hbuf, hbel⟩ := conv_sb w s
  have hsz : (L s).length = s.size := (L_size s).symm
  have HZ := Lib.hid hsz
  clear hsz
  go_enter Tryd.func65, Tryd.ntmps65
  go_wp2
  go_loopw [4, 5, 10] (fun _ _ i wr => ∃ k : Nat, k ≤ s.size ∧ i = .int .i64 k ∧ BBuf wr w.heap.size (((L s).take k).map T.lower ++ (L s).drop k) m ∧ Below w.heap.size w wr) (fun _ _ i _ => s.size - (intOf i).toNat)
  case atStart => exact ⟨0, Nat.zero_le _, rfl, by simpa using hbuf, hbel⟩
  case round =>
    clear hbuf hbel hcv
    obtain ⟨k, hk, rfl, hbuf, hbel⟩ := hrel
    by_cases hlt : k < s.size
    · obtain ⟨e1, e2, e3⟩ := fold_step (L s) k (by rw [HZ.out]; exact hlt) _ rfl
      have hkl : k < (((L s).take k).map T.lower ++ (L s).drop k).length := by rw [e1, HZ.out]; exact hlt
      have hcell := hbuf.cell hkl
      rw [e2] at hcell
      have hfree := hbuf.free hkl
      obtain ⟨x, hx⟩ : ∃ x, x = (L s)[k]'(by rw [HZ.out]; exact hlt) := ⟨_, rfl⟩
      rw [← hx] at hcell e3
      have hset := hbuf.set hkl (T.lower x)
      rw [e3] at hset
      have E := Lib.hid (And.intro e1 e2)
      clear e1 e2 e3 hkl hx E
      by_cases hup : 65 ≤ x.toNat ∧ x.toNat ≤ 90
      · obtain ⟨u1, u2⟩ := hup
        have hl := (T.lower_up u1 u2).2
        have hset' : BBuf (wr.setCell ⟨w.heap.size, k, none⟩ (.int .u8 ((x.toNat : Int) + 97 - 65))) w.heap.size (((L s).take (k + 1)).map T.lower ++ (L s).drop (k + 1)) m := by
          rw [hl] at hset
          rw [show (x.toNat : Int) + 97 - 65 = ((x.toNat + 32 : Nat) : Int) from by omega]
          exact hset
        clear hl hset
        go_wp2
        go_roundw
        case rel => exact ⟨k + 1, by omega, by go_num, hset', hbel.setCell (p := ⟨w.heap.size, k, none⟩) (Nat.le_refl _) _⟩
        case measure => simp [intOf]; omega
      · have hl := T.lower_id hup
        rw [hl] at hset
        have hsame : wr.setCell ⟨w.heap.size, k, none⟩ (.int .u8 x.toNat) = wr := setCell_same hcell
        rw [hsame] at hset
        clear hl hsame
        by_cases h1 : 65 ≤ x.toNat
        · have h2 : ¬ x.toNat ≤ 90 := fun h => hup ⟨h1, h⟩
          clear hup
          go_wp2
          go_roundw
          case rel => exact ⟨k + 1, by omega, by go_num, hset, hbel⟩
          case measure => simp [intOf]; omega
        · clear hup
          go_wp2
          go_roundw
          case rel => exact ⟨k + 1, by omega, by go_num, hset, hbel⟩
          case measure => simp [intOf]; omega
    · have hks : k = s.size := by omega
      have hrd := hbuf.rd
      rw [hks] at hrd
      have hz := HZ.out
      rw [List.take_of_length_le (by omega), List.drop_of_length_le (by omega), List.append_nil, List.length_map, hz] at hrd
      have hcv := conv_bs hrd c
      clear hks hrd hz
      go_wp2
      go_ret
      exact ⟨rfl, hbel⟩

theorem map_snoc {α β : Type} (f : α → β) (l : List α) (k : Nat) (h : k < l.length) : (l.take (k + 1)).map f = (l.take k).map f ++ [f l[k]] := by
  rw [List.take_succ_eq_append_getElem h, List.map_append]; rfl

set_option maxHeartbeats 400000 in
theorem lower_any (s : ByteArray) (w : World) (hs : s.size ≤ 1099511627776) :
    Calls Tryd.prog 91 #[.string s] w (RetS w (B (T.fold (L s)))) := by
  have hsz : (L s).length = s.size := (L_size s).symm
  have HZ := Lib.hid hsz
  clear hsz
  go_enter Tryd.func91, Tryd.ntmps91
  go_wp2
  go_loopw [3, 4, 5] (fun o i _ wr => ∃ (k : Nat) (A : Option Addr) (c : Nat), k ≤ s.size ∧ i = .int .i64 k ∧ o = .slice A k c ∧ Row wr w.heap.size 5 1 A k c (bcells (((L s).take k).map T.lower)) ∧ Below w.heap.size w wr) (fun _ i _ _ => s.size - (intOf i).toNat)
  case atStart => exact ⟨0, _, 0, Nat.zero_le _, rfl, rfl, Row.empty _ _ _ _ _, (Below.refl _ _).alloc (Nat.le_refl _) _⟩
  case round =>
    obtain ⟨k, A, c, hk, rfl, rfl, hrow, hbel⟩ := hrel
    by_cases hlt : k < s.size
    · have hm := map_snoc T.lower (L s) k (by rw [HZ.out]; exact hlt)
      obtain ⟨x, hx⟩ : ∃ x, x = (L s)[k]'(by rw [HZ.out]; exact hlt) := ⟨_, rfl⟩
      have hat : s[k] = x := by rw [hx]; exact L_at s k hlt
      rw [← hx] at hm
      have HM := Lib.hid hm
      clear hm hx
      by_cases hup : 65 ≤ x.toNat ∧ x.toNat ≤ 90
      · obtain ⟨u1, u2⟩ := hup
        have hl := (T.lower_up u1 u2).2
        have hn : ∀ w : World, Rd (w.alloc (.cells #[.int .u8 ((x.toNat : Int) + 32)] 5)) (some ⟨w.heap.size, 0, none⟩) 1 1 (bcells [T.lower x]) := fun w => by
          have := newB w (T.lower x)
          rw [hl] at this
          exact this
        have HN := Lib.hid hn
        clear hn hl
        go_wp2_with (at_builtin; refine appB _ rfl (.tmp 24) (.tmp 26) rfl w.heap.size A k c _ rfl (hrow.alloc _) _ 1 1 [T.lower x] rfl (HN.out _) (by omega) (by have := hbel.size; simp; omega) ?_; intro A1 c1 w1 hr1 ha1)
        go_roundw
        case rel =>
          refine ⟨k + 1, A1, c1, by omega, by go_num, by simp, by rw [HM.out]; exact hr1, ?_⟩
          exact (hbel.alloc hbel.size _).trans (ha1.below (hrow.alloc _) (by have := hbel.size; simp; omega))
        case measure => simp [intOf]; omega
      · have hl := T.lower_id hup
        rw [hl] at HM
        clear hl
        by_cases h1 : 65 ≤ x.toNat
        · have h2 : ¬ x.toNat ≤ 90 := fun h => hup ⟨h1, h⟩
          clear hup
          go_wp2_with (at_builtin; refine appB _ rfl (.tmp 24) (.tmp 26) rfl w.heap.size A k c _ rfl (hrow.alloc _) _ 1 1 [x] rfl (newB _ _) (by omega) (by have := hbel.size; simp; omega) ?_; intro A1 c1 w1 hr1 ha1)
          go_roundw
          case rel =>
            refine ⟨k + 1, A1, c1, by omega, by go_num, by simp, by rw [HM.out]; exact hr1, ?_⟩
            exact (hbel.alloc hbel.size _).trans (ha1.below (hrow.alloc _) (by have := hbel.size; simp; omega))
          case measure => simp [intOf]; omega
        · clear hup
          go_wp2_with (at_builtin; refine appB _ rfl (.tmp 24) (.tmp 26) rfl w.heap.size A k c _ rfl (hrow.alloc _) _ 1 1 [x] rfl (newB _ _) (by omega) (by have := hbel.size; simp; omega) ?_; intro A1 c1 w1 hr1 ha1)
          go_roundw
          case rel =>
            refine ⟨k + 1, A1, c1, by omega, by go_num, by simp, by rw [HM.out]; exact hr1, ?_⟩
            exact (hbel.alloc hbel.size _).trans (ha1.below (hrow.alloc _) (by have := hbel.size; simp; omega))
          case measure => simp [intOf]; omega
    · have hks : k = s.size := by omega
      have hrd := hrow.rd
      rw [List.take_of_length_le (by have := HZ.out; omega)] at hrd
      have hcv := conv_bs hrd c
      clear hks hrd
      go_wp2
      go_ret
      exact ⟨rfl, hbel⟩

set_option maxHeartbeats 400000 in
theorem is_any (f : FD) (name : ByteArray) (w : World) (h1 : f.1.size ≤ 1099511627776) (h2 : name.size ≤ 1099511627776) :
    Calls Tryd.prog 63 #[.agg #[.string f.1, .string f.2], .string name] w (RetB w (F.is f name)) := by
  go_enter Tryd.func63, Tryd.ntmps63
  go_wp2_with fail
  refine (fold_any _ _ h1).mono ?_
  rintro e w1 ⟨rfl, hb1⟩
  go_wp2_with fail
  refine (fold_any _ _ h2).mono ?_
  rintro e w2 ⟨rfl, hb2⟩
  go_wp2
  go_ret
  refine ⟨ret_bool ?_, ((Below.refl _ _).alloc (Nat.le_refl _) _).trans ((hb1.mono (by simp)).trans (hb2.mono (by have := hb1.size; simp at this; omega)))⟩
  show (ByteArray.toList _ == ByteArray.toList _) = _
  rw [beq_bytes]
  unfold F.is
  by_cases h : T.fold (L f.1) = T.fold (L name)
  · rw [h]; simp
  · rw [decide_eq_false h, decide_eq_false (fun h' => h (B_inj h'))]
end Go.Proofs.YtcoohkgamogmgaaDoor
