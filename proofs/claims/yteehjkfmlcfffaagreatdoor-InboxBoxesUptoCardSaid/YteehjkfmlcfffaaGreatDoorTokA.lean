/- The walks of tok: Fold, and of the document's Lower. The walks of tok.Trim, split, List, and of the document's Trim, Pieces, List. The walks of tok.List, and of the document's Trim and List. -/
import Derived.Test.YteehjkfmlcfffaaGreatDoorLib
import Derived.Test.YteehjkfmlcfffaaGreatDoorPlainA
import Derived.Test.YteehjkfmlcfffaaGreatDoorShelf
import Derived.Shelf.Strings.SlTrimAscii
namespace Go.Proofs.YteehjkfmlcfffaaGreatDoor
open Go.RowKit

theorem fold_step (l : List UInt8) (k : Nat) (h : k < l.length) (m : List UInt8) (hm : m = (l.take k).map T.lower ++ l.drop k) :
    m.length = l.length ∧ (∀ h' : k < m.length, m[k] = l[k]) ∧ m.set k (T.lower l[k]) = (l.take (k + 1)).map T.lower ++ l.drop (k + 1) := by
  subst hm
  have hk : ((l.take k).map T.lower).length = k := by simp; omega
  refine ⟨by simp; omega, fun h' => ?_, ?_⟩
  · rw [List.getElem_append_right (by omega)]
    simp only [hk, Nat.sub_self, List.getElem_drop, Nat.add_zero]
  · rw [List.set_append_right _ _ (by omega), hk, Nat.sub_self, List.drop_eq_getElem_cons h, List.set_cons_zero, List.take_succ_eq_append_getElem h, List.map_append, List.append_assoc]
    rfl

theorem setCell_same {w : World} {p : Addr} {v : Value} (h : w.cell? p = some v) : w.setCell p v = w := by
  obtain ⟨b, o, sp⟩ := p
  unfold World.cell? at h
  cases hb : w.heap[b]? with
  | none => simp [hb] at h
  | some ob =>
    cases ob <;> simp [hb] at h
    case cells c e f =>
      have hlt : b < w.heap.size := (Array.getElem?_eq_some_iff.1 hb).1
      have hbb : w.heap[b] = .cells c e f := (Array.getElem?_eq_some_iff.1 hb).2
      obtain ⟨hsp, hc⟩ := h
      unfold World.setCell
      have : w.heap.modify b (fun | .cells c elem frozen => .cells (if sp.isSome then c else c.setIfInBounds o v) elem frozen | o => o) = w.heap := by
        apply Array.ext
        · simp
        · intro i h1 h2
          simp only [Array.getElem_modify]
          split
          · rename_i e
            subst e
            rw [hbb]
            subst hsp
            show Obj.cells (c.setIfInBounds o v) e f = Obj.cells c e f
            congr 1
            obtain ⟨ho, hv⟩ := Array.getElem?_eq_some_iff.1 hc
            apply Array.ext
            · simp
            · intro j hj1 hj2
              rw [Array.getElem_setIfInBounds (by simpa using hj1)]
              split
              · rename_i e; subst e; exact hv.symm
              · rfl
          · rfl
      exact congrArg (fun h => ({ w with heap := h } : World)) this

set_option maxHeartbeats 400000 in
theorem fold_any (s : ByteArray) (w : World) (hs : s.size ≤ 1099511627776) :
    Calls Tryz.prog 88 #[.string s] w (RetS w (B (T.fold (L s)))) := by
  obtain ⟨c, m, W, hcv, hc, hbuf, hbel⟩ := conv_sb w s
  have hsz : (L s).length = s.size := (L_size s).symm
  have HZ := Lib.hid hsz
  clear hsz
  go_enter Tryz.func88, Tryz.ntmps88
  go_wp2
  go_loopw [4, 5, 10] (fun _ _ i wr => ∃ k : Nat, k ≤ s.size ∧ i = .int .i64 k ∧ BBuf wr w.heap.size (((L s).take k).map T.lower ++ (L s).drop k) m ∧ Below w.heap.size w wr) (fun _ _ i _ => s.size - (intOf i).toNat)
  case atStart => exact ⟨0, Nat.zero_le _, rfl, by simpa using hbuf, hbel⟩
  case round =>
    clear hbuf hbel hcv
    obtain ⟨k, hk, rfl, hbuf, hbel⟩ := hrel
    by_cases hlt : k < s.size
    · obtain ⟨e1, e2, e3⟩ := fold_step (L s) k (by rw [HZ.out]; exact hlt) _ rfl
      have hkl : k < (((L s).take k).map T.lower ++ (L s).drop k).length := by rw [e1, HZ.out]; exact hlt
      have hcell := hbuf.cell hkl
      rw [e2] at hcell
      have hfree := hbuf.free hkl
      obtain ⟨x, hx⟩ : ∃ x, x = (L s)[k]'(by rw [HZ.out]; exact hlt) := ⟨_, rfl⟩
      rw [← hx] at hcell e3
      have hset := hbuf.set hkl (T.lower x)
      rw [e3] at hset
      have E := Lib.hid (And.intro e1 e2)
      clear e1 e2 e3 hkl hx E
      by_cases hup : 65 ≤ x.toNat ∧ x.toNat ≤ 90
      · obtain ⟨u1, u2⟩ := hup
        have hl := (T.lower_up u1 u2).2
        have hset' : BBuf (wr.setCell ⟨w.heap.size, k, none⟩ (.int .u8 ((x.toNat : Int) + 97 - 65))) w.heap.size (((L s).take (k + 1)).map T.lower ++ (L s).drop (k + 1)) m := by
          rw [hl] at hset
          rw [show (x.toNat : Int) + 97 - 65 = ((x.toNat + 32 : Nat) : Int) from by omega]
          exact hset
        clear hl hset
        go_wp2
        go_roundw
        case rel => exact ⟨k + 1, by omega, by go_num, hset', hbel.setCell (p := ⟨w.heap.size, k, none⟩) (Nat.le_refl _) _⟩
        case measure => simp [intOf]; omega
      · have hl := T.lower_id hup
        rw [hl] at hset
        have hsame : wr.setCell ⟨w.heap.size, k, none⟩ (.int .u8 x.toNat) = wr := setCell_same hcell
        rw [hsame] at hset
        clear hl hsame
        by_cases h1 : 65 ≤ x.toNat
        · have h2 : ¬ x.toNat ≤ 90 := fun h => hup ⟨h1, h⟩
          clear hup
          go_wp2
          go_roundw
          case rel => exact ⟨k + 1, by omega, by go_num, hset, hbel⟩
          case measure => simp [intOf]; omega
        · clear hup
          go_wp2
          go_roundw
          case rel => exact ⟨k + 1, by omega, by go_num, hset, hbel⟩
          case measure => simp [intOf]; omega
    · have hks : k = s.size := by omega
      have hrd := hbuf.rd
      rw [hks] at hrd
      have hz := HZ.out
      rw [List.take_of_length_le (by omega), List.drop_of_length_le (by omega), List.append_nil, List.length_map, hz] at hrd
      have hcv := conv_bs hrd c
      clear hks hrd hz
      go_wp2
      go_ret
      exact ⟨rfl, hbel⟩

theorem map_snoc {α β : Type} (f : α → β) (l : List α) (k : Nat) (h : k < l.length) : (l.take (k + 1)).map f = (l.take k).map f ++ [f l[k]] := by
  rw [List.take_succ_eq_append_getElem h, List.map_append]; rfl

set_option maxHeartbeats 400000 in
theorem lower_any (s : ByteArray) (w : World) (hs : s.size ≤ 1099511627776) :
    Calls Tryz.prog 234 #[.string s] w (RetS w (B (T.fold (L s)))) := by
  have hsz : (L s).length = s.size := (L_size s).symm
  have HZ := Lib.hid hsz
  clear hsz
  go_enter Tryz.func234, Tryz.ntmps234
  go_wp2
  go_loopw [3, 4, 5] (fun o i _ wr => ∃ (k : Nat) (A : Option Addr) (c : Nat), k ≤ s.size ∧ i = .int .i64 k ∧ o = .slice A k c ∧ Row wr w.heap.size 5 1 A k c (bcells (((L s).take k).map T.lower)) ∧ Below w.heap.size w wr) (fun _ i _ _ => s.size - (intOf i).toNat)
  case atStart => exact ⟨0, _, 0, Nat.zero_le _, rfl, rfl, Row.empty _ _ _ _ _, (Below.refl _ _).alloc (Nat.le_refl _) _⟩
  case round =>
    obtain ⟨k, A, c, hk, rfl, rfl, hrow, hbel⟩ := hrel
    by_cases hlt : k < s.size
    · have hm := map_snoc T.lower (L s) k (by rw [HZ.out]; exact hlt)
      obtain ⟨x, hx⟩ : ∃ x, x = (L s)[k]'(by rw [HZ.out]; exact hlt) := ⟨_, rfl⟩
      have hat : s[k] = x := by rw [hx]; exact L_at s k hlt
      rw [← hx] at hm
      have HM := Lib.hid hm
      clear hm hx
      by_cases hup : 65 ≤ x.toNat ∧ x.toNat ≤ 90
      · obtain ⟨u1, u2⟩ := hup
        have hl := (T.lower_up u1 u2).2
        have hn : ∀ w : World, Rd (w.alloc (.cells #[.int .u8 ((x.toNat : Int) + 32)] 5)) (some ⟨w.heap.size, 0, none⟩) 1 1 (bcells [T.lower x]) := fun w => by
          have := newB w (T.lower x)
          rw [hl] at this
          exact this
        have HN := Lib.hid hn
        clear hn hl
        go_wp2_with (at_builtin; refine appB _ rfl (.tmp 24) (.tmp 26) rfl w.heap.size A k c _ rfl (hrow.alloc _) _ 1 1 [T.lower x] rfl (HN.out _) (by omega) (by have := hbel.size; simp; omega) ?_; intro A1 c1 w1 hr1 ha1)
        go_roundw
        case rel =>
          refine ⟨k + 1, A1, c1, by omega, by go_num, by simp, by rw [HM.out]; exact hr1, ?_⟩
          exact (hbel.alloc hbel.size _).trans (ha1.below (hrow.alloc _) (by have := hbel.size; simp; omega))
        case measure => simp [intOf]; omega
      · have hl := T.lower_id hup
        rw [hl] at HM
        clear hl
        by_cases h1 : 65 ≤ x.toNat
        · have h2 : ¬ x.toNat ≤ 90 := fun h => hup ⟨h1, h⟩
          clear hup
          go_wp2_with (at_builtin; refine appB _ rfl (.tmp 24) (.tmp 26) rfl w.heap.size A k c _ rfl (hrow.alloc _) _ 1 1 [x] rfl (newB _ _) (by omega) (by have := hbel.size; simp; omega) ?_; intro A1 c1 w1 hr1 ha1)
          go_roundw
          case rel =>
            refine ⟨k + 1, A1, c1, by omega, by go_num, by simp, by rw [HM.out]; exact hr1, ?_⟩
            exact (hbel.alloc hbel.size _).trans (ha1.below (hrow.alloc _) (by have := hbel.size; simp; omega))
          case measure => simp [intOf]; omega
        · clear hup
          go_wp2_with (at_builtin; refine appB _ rfl (.tmp 24) (.tmp 26) rfl w.heap.size A k c _ rfl (hrow.alloc _) _ 1 1 [x] rfl (newB _ _) (by omega) (by have := hbel.size; simp; omega) ?_; intro A1 c1 w1 hr1 ha1)
          go_roundw
          case rel =>
            refine ⟨k + 1, A1, c1, by omega, by go_num, by simp, by rw [HM.out]; exact hr1, ?_⟩
            exact (hbel.alloc hbel.size _).trans (ha1.below (hrow.alloc _) (by have := hbel.size; simp; omega))
          case measure => simp [intOf]; omega
    · have hks : k = s.size := by omega
      have hrd := hrow.rd
      rw [List.take_of_length_le (by have := HZ.out; omega)] at hrd
      have hcv := conv_bs hrd c
      clear hks hrd
      go_wp2
      go_ret
      exact ⟨rfl, hbel⟩

set_option maxHeartbeats 400000 in
theorem is_any (f : FD) (name : ByteArray) (w : World) (h1 : f.1.size ≤ 1099511627776) (h2 : name.size ≤ 1099511627776) :
    Calls Tryz.prog 165 #[.agg #[.string f.1, .string f.2], .string name] w (RetB w (F.is f name)) := by
  go_enter Tryz.func165, Tryz.ntmps165
  go_wp2_with fail
  refine (fold_any _ _ h1).mono ?_
  rintro e w1 ⟨rfl, hb1⟩
  go_wp2_with fail
  refine (fold_any _ _ h2).mono ?_
  rintro e w2 ⟨rfl, hb2⟩
  go_wp2
  go_ret
  refine ⟨ret_bool ?_, ((Below.refl _ _).alloc (Nat.le_refl _) _).trans ((hb1.mono (by simp)).trans (hb2.mono (by have := hb1.size; simp at this; omega)))⟩
  show (ByteArray.toList _ == ByteArray.toList _) = _
  rw [beq_bytes]
  unfold F.is
  by_cases h : T.fold (L f.1) = T.fold (L name)
  · rw [h]; simp
  · rw [decide_eq_false h, decide_eq_false (fun h' => h (B_inj h'))]
end Go.Proofs.YteehjkfmlcfffaaGreatDoor

namespace Go.Proofs.YteehjkfmlcfffaaGreatDoor
open Go.RowKit

theorem trimS_eq (l : List UInt8) : Lib.trimS l [32, 9] = T.trim l := by
  unfold Lib.trimS Lib.trimLeftS Lib.trimRightS T.trim
  have : T.blank = fun c => ([32, 9] : List UInt8).contains c := funext T.blank_eq
  rw [T.trim_comm, T.trimR, this]

theorem strTrim (s : ByteArray) (w : World) (hs : s.size ≤ 1099511627776) : Calls Tryz.prog 173 #[.string s, .string ⟨#[32, 9]⟩] w (RetS w (B (T.trim (L s)))) := by
  refine (Any.strings_Trim_laid Tryz.lays160 (by kernel_rfl) s ⟨#[32, 9]⟩ w (by omega) (by decide) (ascii_of_all (by decide))).mono ?_
  rintro e w' ⟨rfl, hb⟩
  refine ⟨?_, hb⟩
  rw [← trimS_eq]; rfl

set_option maxHeartbeats 400000 in
theorem trim_any (s : ByteArray) (w : World) (hs : s.size ≤ 1099511627776) :
    Calls Tryz.prog 239 #[.string s] w (RetS w (B (T.trim (L s)))) := by
  go_enter Tryz.func239, Tryz.ntmps239
  go_wp2_with fail
  refine (strTrim s w hs).mono ?_
  rintro e w1 ⟨rfl, hb1⟩
  go_wp2
  go_ret
  exact ⟨rfl, hb1⟩

theorem extract_le (s : ByteArray) (a b : Nat) : (s.extract a b).size ≤ s.size := by
  rw [L_size, L_extract, L_size]
  simp only [List.length_take, List.length_drop]
  omega

/-- What split has done after k bytes: the pieces that are done, the beginning of the next one, the mark. -/
def SplitAt (c : UInt8) (l : List UInt8) (k f : Nat) (q : Bool) (done : List (List UInt8)) : Prop :=
  f ≤ k ∧ f ≤ l.length ∧ k ≤ l.length + 1 ∧ T.pieces c false [] l = done ++ T.pieces c q ((l.take k).drop f) (l.drop k)
theorem SplitAt.start (c : UInt8) (l : List UInt8) : SplitAt c l 0 0 false [] := ⟨Nat.le_refl _, Nat.zero_le _, Nat.zero_le _, by simp⟩
theorem SplitAt.esc {c : UInt8} {l : List UInt8} {k f : Nat} {done : List (List UInt8)} (h : SplitAt c l k f true done) (hk : k < l.length) (hx : l[k] = 92) : SplitAt c l (k + 2) f true done := by
  refine ⟨by have := h.1; omega, h.2.1, by omega, ?_⟩
  rw [h.2.2.2, T.pieces_step c true hk h.1, if_pos ⟨rfl, hx⟩]
theorem SplitAt.quote {c : UInt8} {l : List UInt8} {k f : Nat} {q : Bool} {done : List (List UInt8)} (h : SplitAt c l k f q done) (hk : k < l.length) (hx : l[k] = 34) : SplitAt c l (k + 1) f (!q) done := by
  refine ⟨by have := h.1; omega, h.2.1, by omega, ?_⟩
  rw [h.2.2.2, T.pieces_step c q hk h.1, if_neg (by rw [hx]; rintro ⟨_, h⟩; cases h), if_pos hx]
theorem SplitAt.cut {c : UInt8} {l : List UInt8} {k f : Nat} {done : List (List UInt8)} (h : SplitAt c l k f false done) (hk : k < l.length) (h34 : ¬ l[k] = 34) (hx : l[k] = c) : SplitAt c l (k + 1) (k + 1) false (done ++ [(l.take k).drop f]) := by
  refine ⟨Nat.le_refl _, by omega, by omega, ?_⟩
  rw [h.2.2.2, T.pieces_step c false hk h.1, if_neg (by simp), if_neg h34, if_pos ⟨rfl, hx⟩, List.append_assoc]; rfl
theorem SplitAt.on {c : UInt8} {l : List UInt8} {k f : Nat} {q : Bool} {done : List (List UInt8)} (h : SplitAt c l k f q done) (hk : k < l.length) (h92 : ¬ (q = true ∧ l[k] = 92)) (h34 : ¬ l[k] = 34) (hx : ¬ (q = false ∧ l[k] = c)) : SplitAt c l (k + 1) f q done := by
  refine ⟨by have := h.1; omega, h.2.1, by omega, ?_⟩
  rw [h.2.2.2, T.pieces_step c q hk h.1, if_neg h92, if_neg h34, if_neg hx]
theorem SplitAt.fin {c : UInt8} {l : List UInt8} {k f : Nat} {q : Bool} {done : List (List UInt8)} (h : SplitAt c l k f q done) (hk : l.length ≤ k) : T.pieces c false [] l = done ++ [l.drop f] := by
  rw [h.2.2.2, T.pieces_end c q hk]

def trimmed (done : List (List UInt8)) : List ByteArray := done.map fun p => B (T.trim p)
theorem trimmed_snoc (done : List (List UInt8)) (p : List UInt8) : trimmed (done ++ [p]) = trimmed done ++ [B (T.trim p)] := by simp [trimmed]
theorem trimmed_len (done : List (List UInt8)) : (trimmed done).length = done.length := List.length_map _

/-- The loop's relation. -/
def SplitRel (c : UInt8) (s : ByteArray) (B0 : Nat) (f : List (List UInt8) → List ByteArray) (o fr q i : Value) (wr : World) : Prop :=
  ∃ (k m n : Nat) (b : Bool) (done : List (List UInt8)) (A : Option Addr) (d : Nat), i = .int .i64 k ∧ fr = .int .i64 m ∧ q = .bool b ∧ o = .slice A n d ∧ n = done.length ∧ n ≤ m ∧ SplitAt c (L s) k m b done ∧
    Row wr B0 9 1 A n d (scells (f done)) ∧ B0 ≤ wr.heap.size

set_option maxHeartbeats 1000000 in
theorem split_any (s : ByteArray) (c : UInt8) (w : World) (hs : s.size ≤ 1099511627776) :
    Calls Tryz.prog 168 #[.string s, .int .u8 c.toNat] w (RetRow w 9 1 (F.split c s).length (scells (F.split c s))) := by
  have HZ : Hid ((L s).length = s.size) := (L_size s).symm
  go_enter Tryz.func168, Tryz.ntmps168
  go_wp2
  go_loopw [5, 6, 7, 8, 15, 25, 32] (fun o fr q i _ _ _ wr => SplitRel c s w.heap.size trimmed o fr q i wr ∧ Below w.heap.size w wr) (fun _ _ _ i _ _ _ _ => s.size + 1 - (intOf i).toNat)
  case atStart => exact ⟨⟨0, 0, 0, false, [], none, 0, rfl, rfl, rfl, rfl, rfl, Nat.le_refl _, SplitAt.start _ _, Row.none_ _ _ _ _, Nat.le_refl _⟩, Below.refl _ _⟩
  case round =>
    obtain ⟨⟨k, m, n, b, done, A, d, rfl, rfl, rfl, rfl, hn, hnm, hsp, hrow, hB0⟩, hbel⟩ := hrel
    have HN := Lib.hid hn
    clear hn
    have hml : m ≤ s.size := by have := hsp.2.1; rw [HZ.out] at this; exact this
    have hmk := hsp.1
    have hkl : k ≤ s.size + 1 := by have := hsp.2.2.1; rw [HZ.out] at this; exact this
    have HS := Lib.hid hsp
    clear hsp
    by_cases hlt : k < s.size
    · have hL : k < (L s).length := by rw [HZ.out]; exact hlt
      cases b with
      | true =>
        by_cases h92 : (L s)[k] = 92
        · have e1 : ((s[k].toNat : Int) == 92) = true := beqI_true h92
          have H92 := Lib.hid h92; clear h92
          go_wp2
          go_roundw
          case rel => exact ⟨⟨k + 2, m, n, true, done, A, d, by go_num, rfl, rfl, rfl, HN.out, hnm, HS.out.esc hL H92.out, hrow, hB0⟩, hbel⟩
          case measure => simp [intOf]; omega
        · have e1 : ((s[k].toNat : Int) == 92) = false := beqI_false h92
          have H92 := Lib.hid h92; clear h92
          by_cases h34 : (L s)[k] = 34
          · have e2 : ((s[k].toNat : Int) == 34) = true := beqI_true h34
            have H34 := Lib.hid h34; clear h34
            go_wp2
            go_roundw
            case rel => exact ⟨⟨k + 1, m, n, false, done, A, d, by go_num, rfl, rfl, rfl, HN.out, hnm, HS.out.quote hL H34.out, hrow, hB0⟩, hbel⟩
            case measure => simp [intOf]; omega
          · have e2 : ((s[k].toNat : Int) == 34) = false := beqI_false h34
            have H34 := Lib.hid h34; clear h34
            go_wp2
            go_roundw
            case rel => exact ⟨⟨k + 1, m, n, true, done, A, d, by go_num, rfl, rfl, rfl, HN.out, hnm, HS.out.on hL (fun h => H92.out h.2) H34.out (by simp), hrow, hB0⟩, hbel⟩
            case measure => simp [intOf]; omega
      | false =>
        by_cases h34 : (L s)[k] = 34
        · have e2 : ((s[k].toNat : Int) == 34) = true := beqI_true h34
          have H34 := Lib.hid h34; clear h34
          go_wp2
          go_roundw
          case rel => exact ⟨⟨k + 1, m, n, true, done, A, d, by go_num, rfl, rfl, rfl, HN.out, hnm, HS.out.quote hL H34.out, hrow, hB0⟩, hbel⟩
          case measure => simp [intOf]; omega
        · have e2 : ((s[k].toNat : Int) == 34) = false := beqI_false h34
          have H34 := Lib.hid h34; clear h34
          by_cases hc : (L s)[k] = c
          · have e3 : ((s[k].toNat : Int) == (c.toNat : Int)) = true := beqI_true hc
            have HC := Lib.hid hc; clear hc
            go_wp2_with fail
            refine (trim_any _ _ (Nat.le_trans (extract_le _ _ _) hs)).mono ?_
            rintro e w1 ⟨rfl, hb1⟩
            have hr1 := hrow.below hb1
            have hB1 := below_then hB0 hbel hb1
            have hz1 := hb1.size
            clear hb1 hrow hbel
            go_wp2_with (at_builtin; refine appS _ rfl (.tmp 42) (.tmp 48) rfl w.heap.size A n d _ rfl (hr1.alloc _) _ 1 1 _ rfl (newS _ _) (by omega) (by simp; omega) ?_; intro A1 c1 w2 hr2 ha2)
            go_roundw
            case rel =>
              refine ⟨⟨k + 1, k + 1, n + 1, false, _, A1, c1, by go_num, by go_num, rfl, rfl, ?_, by omega, HS.out.cut hL H34.out HC.out, ?_, ?_⟩, ?_⟩
              · rw [HN.out]; simp
              · rw [trimmed_snoc]
                have : L (s.extract m k) = ((L s).take k).drop m := by rw [L_extract, List.drop_take]
                rw [this] at hr2
                exact hr2
              · have := ha2.grown.size; simp at this; omega
              · exact (hB1.alloc (by omega) _).trans (ha2.below (hr1.alloc _) (by simp; omega))
            case measure => simp [intOf]; omega
          · have e3 : ((s[k].toNat : Int) == (c.toNat : Int)) = false := beqI_false hc
            have HC := Lib.hid hc; clear hc
            go_wp2
            go_roundw
            case rel => exact ⟨⟨k + 1, m, n, false, done, A, d, by go_num, rfl, rfl, rfl, HN.out, hnm, HS.out.on hL (by simp) H34.out (fun h => HC.out h.2), hrow, hB0⟩, hbel⟩
            case measure => simp [intOf]; omega
    · have hfin := HS.out.fin (by rw [HZ.out]; omega)
      have HF := Lib.hid hfin
      clear hfin
      go_wp2_with fail
      refine (trim_any _ _ (Nat.le_trans (extract_le _ _ _) hs)).mono ?_
      rintro e w1 ⟨rfl, hb1⟩
      have hr1 := hrow.below hb1
      have hB1 := below_then hB0 hbel hb1
      have hz1 := hb1.size
      clear hb1 hrow hbel
      go_wp2_with (at_builtin; refine appS _ rfl (.tmp 52) (.tmp 57) rfl w.heap.size A n d _ rfl (hr1.alloc _) _ 1 1 _ rfl (newS _ _) (by omega) (by simp; omega) ?_; intro A1 c1 w2 hr2 ha2)
      go_ret
      have hlast : trimmed done ++ [B (T.trim (L (s.extract m s.size)))] = F.split c s := by
        unfold F.split
        rw [HF.out, List.map_append]
        have : L (s.extract m s.size) = (L s).drop m := by rw [L_extract, List.take_of_length_le (by rw [List.length_drop, HZ.out]; omega)]
        rw [this]; rfl
      have hlen : n + 1 = (F.split c s).length := by rw [← hlast, List.length_append, trimmed_len, HN.out]; rfl
      refine ⟨A1, c1, ?_, ?_, ?_⟩
      · rw [← hlen]; rfl
      · rw [← hlen, ← hlast]; exact hr2
      · exact (hB1.alloc (by omega) _).trans (ha2.below (hr1.alloc _) (by simp; omega))

def plainly (done : List (List UInt8)) : List ByteArray := done.map B
theorem plain_snoc (done : List (List UInt8)) (p : List UInt8) : plainly (done ++ [p]) = plainly done ++ [B p] := by simp [plainly]
theorem plain_len (done : List (List UInt8)) : (plainly done).length = done.length := List.length_map _

set_option maxHeartbeats 1000000 in
theorem pieces_any (s : ByteArray) (c : UInt8) (w : World) (hs : s.size ≤ 1099511627776) :
    Calls Tryz.prog 273 #[.string s, .int .u8 c.toNat] w (RetRow w 9 1 (F.pieces c s).length (scells (F.pieces c s))) := by
  have HZ : Hid ((L s).length = s.size) := (L_size s).symm
  go_enter Tryz.func273, Tryz.ntmps273
  go_wp2
  go_loopw [5, 6, 7, 8] (fun o fr q i wr => SplitRel c s w.heap.size plainly o fr q i wr ∧ Below w.heap.size w wr) (fun _ _ _ i _ => s.size + 1 - (intOf i).toNat)
  case atStart => exact ⟨⟨0, 0, 0, false, [], _, 0, rfl, rfl, rfl, rfl, rfl, Nat.le_refl _, SplitAt.start _ _, Row.empty _ _ _ _ _, by simp⟩, (Below.refl _ _).alloc (Nat.le_refl _) _⟩
  case round =>
    obtain ⟨⟨k, m, n, b, done, A, d, rfl, rfl, rfl, rfl, hn, hnm, hsp, hrow, hB0⟩, hbel⟩ := hrel
    have HN := Lib.hid hn
    clear hn
    have hml : m ≤ s.size := by have := hsp.2.1; rw [HZ.out] at this; exact this
    have hmk := hsp.1
    have hkl : k ≤ s.size + 1 := by have := hsp.2.2.1; rw [HZ.out] at this; exact this
    have HS := Lib.hid hsp
    clear hsp
    by_cases hlt : k < s.size
    · have hL : k < (L s).length := by rw [HZ.out]; exact hlt
      cases b with
      | true =>
        by_cases h92 : (L s)[k] = 92
        · have e1 : ((s[k].toNat : Int) == 92) = true := beqI_true h92
          have H92 := Lib.hid h92; clear h92
          go_wp2
          go_roundw
          case rel => exact ⟨⟨k + 2, m, n, true, done, A, d, by go_num, rfl, rfl, rfl, HN.out, hnm, HS.out.esc hL H92.out, hrow, hB0⟩, hbel⟩
          case measure => simp [intOf]; omega
        · have e1 : ((s[k].toNat : Int) == 92) = false := beqI_false h92
          have H92 := Lib.hid h92; clear h92
          by_cases h34 : (L s)[k] = 34
          · have e2 : ((s[k].toNat : Int) == 34) = true := beqI_true h34
            have H34 := Lib.hid h34; clear h34
            go_wp2
            go_roundw
            case rel => exact ⟨⟨k + 1, m, n, false, done, A, d, by go_num, rfl, rfl, rfl, HN.out, hnm, HS.out.quote hL H34.out, hrow, hB0⟩, hbel⟩
            case measure => simp [intOf]; omega
          · have e2 : ((s[k].toNat : Int) == 34) = false := beqI_false h34
            have H34 := Lib.hid h34; clear h34
            by_cases hc : (L s)[k] = c
            · have e3 : ((s[k].toNat : Int) == (c.toNat : Int)) = true := beqI_true hc
              have e4 : (s[k].toNat : Int) = (c.toNat : Int) := by simpa using e3
              clear hc
              go_wp2
              go_roundw
              case rel => exact ⟨⟨k + 1, m, n, true, done, A, d, by go_num, rfl, rfl, rfl, HN.out, hnm, HS.out.on hL (fun h => H92.out h.2) H34.out (by simp), hrow, hB0⟩, hbel⟩
              case measure => simp [intOf]; omega
            · have e3 : ((s[k].toNat : Int) == (c.toNat : Int)) = false := beqI_false hc
              have e4 : ¬ (s[k].toNat : Int) = (c.toNat : Int) := by simpa using e3
              clear hc
              go_wp2
              go_roundw
              case rel => exact ⟨⟨k + 1, m, n, true, done, A, d, by go_num, rfl, rfl, rfl, HN.out, hnm, HS.out.on hL (fun h => H92.out h.2) H34.out (by simp), hrow, hB0⟩, hbel⟩
              case measure => simp [intOf]; omega
      | false =>
        by_cases h34 : (L s)[k] = 34
        · have e2 : ((s[k].toNat : Int) == 34) = true := beqI_true h34
          have H34 := Lib.hid h34; clear h34
          go_wp2
          go_roundw
          case rel => exact ⟨⟨k + 1, m, n, true, done, A, d, by go_num, rfl, rfl, rfl, HN.out, hnm, HS.out.quote hL H34.out, hrow, hB0⟩, hbel⟩
          case measure => simp [intOf]; omega
        · have e2 : ((s[k].toNat : Int) == 34) = false := beqI_false h34
          have H34 := Lib.hid h34; clear h34
          by_cases hc : (L s)[k] = c
          · have e3 : ((s[k].toNat : Int) == (c.toNat : Int)) = true := beqI_true hc
            have e4 : (s[k].toNat : Int) = (c.toNat : Int) := by simpa using e3
            have HC := Lib.hid hc; clear hc
            go_wp2_with (at_builtin; refine appS _ rfl (.tmp 40) (.tmp 45) rfl w.heap.size A n d _ rfl (hrow.alloc _) _ 1 1 _ rfl (newS _ _) (by omega) (by simp; omega) ?_; intro A1 c1 w2 hr2 ha2)
            go_roundw
            case rel =>
              refine ⟨⟨k + 1, k + 1, n + 1, false, _, A1, c1, by go_num, by go_num, rfl, rfl, ?_, by omega, HS.out.cut hL H34.out HC.out, ?_, ?_⟩, ?_⟩
              · rw [HN.out]; simp
              · rw [plain_snoc]
                have : s.extract m k = B (((L s).take k).drop m) := by rw [extract_B, List.drop_take]
                rw [this] at hr2
                exact hr2
              · have := ha2.grown.size; simp at this; omega
              · exact (hbel.alloc hB0 _).trans (ha2.below (hrow.alloc _) (by simp; omega))
            case measure => simp [intOf]; omega
          · have e3 : ((s[k].toNat : Int) == (c.toNat : Int)) = false := beqI_false hc
            have e4 : ¬ (s[k].toNat : Int) = (c.toNat : Int) := by simpa using e3
            have HC := Lib.hid hc; clear hc
            go_wp2
            go_roundw
            case rel => exact ⟨⟨k + 1, m, n, false, done, A, d, by go_num, rfl, rfl, rfl, HN.out, hnm, HS.out.on hL (by simp) H34.out (fun h => HC.out h.2), hrow, hB0⟩, hbel⟩
            case measure => simp [intOf]; omega
    · have hfin := HS.out.fin (by rw [HZ.out]; omega)
      have HF := Lib.hid hfin
      clear hfin
      go_wp2_with (at_builtin; refine appS _ rfl (.tmp 49) (.tmp 53) rfl w.heap.size A n d _ rfl (hrow.alloc _) _ 1 1 _ rfl (newS _ _) (by omega) (by simp; omega) ?_; intro A1 c1 w2 hr2 ha2)
      go_ret
      have hlast : plainly done ++ [s.extract m s.size] = F.pieces c s := by
        unfold F.pieces
        rw [HF.out, List.map_append]
        have : s.extract m s.size = B ((L s).drop m) := by rw [extract_B, List.take_of_length_le (by rw [List.length_drop, HZ.out]; omega)]
        rw [this]; rfl
      have hlen : n + 1 = (F.pieces c s).length := by rw [← hlast, List.length_append, plain_len, HN.out]; rfl
      refine ⟨A1, c1, ?_, ?_, ?_⟩
      · rw [← hlen]; rfl
      · rw [← hlen, ← hlast]; exact hr2
      · exact (hbel.alloc hB0 _).trans (ha2.below (hrow.alloc _) (by simp; omega))

end Go.Proofs.YteehjkfmlcfffaaGreatDoor

namespace Go.Proofs.YteehjkfmlcfffaaGreatDoor
open Go.RowKit

theorem split44 (s : ByteArray) (w : World) (hs : s.size ≤ 1099511627776) :
    Calls Tryz.prog 168 #[.string s, .int .u8 44] w (RetRow w 9 1 (F.split 44 s).length (scells (F.split 44 s))) := split_any s 44 w hs
theorem pieces44 (s : ByteArray) (w : World) (hs : s.size ≤ 1099511627776) :
    Calls Tryz.prog 273 #[.string s, .int .u8 44] w (RetRow w 9 1 (F.pieces 44 s).length (scells (F.pieces 44 s))) := pieces_any s 44 w hs

theorem pieces_len (c : UInt8) : ∀ (n : Nat) (q : Bool) (cur l : List UInt8), l.length ≤ n → (T.pieces c q cur l).length ≤ l.length + 1 := by
  intro n
  induction n with
  | zero =>
    intro q cur l h
    have : l = [] := List.eq_nil_of_length_eq_zero (by omega)
    subst this
    simp [T.pieces]
  | succ n ih =>
    intro q cur l h
    cases l with
    | nil => simp [T.pieces]
    | cons x r =>
      rw [T.pieces_cons]
      simp only [List.length_cons] at h ⊢
      split
      · cases r with
        | nil => simp
        | cons y r' =>
          have := ih q (cur ++ [x, y]) r' (by simp at h; omega)
          simp only [List.length_cons]; omega
      · split
        · have := ih (!q) (cur ++ [x]) r (by omega); omega
        · split
          · have := ih q [] r (by omega); simp only [List.length_cons]; omega
          · have := ih q (cur ++ [x]) r (by omega); omega
theorem split_len (c : UInt8) (s : ByteArray) : (F.split c s).length ≤ s.size + 1 := by
  unfold F.split
  rw [List.length_map, L_size]
  exact pieces_len c _ _ _ _ (Nat.le_refl _)
theorem fpieces_len (c : UInt8) (s : ByteArray) : (F.pieces c s).length ≤ s.size + 1 := by
  unfold F.pieces
  rw [List.length_map, L_size]
  exact pieces_len c _ _ _ _ (Nat.le_refl _)
theorem list_len (s : ByteArray) : (F.list s).length ≤ s.size + 1 := Nat.le_trans (List.length_filter_le _ _) (split_len 44 s)

def full (p : ByteArray) : Bool := !(L p).isEmpty
theorem full_true {p : ByteArray} (h : full p = true) : p.toList.isEmpty = false ∧ ¬ p.toList = [] := by
  unfold full at h
  rw [L_toList]
  cases hl : L p <;> simp [hl] at h ⊢
theorem full_false {p : ByteArray} (h : full p = false) : p.toList.isEmpty = true ∧ p.toList = [] := by
  unfold full at h
  rw [L_toList]
  cases hl : L p <;> simp [hl] at h ⊢

set_option maxHeartbeats 400000 in
theorem list_any (s : ByteArray) (w : World) (hs : s.size ≤ 1099511627776) :
    Calls Tryz.prog 87 #[.string s] w (RetRow w 9 1 (F.list s).length (scells (F.list s))) := by
  go_enter Tryz.func87, Tryz.ntmps87
  go_wp2_with fail
  refine (split44 s _ hs).mono ?_
  rintro e w1 ⟨X, d, rfl, hX, hb1⟩
  have hle := split_len 44 s
  obtain ⟨ps, hps⟩ : ∃ ps, ps = F.split 44 s := ⟨_, rfl⟩
  have hfin : F.list s = ps.filter full := by rw [hps]; rfl
  rw [← hps] at hX hle ⊢
  obtain ⟨n, hn⟩ : ∃ n, n = ps.length := ⟨_, rfl⟩
  rw [← hn] at hX hle ⊢
  have HP := Lib.hid hps; clear hps
  have HN := Lib.hid hn; clear hn
  have HF := Lib.hid hfin; clear hfin
  have hx := hX.rd
  clear hX
  go_wp2
  go_loopw [3, 5, 9] (fun o _ i wr => ∃ (k m : Nat) (A : Option Addr) (c : Nat), k ≤ n ∧ m ≤ k ∧ i = .int .i64 k ∧ o = .slice A m c ∧ m = ((ps.take k).filter full).length ∧ Row wr w1.heap.size 9 1 A m c (scells ((ps.take k).filter full)) ∧ Below w1.heap.size w1 wr) (fun _ _ i _ => n - (intOf i).toNat)
  case atStart => exact ⟨0, 0, none, 0, Nat.zero_le _, Nat.le_refl _, rfl, rfl, rfl, Row.none_ _ _ _ _, Below.refl _ _⟩
  case round =>
    obtain ⟨k, m, A, c, hk, hmk, rfl, rfl, hm, hrow, hbel⟩ := hrel
    have HM := Lib.hid hm
    clear hm
    by_cases hlt : k < n
    · obtain ⟨b, o, rfl, hb, c1⟩ := (hx.below hbel).str hlt HN.out.symm
      have hv := F.filter_snoc full ps k (by rw [← HN.out]; exact hlt)
      obtain ⟨x, hxk⟩ : ∃ x, x = ps[k]'(by rw [← HN.out]; exact hlt) := ⟨_, rfl⟩
      rw [← hxk] at hv c1
      clear hxk
      rcases tf (full x) with hfx | hfx
      · obtain ⟨f1, f2⟩ := full_true hfx
        rw [hfx] at hv
        have hv' : ((ps.take (k + 1)).filter full) = ((ps.take k).filter full) ++ [x] := by simpa using hv
        have HV := Lib.hid hv'
        clear hv'
        clear hv hfx
        go_wp2_with (at_builtin; refine appS _ rfl (.tmp 15) (.tmp 17) rfl w1.heap.size A m c _ rfl (hrow.alloc _) _ 1 1 [x] rfl (newS _ _) (by omega) (by have := hbel.size; simp; omega) ?_; intro A1 c1 w2 hr2 ha2)
        go_roundw
        case rel =>
          refine ⟨k + 1, m + 1, A1, c1, by omega, by omega, by go_num, rfl, ?_, ?_, ?_⟩
          · rw [HV.out, List.length_append, HM.out]; rfl
          · rw [HV.out]; exact hr2
          · exact (hbel.alloc hbel.size _).trans (ha2.below (hrow.alloc _) (by have := hbel.size; simp; omega))
        case measure => simp [intOf]; omega
      · obtain ⟨f1, f2⟩ := full_false hfx
        rw [hfx] at hv
        have hv' : ((ps.take (k + 1)).filter full) = ((ps.take k).filter full) := by simpa using hv
        have HV := Lib.hid hv'
        clear hv'
        clear hv hfx
        go_wp2
        go_roundw
        case rel => exact ⟨k + 1, m, A, c, by omega, by omega, by go_num, rfl, by rw [HV.out, HM.out], by rw [HV.out]; exact hrow, hbel⟩
        case measure => simp [intOf]; omega
    · have ht : ps.take k = ps := List.take_of_length_le (by have := HN.out; omega)
      rw [ht] at hrow
      have HM2 : Hid (m = (F.list s).length) := by have := HM.out; rw [ht] at this; rw [HF.out]; exact this
      clear ht HM
      go_wp2
      go_ret
      refine ⟨A, c, ?_, ?_, hb1.trans (hbel.mono hb1.size)⟩
      · rw [← HM2.out]; rfl
      · rw [← HM2.out, HF.out]; exact hrow.mono hb1.size

theorem refTrim_fin (l : List UInt8) (lo hi : Nat) (h0 : lo ≤ hi) (h1 : hi ≤ l.length) (h2 : l.dropWhile T.blank = l.drop lo) (h3 : T.trimR ((l.drop lo).take (hi - lo)) = T.trimR (l.drop lo)) (h4 : hi = lo ∨ ∃ h : hi - 1 < l.length, lo < hi ∧ T.blank l[hi - 1] = false) :
    (l.drop lo).take (hi - lo) = T.trim l := by
  unfold T.trim
  rw [h2, ← h3]
  rcases h4 with rfl | ⟨h, hlt, hb⟩
  · simp [T.trimR_nil]
  · have e : (l.drop lo).take (hi - lo) = (l.drop lo).take (hi - 1 - lo) ++ [l[hi - 1]] := by
      rw [show hi - lo = (hi - 1 - lo) + 1 from by omega, List.take_succ_eq_append_getElem (by simp; omega)]
      congr 2
      rw [List.getElem_drop]
      congr 1
      omega
    rw [e, T.trimR_snoc_not hb]
theorem refTrim_step (l : List UInt8) (lo hi : Nat) (h0 : lo < hi) (h1 : hi ≤ l.length) (hb : T.blank (l[hi - 1]'(by omega)) = true) : T.trimR ((l.drop lo).take (hi - lo)) = T.trimR ((l.drop lo).take (hi - 1 - lo)) := by
  have e : (l.drop lo).take (hi - lo) = (l.drop lo).take (hi - 1 - lo) ++ [l[hi - 1]] := by
    rw [show hi - lo = (hi - 1 - lo) + 1 from by omega, List.take_succ_eq_append_getElem (by simp; omega)]
    congr 2
    rw [List.getElem_drop]
    congr 1
    omega
  rw [e, T.trimR_snoc_blank hb]

theorem blank_tests (x : UInt8) : (((x.toNat : Int) == 32) = true ∧ T.blank x = true) ∨ (((x.toNat : Int) == 32) = false ∧ ((x.toNat : Int) == 9) = true ∧ T.blank x = true) ∨ (((x.toNat : Int) == 32) = false ∧ ((x.toNat : Int) == 9) = false ∧ T.blank x = false) := by
  unfold T.blank
  by_cases h1 : x.toNat = 32
  · left; simp [h1]
  · by_cases h2 : x.toNat = 9
    · right; left; simp [h2]
    · right; right
      simp [h1, h2]; omega

set_option maxHeartbeats 1000000 in
theorem refTrim_any (s : ByteArray) (w : World) (hs : s.size ≤ 1099511627776) :
    Calls Tryz.prog 271 #[.string s] w (RetS w (B (T.trim (L s)))) := by
  have HZ : Hid ((L s).length = s.size) := (L_size s).symm
  go_enter Tryz.func271, Tryz.ntmps271
  go_wp2
  go_loop [3] (fun i => ∃ k : Nat, k ≤ s.size ∧ i = .int .i64 k ∧ (L s).dropWhile T.blank = ((L s).drop k).dropWhile T.blank) (fun i => s.size - (intOf i).toNat)
  case atStart => exact ⟨0, Nat.zero_le _, rfl, rfl⟩
  case round =>
    obtain ⟨k, hk, rfl, hd⟩ := hrel
    have HD := Lib.hid hd; clear hd
    have hway : (∃ h : k < s.size, T.blank s[k] = true ∧ (((s[k].toNat : Int) == 32) = true ∨ (((s[k].toNat : Int) == 32) = false ∧ ((s[k].toNat : Int) == 9) = true))) ∨
        ((L s).dropWhile T.blank = (L s).drop k ∧ ((∃ h : k < s.size, ((s[k].toNat : Int) == 32) = false ∧ ((s[k].toNat : Int) == 9) = false) ∨ k = s.size)) := by
      by_cases hlt : k < s.size
      · have hL : k < (L s).length := by rw [HZ.out]; exact hlt
        rcases blank_tests (s[k]) with ⟨e1, hb⟩ | ⟨e1, e2, hb⟩ | ⟨e1, e2, hb⟩
        · exact .inl ⟨hlt, hb, .inl e1⟩
        · exact .inl ⟨hlt, hb, .inr ⟨e1, e2⟩⟩
        · exact .inr ⟨by rw [HD.out, T.dropWhile_stop hL hb], .inl ⟨hlt, e1, e2⟩⟩
      · exact .inr ⟨by rw [HD.out, List.drop_of_length_le (by rw [HZ.out]; omega)]; rfl, .inr (by omega)⟩
    rcases hway with ⟨hlt, hb, hw⟩ | ⟨hd, hw⟩
    · have hL : k < (L s).length := by rw [HZ.out]; exact hlt
      have HB : Hid (T.blank ((L s)[k]'hL) = true) := hb
      clear hb
      rcases hw with e1 | ⟨e1, e2⟩
      all_goals
        go_wp2
        go_round
        case rel => exact ⟨k + 1, by omega, by go_num, by rw [HD.out, T.dropWhile_step hL HB.out]⟩
        case measure => simp [intOf]; omega
    · have HB := Lib.hid hd
      clear hd HD
      rcases hw with ⟨hlt, e1, e2⟩ | hks
      case' inr => have hks' : ¬ k < s.size := by omega
      case' inr => clear hks
      all_goals
        go_wp2
        go_loop [4] (fun i => ∃ m : Nat, k ≤ m ∧ m ≤ s.size ∧ i = .int .i64 m ∧ T.trimR (((L s).drop k).take (m - k)) = T.trimR ((L s).drop k)) (fun i => (intOf i).toNat)
        case atStart => exact ⟨s.size, hk, Nat.le_refl _, rfl, by rw [List.take_of_length_le (by rw [List.length_drop, HZ.out]; omega)]⟩
        case round =>
          obtain ⟨m, hkm, hm, rfl, ht⟩ := hrel
          have HT := Lib.hid ht; clear ht
          by_cases hlt2 : k < m
          · first
            | (exfalso; omega)
            | (obtain ⟨j, rfl⟩ : ∃ j, m = j + 1 := ⟨m - 1, by omega⟩
               have hm1 : j < s.size := by omega
               have hL : j < (L s).length := by rw [HZ.out]; exact hm1
               rcases blank_tests (s[j]'hm1) with ⟨e3, hb⟩ | ⟨e3, e4, hb⟩ | ⟨e3, e4, hb⟩
               · have HB2 : Hid (T.blank ((L s)[j]'hL) = true) := hb
                 have e3' : ((s[j]'hm1).toNat : Int) = 32 := by simpa using e3
                 clear hb
                 go_wp2
                 go_round
                 case rel => exact ⟨j, by omega, by omega, rfl, by rw [← HT.out, refTrim_step (L s) k (j + 1) hlt2 (by rw [HZ.out]; exact hm) HB2.out]; rfl⟩
                 case measure => simp [intOf]
               · have HB2 : Hid (T.blank ((L s)[j]'hL) = true) := hb
                 have e3' : ¬ ((s[j]'hm1).toNat : Int) = 32 := by simpa using e3
                 have e4' : ((s[j]'hm1).toNat : Int) = 9 := by simpa using e4
                 clear hb
                 go_wp2
                 go_round
                 case rel => exact ⟨j, by omega, by omega, rfl, by rw [← HT.out, refTrim_step (L s) k (j + 1) hlt2 (by rw [HZ.out]; exact hm) HB2.out]; rfl⟩
                 case measure => simp [intOf]
               · have HF := Lib.hid (refTrim_fin (L s) k (j + 1) hkm (by rw [HZ.out]; exact hm) HB.out HT.out (.inr ⟨hL, hlt2, hb⟩))
                 have e3' : ¬ ((s[j]'hm1).toNat : Int) = 32 := by simpa using e3
                 have e4' : ¬ ((s[j]'hm1).toNat : Int) = 9 := by simpa using e4
                 clear hb
                 go_wp2
                 go_ret
                 exact ⟨ret_string (by rw [extract_B]; exact congrArg B HF.out), Below.refl _ _⟩)
          · have HF := Lib.hid (refTrim_fin (L s) k m hkm (by rw [HZ.out]; exact hm) HB.out HT.out (.inl (by omega)))
            go_wp2
            go_ret
            exact ⟨ret_string (by rw [extract_B]; exact congrArg B HF.out), Below.refl _ _⟩
end Go.Proofs.YteehjkfmlcfffaaGreatDoor
