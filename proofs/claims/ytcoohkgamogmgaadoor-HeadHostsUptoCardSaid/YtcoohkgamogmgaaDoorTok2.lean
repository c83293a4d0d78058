/- The walks of tok.Trim, split, List, and of the document's Trim, Pieces, List. -/
import Derived.Test.YtcoohkgamogmgaaDoorTok
import Derived.Test.YtcoohkgamogmgaaDoorShelf
import Derived.Shelf.Strings.SlTrimAscii
namespace Go.Proofs.YtcoohkgamogmgaaDoor
open Go.RowKit

theorem trimS_eq (l : List UInt8) : Lib.trimS l [32, 9] = T.trim l := by
  unfold Lib.trimS Lib.trimLeftS Lib.trimRightS T.trim
  have : T.blank = fun c => ([32, 9] : List UInt8).contains c := funext T.blank_eq
  rw [T.trim_comm, T.trimR, this]

theorem strTrim (s : ByteArray) (w : World) (hs : s.size ≤ 1099511627776) : Calls Tryd.prog 153 #[.string s, .string ⟨#[32, 9]⟩] w (RetS w (B (T.trim (L s)))) := by
  refine (Any.strings_Trim_laid Tryd.lays160 (by kernel_rfl) s ⟨#[32, 9]⟩ w (by omega) (by decide) (ascii_of_all (by decide))).mono ?_
  rintro e w' ⟨rfl, hb⟩
  refine ⟨?_, hb⟩
  rw [← trimS_eq]; rfl

set_option maxHeartbeats 400000 in
theorem trim_any (s : ByteArray) (w : World) (hs : s.size ≤ 1099511627776) :
    Calls Tryd.prog 126 #[.string s] w (RetS w (B (T.trim (L s)))) := by
  go_enter Tryd.func126, Tryd.ntmps126
  go_wp2_with fail
  refine (strTrim s w hs).mono ?_
  rintro e w1 ⟨rfl, hb1⟩
  go_wp2
  go_ret
  exact ⟨rfl, hb1⟩

theorem extract_le (s : ByteArray) (a b : Nat) : (s.extract a b).size ≤ s.size := by
  rw [L_size, L_extract, L_size]
  simp only [List.length_take, List.length_drop]
  omega

/-- What split has done after k bytes: the pieces that are done, the beginning of the next one, the mark. -/
def SplitAt (c : UInt8) (l : List UInt8) (k f : Nat) (q : Bool) (done : List (List UInt8)) : Prop :=
  f ≤ k ∧ f ≤ l.length ∧ k ≤ l.length + 1 ∧ T.pieces c false [] l = done ++ T.pieces c q ((l.take k).drop f) (l.drop k)
theorem SplitAt.start (c : UInt8) (l : List UInt8) : SplitAt c l 0 0 false [] := ⟨Nat.le_refl _, Nat.zero_le _, Nat.zero_le _, by simp⟩
theorem SplitAt.len_le {c : UInt8} {l : List UInt8} {k f : Nat} {q : Bool} {done : List (List UInt8)} (h : SplitAt c l k f q done) (hd : done.length ≤ f) : done.length ≤ l.length := Nat.le_trans hd h.2.1
theorem SplitAt.esc {c : UInt8} {l : List UInt8} {k f : Nat} {done : List (List UInt8)} (h : SplitAt c l k f true done) (hk : k < l.length) (hx : l[k] = 92) : SplitAt c l (k + 2) f true done := by
  refine ⟨by have := h.1; omega, h.2.1, by omega, ?_⟩
  rw [h.2.2.2, T.pieces_step c true hk h.1, if_pos ⟨rfl, hx⟩]
theorem SplitAt.quote {c : UInt8} {l : List UInt8} {k f : Nat} {q : Bool} {done : List (List UInt8)} (h : SplitAt c l k f q done) (hk : k < l.length) (hx : l[k] = 34) : SplitAt c l (k + 1) f (!q) done := by
  refine ⟨by have := h.1; omega, h.2.1, by omega, ?_⟩
  rw [h.2.2.2, T.pieces_step c q hk h.1, if_neg (by rw [hx]; rintro ⟨_, h⟩; cases h), if_pos hx]
theorem SplitAt.cut {c : UInt8} {l : List UInt8} {k f : Nat} {done : List (List UInt8)} (h : SplitAt c l k f false done) (hk : k < l.length) (h34 : ¬ l[k] = 34) (hx : l[k] = c) : SplitAt c l (k + 1) (k + 1) false (done ++ [(l.take k).drop f]) := by
  refine ⟨Nat.le_refl _, by omega, by omega, ?_⟩
  rw [h.2.2.2, T.pieces_step c false hk h.1, if_neg (by simp), if_neg h34, if_pos ⟨rfl, hx⟩, List.append_assoc]; rfl
theorem SplitAt.on {c : UInt8} {l : List UInt8} {k f : Nat} {q : Bool} {done : List (List UInt8)} (h : SplitAt c l k f q done) (hk : k < l.length) (h92 : ¬ (q = true ∧ l[k] = 92)) (h34 : ¬ l[k] = 34) (hx : ¬ (q = false ∧ l[k] = c)) : SplitAt c l (k + 1) f q done := by
  refine ⟨by have := h.1; omega, h.2.1, by omega, ?_⟩
  rw [h.2.2.2, T.pieces_step c q hk h.1, if_neg h92, if_neg h34, if_neg hx]
theorem SplitAt.fin {c : UInt8} {l : List UInt8} {k f : Nat} {q : Bool} {done : List (List UInt8)} (h : SplitAt c l k f q done) (hk : l.length ≤ k) : T.pieces c false [] l = done ++ [l.drop f] := by
  rw [h.2.2.2, T.pieces_end c q hk]

def trimmed (done : List (List UInt8)) : List ByteArray := done.map fun p => B (T.trim p)
theorem trimmed_snoc (done : List (List UInt8)) (p : List UInt8) : trimmed (done ++ [p]) = trimmed done ++ [B (T.trim p)] := by simp [trimmed]
theorem trimmed_len (done : List (List UInt8)) : (trimmed done).length = done.length := List.length_map _

/-- The loop's relation. -/
def SplitRel (c : UInt8) (s : ByteArray) (B0 : Nat) (f : List (List UInt8) → List ByteArray) (o fr q i : Value) (wr : World) : Prop :=
  ∃ (k m n : Nat) (b : Bool) (done : List (List UInt8)) (A : Option Addr) (d : Nat), i = .int .i64 k ∧ fr = .int .i64 m ∧ q = .bool b ∧ o = .slice A n d ∧ n = done.length ∧ n ≤ m ∧ SplitAt c (L s) k m b done ∧
    Row wr B0 9 1 A n d (scells (f done)) ∧ B0 ≤ wr.heap.size

set_option maxHeartbeats 1000000 in
theorem split_any (s : ByteArray) (c : UInt8) (w : World) (hs : s.size ≤ 1099511627776) :
    Calls Tryd.prog 102 #[.string s, .int .u8 c.toNat] w (RetRow w 9 1 (F.split c s).length (scells (F.split c s))) := by
  have HZ : Hid ((L s).length = s.size) := (L_size s).symm
  go_enter Tryd.func102, Tryd.ntmps102
  go_wp2
  go_loopw [5, 6, 7, 8, 15, 25, 32] (fun o fr q i _ _ _ wr => SplitRel c s w.heap.size trimmed o fr q i wr ∧ Below w.heap.size w wr) (fun _ _ _ i _ _ _ _ => s.size + 1 - (intOf i).toNat)
  case atStart => exact ⟨⟨0, 0, 0, false, [], none, 0, rfl, rfl, rfl, rfl, rfl, Nat.le_refl _, SplitAt.start _ _, Row.none_ _ _ _ _, Nat.le_refl _⟩, Below.refl _ _⟩
  case round =>
    obtain ⟨⟨k, m, n, b, done, A, d, rfl, rfl, rfl, rfl, hn, hnm, hsp, hrow, hB0⟩, hbel⟩ := hrel
    have HN := Lib.hid hn
    clear hn
    have hml : m ≤ s.size := by have := hsp.2.1; rw [HZ.out] at this; exact this
    have hmk := hsp.1
    have hkl : k ≤ s.size + 1 := by have := hsp.2.2.1; rw [HZ.out] at this; exact this
    have HS := Lib.hid hsp
    clear hsp
    by_cases hlt : k < s.size
    · have hL : k < (L s).length := by rw [HZ.out]; exact hlt
      cases b with
      | true =>
        by_cases h92 : (L s)[k] = 92
        · have e1 : ((s[k].toNat : Int) == 92) = true := beqI_true h92
          have H92 := Lib.hid h92; clear h92
          go_wp2
          go_roundw
          case rel => exact ⟨⟨k + 2, m, n, true, done, A, d, by go_num, rfl, rfl, rfl, HN.out, hnm, HS.out.esc hL H92.out, hrow, hB0⟩, hbel⟩
          case measure => simp [intOf]; omega
        · have e1 : ((s[k].toNat : Int) == 92) = false := beqI_false h92
          have H92 := Lib.hid h92; clear h92
          by_cases h34 : (L s)[k] = 34
          · have e2 : ((s[k].toNat : Int) == 34) = true := beqI_true h34
            have H34 := Lib.hid h34; clear h34
            go_wp2
            go_roundw
            case rel => exact ⟨⟨k + 1, m, n, false, done, A, d, by go_num, rfl, rfl, rfl, HN.out, hnm, HS.out.quote hL H34.out, hrow, hB0⟩, hbel⟩
            case measure => simp [intOf]; omega
          · have e2 : ((s[k].toNat : Int) == 34) = false := beqI_false h34
            have H34 := Lib.hid h34; clear h34
            go_wp2
            go_roundw
            case rel => exact ⟨⟨k + 1, m, n, true, done, A, d, by go_num, rfl, rfl, rfl, HN.out, hnm, HS.out.on hL (fun h => H92.out h.2) H34.out (by simp), hrow, hB0⟩, hbel⟩
            case measure => simp [intOf]; omega
      | false =>
        by_cases h34 : (L s)[k] = 34
        · have e2 : ((s[k].toNat : Int) == 34) = true := beqI_true h34
          have H34 := Lib.hid h34; clear h34
          go_wp2
          go_roundw
          case rel => exact ⟨⟨k + 1, m, n, true, done, A, d, by go_num, rfl, rfl, rfl, HN.out, hnm, HS.out.quote hL H34.out, hrow, hB0⟩, hbel⟩
          case measure => simp [intOf]; omega
        · have e2 : ((s[k].toNat : Int) == 34) = false := beqI_false h34
          have H34 := Lib.hid h34; clear h34
          by_cases hc : (L s)[k] = c
          · have e3 : ((s[k].toNat : Int) == (c.toNat : Int)) = true := beqI_true hc
            have HC := Lib.hid hc; clear hc
            go_wp2_with fail
            refine (trim_any _ _ (Nat.le_trans (extract_le _ _ _) hs)).mono ?_
            rintro e w1 ⟨rfl, hb1⟩
            have hr1 := hrow.below hb1
            have hB1 := below_then hB0 hbel hb1
            have hz1 := hb1.size
            clear hb1 hrow hbel
            go_wp2_with (at_builtin; refine appS _ rfl (.tmp 42) (.tmp 48) rfl w.heap.size A n d _ rfl (hr1.alloc _) _ 1 1 _ rfl (newS _ _) (by omega) (by simp; omega) ?_; intro A1 c1 w2 hr2 ha2)
            go_roundw
            case rel =>
              refine ⟨⟨k + 1, k + 1, n + 1, false, _, A1, c1, by go_num, by go_num, rfl, rfl, ?_, by omega, HS.out.cut hL H34.out HC.out, ?_, ?_⟩, ?_⟩
              · rw [HN.out]; simp
              · rw [trimmed_snoc]
                have : L (s.extract m k) = ((L s).take k).drop m := by rw [L_extract, List.drop_take]
                rw [this] at hr2
                exact hr2
              · have := ha2.grown.size; simp at this; omega
              · exact (hB1.alloc (by omega) _).trans (ha2.below (hr1.alloc _) (by simp; omega))
            case measure => simp [intOf]; omega
          · have e3 : ((s[k].toNat : Int) == (c.toNat : Int)) = false := beqI_false hc
            have HC := Lib.hid hc; clear hc
            go_wp2
            go_roundw
            case rel => exact ⟨⟨k + 1, m, n, false, done, A, d, by go_num, rfl, rfl, rfl, HN.out, hnm, HS.out.on hL (by simp) H34.out (fun h => HC.out h.2), hrow, hB0⟩, hbel⟩
            case measure => simp [intOf]; omega
    · have hfin := HS.out.fin (by rw [HZ.out]; omega)
      have HF := Lib.hid hfin
      clear hfin
      go_wp2_with fail
      refine (trim_any _ _ (Nat.le_trans (extract_le _ _ _) hs)).mono ?_
      rintro e w1 ⟨rfl, hb1⟩
      have hr1 := hrow.below hb1
      have hB1 := below_then hB0 hbel hb1
      have hz1 := hb1.size
      clear hb1 hrow hbel
      go_wp2_with (at_builtin; refine appS _ rfl (.tmp 52) (.tmp 57) rfl w.heap.size A n d _ rfl (hr1.alloc _) _ 1 1 _ rfl (newS _ _) (by omega) (by simp; omega) ?_; intro A1 c1 w2 hr2 ha2)
      go_ret
      have hlast : trimmed done ++ [B (T.trim (L (s.extract m s.size)))] = F.split c s := by
        unfold F.split
        rw [HF.out, List.map_append]
        have : L (s.extract m s.size) = (L s).drop m := by rw [L_extract, List.take_of_length_le (by rw [List.length_drop, HZ.out]; omega)]
        rw [this]; rfl
      have hlen : n + 1 = (F.split c s).length := by rw [← hlast, List.length_append, trimmed_len, HN.out]; rfl
      refine ⟨A1, c1, ?_, ?_, ?_⟩
      · rw [← hlen]; rfl
      · rw [← hlen, ← hlast]; exact hr2
      · exact (hB1.alloc (by omega) _).trans (ha2.below (hr1.alloc _) (by simp; omega))

def plainly (done : List (List UInt8)) : List ByteArray := done.map B
theorem plain_snoc (done : List (List UInt8)) (p : List UInt8) : plainly (done ++ [p]) = plainly done ++ [B p] := by simp [plainly]
theorem plain_len (done : List (List UInt8)) : (plainly done).length = done.length := List.length_map _

set_option maxHeartbeats 1000000 in
theorem pieces_any (s : ByteArray) (c : UInt8) (w : World) (hs : s.size ≤ 1099511627776) :
    Calls Tryd.prog 117 #[.string s, .int .u8 c.toNat] w (RetRow w 9 1 (F.pieces c s).length (scells (F.pieces c s))) := by
  have HZ : Hid ((L s).length = s.size) := (L_size s).symm
  go_enter Tryd.func117, Tryd.ntmps117
  go_wp2
  go_loopw [5, 6, 7, 8] (fun o fr q i wr => SplitRel c s w.heap.size plainly o fr q i wr ∧ Below w.heap.size w wr) (fun _ _ _ i _ => s.size + 1 - (intOf i).toNat)
  case atStart => exact ⟨⟨0, 0, 0, false, [], _, 0, rfl, rfl, rfl, rfl, rfl, Nat.le_refl _, SplitAt.start _ _, Row.empty _ _ _ _ _, by simp⟩, (Below.refl _ _).alloc (Nat.le_refl _) _⟩
  case round =>
    obtain ⟨⟨k, m, n, b, done, A, d, rfl, rfl, rfl, rfl, hn, hnm, hsp, hrow, hB0⟩, hbel⟩ := hrel
    have HN := Lib.hid hn
    clear hn
    have hml : m ≤ s.size := by have := hsp.2.1; rw [HZ.out] at this; exact this
    have hmk := hsp.1
    have hkl : k ≤ s.size + 1 := by have := hsp.2.2.1; rw [HZ.out] at this; exact this
    have HS := Lib.hid hsp
    clear hsp
    by_cases hlt : k < s.size
    · have hL : k < (L s).length := by rw [HZ.out]; exact hlt
      cases b with
      | true =>
        by_cases h92 : (L s)[k] = 92
        · have e1 : ((s[k].toNat : Int) == 92) = true := beqI_true h92
          have H92 := Lib.hid h92; clear h92
          go_wp2
          go_roundw
          case rel => exact ⟨⟨k + 2, m, n, true, done, A, d, by go_num, rfl, rfl, rfl, HN.out, hnm, HS.out.esc hL H92.out, hrow, hB0⟩, hbel⟩
          case measure => simp [intOf]; omega
        · have e1 : ((s[k].toNat : Int) == 92) = false := beqI_false h92
          have H92 := Lib.hid h92; clear h92
          by_cases h34 : (L s)[k] = 34
          · have e2 : ((s[k].toNat : Int) == 34) = true := beqI_true h34
            have H34 := Lib.hid h34; clear h34
            go_wp2
            go_roundw
            case rel => exact ⟨⟨k + 1, m, n, false, done, A, d, by go_num, rfl, rfl, rfl, HN.out, hnm, HS.out.quote hL H34.out, hrow, hB0⟩, hbel⟩
            case measure => simp [intOf]; omega
          · have e2 : ((s[k].toNat : Int) == 34) = false := beqI_false h34
            have H34 := Lib.hid h34; clear h34
            by_cases hc : (L s)[k] = c
            · have e3 : ((s[k].toNat : Int) == (c.toNat : Int)) = true := beqI_true hc
              have e4 : (s[k].toNat : Int) = (c.toNat : Int) := by simpa using e3
              clear hc
              go_wp2
              go_roundw
              case rel => exact ⟨⟨k + 1, m, n, true, done, A, d, by go_num, rfl, rfl, rfl, HN.out, hnm, HS.out.on hL (fun h => H92.out h.2) H34.out (by simp), hrow, hB0⟩, hbel⟩
              case measure => simp [intOf]; omega
            · have e3 : ((s[k].toNat : Int) == (c.toNat : Int)) = false := beqI_false hc
              have e4 : ¬ (s[k].toNat : Int) = (c.toNat : Int) := by simpa using e3
              clear hc
              go_wp2
              go_roundw
              case rel => exact ⟨⟨k + 1, m, n, true, done, A, d, by go_num, rfl, rfl, rfl, HN.out, hnm, HS.out.on hL (fun h => H92.out h.2) H34.out (by simp), hrow, hB0⟩, hbel⟩
              case measure => simp [intOf]; omega
      | false =>
        by_cases h34 : (L s)[k] = 34
        · have e2 : ((s[k].toNat : Int) == 34) = true := beqI_true h34
          have H34 := Lib.hid h34; clear h34
          go_wp2
          go_roundw
          case rel => exact ⟨⟨k + 1, m, n, true, done, A, d, by go_num, rfl, rfl, rfl, HN.out, hnm, HS.out.quote hL H34.out, hrow, hB0⟩, hbel⟩
          case measure => simp [intOf]; omega
        · have e2 : ((s[k].toNat : Int) == 34) = false := beqI_false h34
          have H34 := Lib.hid h34; clear h34
          by_cases hc : (L s)[k] = c
          · have e3 : ((s[k].toNat : Int) == (c.toNat : Int)) = true := beqI_true hc
            have e4 : (s[k].toNat : Int) = (c.toNat : Int) := by simpa using e3
            have HC := Lib.hid hc; clear hc
            go_wp2_with (at_builtin; refine appS _ rfl (.tmp 40) (.tmp 45) rfl w.heap.size A n d _ rfl (hrow.alloc _) _ 1 1 _ rfl (newS _ _) (by omega) (by simp; omega) ?_; intro A1 c1 w2 hr2 ha2)
            go_roundw
            case rel =>
              refine ⟨⟨k + 1, k + 1, n + 1, false, _, A1, c1, by go_num, by go_num, rfl, rfl, ?_, by omega, HS.out.cut hL H34.out HC.out, ?_, ?_⟩, ?_⟩
              · rw [HN.out]; simp
              · rw [plain_snoc]
                have : s.extract m k = B (((L s).take k).drop m) := by rw [extract_B, List.drop_take]
                rw [this] at hr2
                exact hr2
              · have := ha2.grown.size; simp at this; omega
              · exact (hbel.alloc hB0 _).trans (ha2.below (hrow.alloc _) (by simp; omega))
            case measure => simp [intOf]; omega
          · have e3 : ((s[k].toNat : Int) == (c.toNat : Int)) = false := beqI_false hc
            have e4 : ¬ (s[k].toNat : Int) = (c.toNat : Int) := by simpa using e3
            have HC := Lib.hid hc; clear hc
            go_wp2
            go_roundw
            case rel => exact ⟨⟨k + 1, m, n, false, done, A, d, by go_num, rfl, rfl, rfl, HN.out, hnm, HS.out.on hL (by simp) H34.out (fun h => HC.out h.2), hrow, hB0⟩, hbel⟩
            case measure => simp [intOf]; omega
    · have hfin := HS.out.fin (by rw [HZ.out]; omega)
      have HF := Lib.hid hfin
      clear hfin
      go_wp2_with (at_builtin; refine appS _ rfl (.tmp 49) (.tmp 53) rfl w.heap.size A n d _ rfl (hrow.alloc _) _ 1 1 _ rfl (newS _ _) (by omega) (by simp; omega) ?_; intro A1 c1 w2 hr2 ha2)
      go_ret
      have hlast : plainly done ++ [s.extract m s.size] = F.pieces c s := by
        unfold F.pieces
        rw [HF.out, List.map_append]
        have : s.extract m s.size = B ((L s).drop m) := by rw [extract_B, List.take_of_length_le (by rw [List.length_drop, HZ.out]; omega)]
        rw [this]; rfl
      have hlen : n + 1 = (F.pieces c s).length := by rw [← hlast, List.length_append, plain_len, HN.out]; rfl
      refine ⟨A1, c1, ?_, ?_, ?_⟩
      · rw [← hlen]; rfl
      · rw [← hlen, ← hlast]; exact hr2
      · exact (hbel.alloc hB0 _).trans (ha2.below (hrow.alloc _) (by simp; omega))

end Go.Proofs.YtcoohkgamogmgaaDoor
