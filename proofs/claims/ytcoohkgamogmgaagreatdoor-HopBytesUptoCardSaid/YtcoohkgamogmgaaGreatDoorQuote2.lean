/- The walks of tok.Quote and of head.text. Conditions: texts of at most 2^40 bytes. -/
import Derived.Test.YtcoohkgamogmgaaGreatDoorQuote
namespace Go.Proofs.YtcoohkgamogmgaaGreatDoor
open Go.RowKit

def Written (w : World) (k : Nat) (u : World) : Prop := ∃ l : List UInt8, l.length ≤ 2 * k + 1 ∧ Lib.IsBuilder 68 5 w.heap.size w.heap.size (Lib.byteCells l) u ∧ Below w.heap.size w u
def Wrote (w : World) (n : Nat) (e : Ending) (u : World) : Prop := e = .returned .nilIface ∧ ∃ l : List UInt8, l.length ≤ n ∧ Lib.IsBuilder 68 5 w.heap.size w.heap.size (Lib.byteCells l) u ∧ Below w.heap.size w u
theorem write_more {w u : World} {n : Nat} (c : UInt8) (hn : n ≤ 4398046511104) (h : ∃ l : List UInt8, l.length ≤ n ∧ Lib.IsBuilder 68 5 w.heap.size w.heap.size (Lib.byteCells l) u ∧ Below w.heap.size w u) :
    Calls Tryz.prog 50 #[.pointer (some ⟨w.heap.size, 0, none⟩), .int .u8 c.toNat] u (Wrote w (n + 1)) := by
  obtain ⟨l, hl, hb, hbel⟩ := h
  refine (writeByte_any w.heap.size w.heap.size (Lib.byteCells l) c.toNat u hb (by rw [Lib.byteCells_length]; omega) hbel.size).mono ?_
  rintro e v ⟨he, hat, hb2⟩
  refine ⟨he, l ++ [c], by rw [List.length_append]; simp only [List.length_singleton]; omega, ?_, hbel.trans hb2⟩
  have e2 : Lib.byteCells (l ++ [c]) = Lib.byteCells l ++ [.int .u8 c.toNat] := by simp [Lib.byteCells]
  rw [e2]
  exact .inr hat
def RetQuote (w : World) (ok : Bool) (e : Ending) (w' : World) : Prop := ∃ q : ByteArray, e = .returned (.tuple #[.string q, .int .i64 (if ok then 0 else 11)]) ∧ Below w.heap.size w w'

set_option maxRecDepth 100000 in
set_option maxHeartbeats 1000000 in
theorem quote_any (s : ByteArray) (w : World) (hs : s.size ≤ 1099511627776) : Calls Tryz.prog 44 #[.string s] w (RetQuote w (F.text s)) := by
  have HZ : Hid ((L s).length = s.size) := (L_size s).symm
  have H0 : Hid (∃ l : List UInt8, l.length ≤ 0 ∧ Lib.IsBuilder 68 5 w.heap.size w.heap.size (Lib.byteCells l) (w.alloc (.cells #[.pointer none, .slice none 0 0] 68)) ∧ Below w.heap.size w (w.alloc (.cells #[.pointer none, .slice none 0 0] 68))) :=
    Lib.hid ⟨[], Nat.le_refl _, Lib.fresh_isBuilder 68 5 w, (Below.refl w.heap.size w).alloc (Nat.le_refl _) _⟩
  go_enter Tryz.func44, Tryz.ntmps44
  go_wp2_with fail
  generalize w.alloc (.cells #[.pointer none, .slice none 0 0] 68) = w0 at *
  refine (write_more 34 (by omega) H0.out).mono ?_
  rintro e w1 ⟨rfl, h1⟩
  have H1 := Lib.hid h1
  clear h1 H0
  go_wp2
  go_loopw [5, 6, 10, 16, 20] (fun _ _ i _ _ wr => ∃ k : Nat, k ≤ s.size ∧ i = .int .i64 k ∧ ((L s).take k).all T.textB = true ∧ ∃ l : List UInt8, l.length ≤ 2 * k + 1 ∧ Lib.IsBuilder 68 5 w.heap.size w.heap.size (Lib.byteCells l) wr ∧ Below w.heap.size w wr) (fun _ _ i _ _ _ => s.size - (intOf i).toNat)
  case atStart => exact ⟨0, Nat.zero_le _, rfl, by simp, H1.out⟩
  case round =>
    clear H1
    obtain ⟨k, hk, rfl, ha, hl⟩ := hrel
    have HAll := Lib.hid ha
    have HL := Lib.hid hl
    clear ha hl
    by_cases hlt : k < s.size
    · have hL : k < (L s).length := by rw [HZ.out]; exact hlt
      have HB := Lib.hid (textByte_any s[k])
      rcases tf (T.textB ((L s)[k]'hL)) with h | h
      · have HN := Lib.hid (all_step T.textB (L s) k hL HAll.out h)
        have hb : T.textB s[k] = true := h
        rw [hb] at HB
        clear h hb
        rcases tf (((s[k]'hlt).toNat : Int) == 34 || ((s[k]'hlt).toNat : Int) == 92) with hq | hq
        · have HW1 := Lib.hid (write_more 92 (by omega) HL.out)
          rcases tf (((s[k]'hlt).toNat : Int) == 34) with g1 | g1
          case' inr =>
            have g2 : (((s[k]'hlt).toNat : Int) == 92) = true := by rw [g1] at hq; exact hq
          all_goals
            clear hq
            go_wp2_with fail
            refine (HB.out _).mono ?_
            rintro e w' ⟨rfl, rfl⟩
            go_wp2_with fail
            refine HW1.out.mono ?_
            rintro e w2 ⟨rfl, h2⟩
            have HW2 := Lib.hid (write_more (s[k]'hlt) (by omega) h2)
            clear h2 HW1 HL
            go_wp2_with fail
            refine HW2.out.mono ?_
            rintro e w3 ⟨rfl, l3, z3, b3, d3⟩
            have HL3 := Lib.hid (And.intro z3 (And.intro b3 d3))
            clear z3 b3 d3 HW2
            go_wp2
            go_roundw
            case rel => exact ⟨k + 1, by omega, by go_num, HN.out, l3, by have := HL3.out.1; omega, HL3.out.2⟩
            case measure => simp [intOf]; omega
        · have HW2 := Lib.hid (write_more (s[k]'hlt) (by omega) HL.out)
          have g1 : (((s[k]'hlt).toNat : Int) == 34) = false := (Bool.or_eq_false_iff.1 hq).1
          have g2 : (((s[k]'hlt).toNat : Int) == 92) = false := (Bool.or_eq_false_iff.1 hq).2
          clear hq
          go_wp2_with fail
          refine (HB.out _).mono ?_
          rintro e w' ⟨rfl, rfl⟩
          go_wp2_with fail
          refine HW2.out.mono ?_
          rintro e w3 ⟨rfl, l3, z3, b3, d3⟩
          have HL3 := Lib.hid (And.intro z3 (And.intro b3 d3))
          clear z3 b3 d3 HW2
          go_wp2
          go_roundw
          case rel => exact ⟨k + 1, by omega, by go_num, HN.out, l3, by have := HL3.out.1; omega, HL3.out.2⟩
          case measure => simp [intOf]; omega
      · have HN : Hid (F.text s = false) := Lib.hid (all_no T.textB (L s) k hL h)
        have hb : T.textB s[k] = false := h
        rw [hb] at HB
        clear h hb
        go_wp2_with fail
        refine (HB.out _).mono ?_
        rintro e w' ⟨rfl, rfl⟩
        go_wp2
        refine bodyPost_ret (v := .tuple #[.string ⟨#[]⟩, .int .i64 11]) (by simp [results, Tryz.results44, go_sem]) rfl ?_
        obtain ⟨l, _, _, d⟩ := HL.out
        exact ⟨⟨#[]⟩, by rw [HN.out]; rfl, d⟩
    · have hks : k = s.size := by omega
      have ha := HAll.out
      rw [List.take_of_length_le (by rw [HZ.out]; omega)] at ha
      have HT : Hid (F.text s = true) := Lib.hid ha
      have HW := Lib.hid (write_more 34 (by omega) HL.out)
      clear ha hks HL
      go_wp2_with fail
      refine HW.out.mono ?_
      rintro e w3 ⟨rfl, l3, z3, b3, d3⟩
      have HS := Lib.hid (Tryz.Builder_String_any w.heap.size w.heap.size l3 w3 b3 d3.size)
      have HD := Lib.hid d3
      clear z3 b3 d3 HW
      go_wp2_with fail
      refine HS.out.mono ?_
      rintro e w4 ⟨rfl, hb4⟩
      have HD4 := Lib.hid (HD.out.trans hb4)
      clear hb4 HD HS
      go_wp2
      refine bodyPost_ret (v := .tuple #[.string ⟨l3.toArray⟩, .int .i64 0]) (by simp [results, Tryz.results44, go_sem]) rfl ?_
      exact ⟨_, by rw [HT.out]; rfl, HD4.out⟩

theorem text_any (s : ByteArray) (w : World) (hs : s.size ≤ 1099511627776) : Calls Tryz.prog 33 #[.string s] w (RetB w (F.text s)) := by
  have HQ := Lib.hid (quote_any s w hs)
  rcases tf (F.text s) with h | h
  all_goals
    rw [h] at HQ ⊢
    clear h
    go_enter Tryz.func33, Tryz.ntmps33
    go_wp2_with fail
    refine HQ.out.mono ?_
    rintro e w1 ⟨q, rfl, hb⟩
    have HB := Lib.hid hb
    clear hb HQ
    go_wp2
    go_ret
    exact ⟨rfl, HB.out⟩
end Go.Proofs.YtcoohkgamogmgaaGreatDoor
