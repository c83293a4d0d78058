/- The walks of tok.Quote, of head.text and of the document's text. Conditions: texts of at most 2^40 bytes. The walks of tok.Quote and of head.text. Conditions: texts of at most 2^40 bytes. -/
import Derived.Test.YteehjkfmlcfffaaGreatDoorTokC
import Derived.Test.YteehjkfmlcfffaaGreatDoorPrint
import Derived.Test.YteehjkfmlcfffaaGreatDoorShelf
import Derived.Shelf.Strings.Builder1
namespace Go.Proofs.YteehjkfmlcfffaaGreatDoor
open Go.RowKit

def quoteRen : Go.Shelf.Ren := ⟨fun | 167 => 292 | 240 => 339 | 276 => 363 | n => n, fun | 0 => 0 | 3 => 3 | 4 => 4 | 5 => 5 | 9 => 9 | 20 => 20 | 37 => 22 | 70 => 335 | 72 => 337 | 75 => 275 | 80 => 339 | 164 => 399 | n => n, fun | n => n⟩
theorem lays167 : Go.Proofs.Lays.n167 Tryz.prog quoteRen := {
  mixed := by kernel_rfl
  f167 := Tryz.func292.trans (congrArg some (by kernel_rfl))
  f240 := Tryz.func339.trans (congrArg some (by kernel_rfl))
  f276 := Tryz.func363.trans (congrArg some (by kernel_rfl))
  t0 := Tryz.underlying0
  a0 := Tryz.isAgg0
  z0 := Tryz.sizeOf0
  v0 := Tryz.zeroValue0
  t4 := Tryz.underlying4
  a4 := Tryz.isAgg4
  z4 := Tryz.sizeOf4
  v4 := Tryz.zeroValue4
  t5 := Tryz.underlying5
  a5 := Tryz.isAgg5
  z5 := Tryz.sizeOf5
  v5 := Tryz.zeroValue5
  t9 := Tryz.underlying9
  a9 := Tryz.isAgg9
  z9 := Tryz.sizeOf9
  v9 := Tryz.zeroValue9
  t20 := Tryz.underlying20
  a20 := Tryz.isAgg20
  z20 := Tryz.sizeOf20
  v20 := Tryz.zeroValue20
  t37 := Tryz.underlying22
  a37 := Tryz.isAgg22
  z37 := Tryz.sizeOf22
  v37 := Tryz.zeroValue22
  t70 := Tryz.underlying335
  a70 := Tryz.isAgg335
  z70 := Tryz.sizeOf335
  v70 := Tryz.zeroValue335
  t72 := Tryz.underlying337
  a72 := Tryz.isAgg337
  z72 := Tryz.sizeOf337
  v72 := Tryz.zeroValue337
  t75 := Tryz.underlying275
  a75 := Tryz.isAgg275
  z75 := Tryz.sizeOf275
  v75 := Tryz.zeroValue275
  t164 := Tryz.underlying399
  a164 := Tryz.isAgg399
  z164 := Tryz.sizeOf399
  v164 := Tryz.zeroValue399 }
theorem extra167 : Builder.Extra Tryz.prog quoteRen := {
  sizeBuilder := by kernel_rfl
  liesBuilder := by kernel_rfl
  t5 := Tryz.underlying5
  a5 := Tryz.isAgg5
  z5 := Tryz.sizeOf5
  v5 := Tryz.zeroValue5
  infoByte := by kernel_rfl
  cellsByte := by kernel_rfl
  sizeByte := by kernel_rfl
  neB5 := by decide }
theorem writeByte_any (B b : Nat) (bs : List Value) (c : Int) (w : World) (h : Lib.IsBuilder 337 5 B b bs w) (hlen : bs.length + 1 ≤ 140737488355328) (hBw : B ≤ w.heap.size) :
    Calls Tryz.prog 292 #[.pointer (some ⟨b, 0, none⟩), .int .u8 c] w fun e w' => e = .returned .nilIface ∧ (Lib.BuilderAt 337 5 B b (.pointer (some ⟨b, 0, none⟩)) (bs ++ [.int .u8 c]) w' ∧ Below B w w') :=
  Any.Builder_WriteByte lays167 extra167 B b bs c w h hlen hBw

theorem textByte_any (c : UInt8) (w : World) : Calls Tryz.prog 293 #[.int .u8 c.toNat] w (RetP w (.bool (T.textB c))) := by
  rcases textB_of c with ⟨h, g1, g2⟩ | ⟨h, g1, g2⟩ | ⟨h, g1, g2, g3⟩ | ⟨h, g1, g2, g3⟩
  case' inr.inr.inl => have g4 : ((c.toNat : Int) != 127) = true := by rw [bne, g3]; rfl
  case' inr.inr.inr => have g4 : ((c.toNat : Int) != 127) = false := by rw [bne, g3]; rfl
  all_goals
    rw [h]
    clear h
    go_enter Tryz.func293, Tryz.ntmps293
    go_wp2
    go_ret
    exact ⟨rfl, rfl⟩

theorem refTexts_any (s : ByteArray) (w : World) (hs : s.size ≤ 1099511627776) : Calls Tryz.prog 141 #[.string s] w (RetP w (.bool (F.text s))) := by
  have HZ : Hid ((L s).length = s.size) := (L_size s).symm
  go_enter Tryz.func141, Tryz.ntmps141
  go_wp2
  go_loop [3] (fun i => ∃ k : Nat, k ≤ s.size ∧ i = .int .i64 k ∧ ((L s).take k).all T.textB = true) (fun i => s.size - (intOf i).toNat)
  case atStart => exact ⟨0, Nat.zero_le _, rfl, by simp⟩
  case round =>
    obtain ⟨k, hk, rfl, ha⟩ := hrel
    have HAll := Lib.hid ha
    clear ha
    by_cases hlt : k < s.size
    · have hL : k < (L s).length := by rw [HZ.out]; exact hlt
      have HB := Lib.hid (refText_any s[k])
      rcases tf (T.textB ((L s)[k]'hL)) with h | h
      · have HN := Lib.hid (all_step T.textB (L s) k hL HAll.out h)
        have hb : T.textB s[k] = true := h
        rw [hb] at HB
        clear h hb
        go_wp2_with fail
        refine (HB.out _).mono ?_
        rintro e w' ⟨rfl, rfl⟩
        go_wp2
        go_round
        case rel => exact ⟨k + 1, by omega, by go_num, HN.out⟩
        case measure => simp [intOf]; omega
      · have HN := Lib.hid (all_no T.textB (L s) k hL h)
        have hb : T.textB s[k] = false := h
        rw [hb] at HB
        clear h hb
        go_wp2_with fail
        refine (HB.out _).mono ?_
        rintro e w' ⟨rfl, rfl⟩
        go_wp2
        go_ret
        exact ⟨ret_bool HN.out.symm, rfl⟩
    · have hks : k = s.size := by omega
      have ha := HAll.out
      rw [List.take_of_length_le (by rw [HZ.out]; omega)] at ha
      have HT : Hid (F.text s = true) := Lib.hid ha
      clear ha hks
      go_wp2
      go_ret
      exact ⟨ret_bool HT.out.symm, rfl⟩
end Go.Proofs.YteehjkfmlcfffaaGreatDoor

namespace Go.Proofs.YteehjkfmlcfffaaGreatDoor
open Go.RowKit

def Wrote (w : World) (n : Nat) (e : Ending) (u : World) : Prop := e = .returned .nilIface ∧ ∃ l : List UInt8, l.length ≤ n ∧ Lib.IsBuilder 337 5 w.heap.size w.heap.size (Lib.byteCells l) u ∧ Below w.heap.size w u
theorem write_more {w u : World} {n : Nat} (c : UInt8) (hn : n ≤ 4398046511104) (h : ∃ l : List UInt8, l.length ≤ n ∧ Lib.IsBuilder 337 5 w.heap.size w.heap.size (Lib.byteCells l) u ∧ Below w.heap.size w u) :
    Calls Tryz.prog 292 #[.pointer (some ⟨w.heap.size, 0, none⟩), .int .u8 c.toNat] u (Wrote w (n + 1)) := by
  obtain ⟨l, hl, hb, hbel⟩ := h
  refine (writeByte_any w.heap.size w.heap.size (Lib.byteCells l) c.toNat u hb (by rw [Lib.byteCells_length]; omega) hbel.size).mono ?_
  rintro e v ⟨he, hat, hb2⟩
  refine ⟨he, l ++ [c], by rw [List.length_append]; simp only [List.length_singleton]; omega, ?_, hbel.trans hb2⟩
  have e2 : Lib.byteCells (l ++ [c]) = Lib.byteCells l ++ [.int .u8 c.toNat] := by simp [Lib.byteCells]
  rw [e2]
  exact .inr hat
def RetQuote (w : World) (ok : Bool) (e : Ending) (w' : World) : Prop := ∃ q : ByteArray, e = .returned (.tuple #[.string q, .int .i64 (if ok then 0 else 11)]) ∧ Below w.heap.size w w'

set_option maxRecDepth 100000 in
set_option maxHeartbeats 1000000 in
theorem quote_any (s : ByteArray) (w : World) (hs : s.size ≤ 1099511627776) : Calls Tryz.prog 237 #[.string s] w (RetQuote w (F.text s)) := by
  have HZ : Hid ((L s).length = s.size) := (L_size s).symm
  have H0 : Hid (∃ l : List UInt8, l.length ≤ 0 ∧ Lib.IsBuilder 337 5 w.heap.size w.heap.size (Lib.byteCells l) (w.alloc (.cells #[.pointer none, .slice none 0 0] 337)) ∧ Below w.heap.size w (w.alloc (.cells #[.pointer none, .slice none 0 0] 337))) :=
    Lib.hid ⟨[], Nat.le_refl _, Lib.fresh_isBuilder 337 5 w, (Below.refl w.heap.size w).alloc (Nat.le_refl _) _⟩
  go_enter Tryz.func237, Tryz.ntmps237
  go_wp2_with fail
  generalize w.alloc (.cells #[.pointer none, .slice none 0 0] 337) = w0 at *
  refine (write_more 34 (by omega) H0.out).mono ?_
  rintro e w1 ⟨rfl, h1⟩
  have H1 := Lib.hid h1
  clear h1 H0
  go_wp2
  go_loopw [5, 6, 10, 16, 20] (fun _ _ i _ _ wr => ∃ k : Nat, k ≤ s.size ∧ i = .int .i64 k ∧ ((L s).take k).all T.textB = true ∧ ∃ l : List UInt8, l.length ≤ 2 * k + 1 ∧ Lib.IsBuilder 337 5 w.heap.size w.heap.size (Lib.byteCells l) wr ∧ Below w.heap.size w wr) (fun _ _ i _ _ _ => s.size - (intOf i).toNat)
  case atStart => exact ⟨0, Nat.zero_le _, rfl, by simp, H1.out⟩
  case round =>
    clear H1
    obtain ⟨k, hk, rfl, ha, hl⟩ := hrel
    have HAll := Lib.hid ha
    have HL := Lib.hid hl
    clear ha hl
    by_cases hlt : k < s.size
    · have hL : k < (L s).length := by rw [HZ.out]; exact hlt
      have HB := Lib.hid (textByte_any s[k])
      rcases tf (T.textB ((L s)[k]'hL)) with h | h
      · have HN := Lib.hid (all_step T.textB (L s) k hL HAll.out h)
        have hb : T.textB s[k] = true := h
        rw [hb] at HB
        clear h hb
        rcases tf (((s[k]'hlt).toNat : Int) == 34 || ((s[k]'hlt).toNat : Int) == 92) with hq | hq
        · have HW1 := Lib.hid (write_more 92 (by omega) HL.out)
          rcases tf (((s[k]'hlt).toNat : Int) == 34) with g1 | g1
          case' inr =>
            have g2 : (((s[k]'hlt).toNat : Int) == 92) = true := by rw [g1] at hq; exact hq
          all_goals
            clear hq
            go_wp2_with fail
            refine (HB.out _).mono ?_
            rintro e w' ⟨rfl, rfl⟩
            go_wp2_with fail
            refine HW1.out.mono ?_
            rintro e w2 ⟨rfl, h2⟩
            have HW2 := Lib.hid (write_more (s[k]'hlt) (by omega) h2)
            clear h2 HW1 HL
            go_wp2_with fail
            refine HW2.out.mono ?_
            rintro e w3 ⟨rfl, l3, z3, b3, d3⟩
            have HL3 := Lib.hid (And.intro z3 (And.intro b3 d3))
            clear z3 b3 d3 HW2
            go_wp2
            go_roundw
            case rel => exact ⟨k + 1, by omega, by go_num, HN.out, l3, by have := HL3.out.1; omega, HL3.out.2⟩
            case measure => simp [intOf]; omega
        · have HW2 := Lib.hid (write_more (s[k]'hlt) (by omega) HL.out)
          have g1 : (((s[k]'hlt).toNat : Int) == 34) = false := (Bool.or_eq_false_iff.1 hq).1
          have g2 : (((s[k]'hlt).toNat : Int) == 92) = false := (Bool.or_eq_false_iff.1 hq).2
          clear hq
          go_wp2_with fail
          refine (HB.out _).mono ?_
          rintro e w' ⟨rfl, rfl⟩
          go_wp2_with fail
          refine HW2.out.mono ?_
          rintro e w3 ⟨rfl, l3, z3, b3, d3⟩
          have HL3 := Lib.hid (And.intro z3 (And.intro b3 d3))
          clear z3 b3 d3 HW2
          go_wp2
          go_roundw
          case rel => exact ⟨k + 1, by omega, by go_num, HN.out, l3, by have := HL3.out.1; omega, HL3.out.2⟩
          case measure => simp [intOf]; omega
      · have HN : Hid (F.text s = false) := Lib.hid (all_no T.textB (L s) k hL h)
        have hb : T.textB s[k] = false := h
        rw [hb] at HB
        clear h hb
        go_wp2_with fail
        refine (HB.out _).mono ?_
        rintro e w' ⟨rfl, rfl⟩
        go_wp2
        refine bodyPost_ret (v := .tuple #[.string ⟨#[]⟩, .int .i64 11]) (by simp [results, Tryz.results237, go_sem]) rfl ?_
        obtain ⟨l, _, _, d⟩ := HL.out
        exact ⟨⟨#[]⟩, by rw [HN.out]; rfl, d⟩
    · have hks : k = s.size := by omega
      have ha := HAll.out
      rw [List.take_of_length_le (by rw [HZ.out]; omega)] at ha
      have HT : Hid (F.text s = true) := Lib.hid ha
      have HW := Lib.hid (write_more 34 (by omega) HL.out)
      clear ha hks HL
      go_wp2_with fail
      refine HW.out.mono ?_
      rintro e w3 ⟨rfl, l3, z3, b3, d3⟩
      have HS := Lib.hid (Tryz.Builder_String_any w.heap.size w.heap.size l3 w3 b3 d3.size)
      have HD := Lib.hid d3
      clear z3 b3 d3 HW
      go_wp2_with fail
      refine HS.out.mono ?_
      rintro e w4 ⟨rfl, hb4⟩
      have HD4 := Lib.hid (HD.out.trans hb4)
      clear hb4 HD HS
      go_wp2
      refine bodyPost_ret (v := .tuple #[.string ⟨l3.toArray⟩, .int .i64 0]) (by simp [results, Tryz.results237, go_sem]) rfl ?_
      exact ⟨_, by rw [HT.out]; rfl, HD4.out⟩

theorem text_any (s : ByteArray) (w : World) (hs : s.size ≤ 1099511627776) : Calls Tryz.prog 166 #[.string s] w (RetB w (F.text s)) := by
  have HQ := Lib.hid (quote_any s w hs)
  rcases tf (F.text s) with h | h
  all_goals
    rw [h] at HQ ⊢
    clear h
    go_enter Tryz.func166, Tryz.ntmps166
    go_wp2_with fail
    refine HQ.out.mono ?_
    rintro e w1 ⟨q, rfl, hb⟩
    have HB := Lib.hid hb
    clear hb HQ
    go_wp2
    go_ret
    exact ⟨rfl, HB.out⟩
end Go.Proofs.YteehjkfmlcfffaaGreatDoor
