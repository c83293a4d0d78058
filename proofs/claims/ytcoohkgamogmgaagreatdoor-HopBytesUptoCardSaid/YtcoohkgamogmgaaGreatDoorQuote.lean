/- The walks of tok.Quote, of head.text and of the document's text. Conditions: texts of at most 2^40 bytes. -/
import Derived.Test.YtcoohkgamogmgaaGreatDoorTokR
import Derived.Test.YtcoohkgamogmgaaGreatDoorPrint
import Derived.Test.YtcoohkgamogmgaaGreatDoorShelf
import Derived.Shelf.Strings.Builder1
namespace Go.Proofs.YtcoohkgamogmgaaGreatDoor
open Go.RowKit

def quoteRen : Go.Shelf.Ren := ⟨fun | 167 => 50 | 240 => 64 | 276 => 76 | n => n, fun | 0 => 0 | 3 => 3 | 4 => 4 | 5 => 5 | 9 => 9 | 20 => 20 | 37 => 25 | 70 => 66 | 72 => 68 | 75 => 70 | 80 => 72 | 164 => 99 | n => n, fun | n => n⟩
theorem lays167 : Go.Proofs.Lays.n167 Tryz.prog quoteRen := {
  mixed := by kernel_rfl
  f167 := Tryz.func50.trans (congrArg some (by kernel_rfl))
  f240 := Tryz.func64.trans (congrArg some (by kernel_rfl))
  f276 := Tryz.func76.trans (congrArg some (by kernel_rfl))
  t0 := Tryz.underlying0
  a0 := Tryz.isAgg0
  z0 := Tryz.sizeOf0
  v0 := Tryz.zeroValue0
  t4 := Tryz.underlying4
  a4 := Tryz.isAgg4
  z4 := Tryz.sizeOf4
  v4 := Tryz.zeroValue4
  t5 := Tryz.underlying5
  a5 := Tryz.isAgg5
  z5 := Tryz.sizeOf5
  v5 := Tryz.zeroValue5
  t9 := Tryz.underlying9
  a9 := Tryz.isAgg9
  z9 := Tryz.sizeOf9
  v9 := Tryz.zeroValue9
  t20 := Tryz.underlying20
  a20 := Tryz.isAgg20
  z20 := Tryz.sizeOf20
  v20 := Tryz.zeroValue20
  t37 := Tryz.underlying25
  a37 := Tryz.isAgg25
  z37 := Tryz.sizeOf25
  v37 := Tryz.zeroValue25
  t70 := Tryz.underlying66
  a70 := Tryz.isAgg66
  z70 := Tryz.sizeOf66
  v70 := Tryz.zeroValue66
  t72 := Tryz.underlying68
  a72 := Tryz.isAgg68
  z72 := Tryz.sizeOf68
  v72 := Tryz.zeroValue68
  t75 := Tryz.underlying70
  a75 := Tryz.isAgg70
  z75 := Tryz.sizeOf70
  v75 := Tryz.zeroValue70
  t164 := Tryz.underlying99
  a164 := Tryz.isAgg99
  z164 := Tryz.sizeOf99
  v164 := Tryz.zeroValue99 }
theorem extra167 : Builder.Extra Tryz.prog quoteRen := {
  sizeBuilder := by kernel_rfl
  liesBuilder := by kernel_rfl
  t5 := Tryz.underlying5
  a5 := Tryz.isAgg5
  z5 := Tryz.sizeOf5
  v5 := Tryz.zeroValue5
  infoByte := by kernel_rfl
  cellsByte := by kernel_rfl
  sizeByte := by kernel_rfl
  neB5 := by decide }
theorem writeByte_any (B b : Nat) (bs : List Value) (c : Int) (w : World) (h : Lib.IsBuilder 68 5 B b bs w) (hlen : bs.length + 1 ≤ 140737488355328) (hBw : B ≤ w.heap.size) :
    Calls Tryz.prog 50 #[.pointer (some ⟨b, 0, none⟩), .int .u8 c] w fun e w' => e = .returned .nilIface ∧ (Lib.BuilderAt 68 5 B b (.pointer (some ⟨b, 0, none⟩)) (bs ++ [.int .u8 c]) w' ∧ Below B w w') :=
  Any.Builder_WriteByte lays167 extra167 B b bs c w h hlen hBw

theorem textByte_any (c : UInt8) (w : World) : Calls Tryz.prog 51 #[.int .u8 c.toNat] w (RetP w (.bool (T.textB c))) := by
  rcases textB_of c with ⟨h, g1, g2⟩ | ⟨h, g1, g2⟩ | ⟨h, g1, g2, g3⟩ | ⟨h, g1, g2, g3⟩
  case' inr.inr.inl => have g4 : ((c.toNat : Int) != 127) = true := by rw [bne, g3]; rfl
  case' inr.inr.inr => have g4 : ((c.toNat : Int) != 127) = false := by rw [bne, g3]; rfl
  all_goals
    rw [h]
    clear h
    go_enter Tryz.func51, Tryz.ntmps51
    go_wp2
    go_ret
    exact ⟨rfl, rfl⟩

theorem refTexts_any (s : ByteArray) (w : World) (hs : s.size ≤ 1099511627776) : Calls Tryz.prog 36 #[.string s] w (RetP w (.bool (F.text s))) := by
  have HZ : Hid ((L s).length = s.size) := (L_size s).symm
  go_enter Tryz.func36, Tryz.ntmps36
  go_wp2
  go_loop [3] (fun i => ∃ k : Nat, k ≤ s.size ∧ i = .int .i64 k ∧ ((L s).take k).all T.textB = true) (fun i => s.size - (intOf i).toNat)
  case atStart => exact ⟨0, Nat.zero_le _, rfl, by simp⟩
  case round =>
    obtain ⟨k, hk, rfl, ha⟩ := hrel
    have HAll := Lib.hid ha
    clear ha
    by_cases hlt : k < s.size
    · have hL : k < (L s).length := by rw [HZ.out]; exact hlt
      have HB := Lib.hid (refText_any s[k])
      rcases tf (T.textB ((L s)[k]'hL)) with h | h
      · have HN := Lib.hid (all_step T.textB (L s) k hL HAll.out h)
        have hb : T.textB s[k] = true := h
        rw [hb] at HB
        clear h hb
        go_wp2_with fail
        refine (HB.out _).mono ?_
        rintro e w' ⟨rfl, rfl⟩
        go_wp2
        go_round
        case rel => exact ⟨k + 1, by omega, by go_num, HN.out⟩
        case measure => simp [intOf]; omega
      · have HN := Lib.hid (all_no T.textB (L s) k hL h)
        have hb : T.textB s[k] = false := h
        rw [hb] at HB
        clear h hb
        go_wp2_with fail
        refine (HB.out _).mono ?_
        rintro e w' ⟨rfl, rfl⟩
        go_wp2
        go_ret
        exact ⟨ret_bool HN.out.symm, rfl⟩
    · have hks : k = s.size := by omega
      have ha := HAll.out
      rw [List.take_of_length_le (by rw [HZ.out]; omega)] at ha
      have HT : Hid (F.text s = true) := Lib.hid ha
      clear ha hks
      go_wp2
      go_ret
      exact ⟨ret_bool HT.out.symm, rfl⟩
end Go.Proofs.YtcoohkgamogmgaaGreatDoor
