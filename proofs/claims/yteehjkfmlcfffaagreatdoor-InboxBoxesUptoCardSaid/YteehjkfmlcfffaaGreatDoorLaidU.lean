/- Out of the row's list and the shaped world: the two tables of UTF-8, internal/bytealg.MaxLen. No condition: plain lemmas. -/
import Derived.Test.YteehjkfmlcfffaaGreatDoorLaid
import Derived.Test.YteehjkfmlcfffaaGreatDoorShelf
import Derived.Test.YteehjkfmlcfffaaGreatDoorIdxAny
import Derived.Lib.LaidU8
namespace Go.Proofs.YteehjkfmlcfffaaGreatDoor
open Go.Lib

theorem first_eq : Rows.laid_unicode_utf8_first = firstData := by kernel_rfl
theorem accept_eq : (Rows.laid_unicode_utf8_acceptRanges : DataW Unit) = acceptData := by kernel_rfl
theorem u8_extra : U8Extra Tryz.prog Tryz.lays260_ren :=
  ⟨by kernel_rfl, by kernel_rfl, by kernel_rfl, by kernel_rfl, by kernel_rfl, by kernel_rfl, by kernel_rfl⟩
/-- Out of the row's list: both tables lie as the library's text lays them. -/
theorem u8_of {W : World} {laid : List (String × DataW Unit)} (h : laidMetH Tryz.prog laid W)
    (hm : laid.filter (fun x => x.1 == "unicode/utf8.acceptRanges" || x.1 == "unicode/utf8.first") = [("unicode/utf8.acceptRanges", Rows.laid_unicode_utf8_acceptRanges), ("unicode/utf8.first", Rows.laid_unicode_utf8_first)]) :
    Lib.Utf8Tabs 4 5 W := by
  have h1 := h.filter (fun x => x.1 == "unicode/utf8.acceptRanges" || x.1 == "unicode/utf8.first")
  rw [hm] at h1
  have h2 : laidMet Tryz.prog [("unicode/utf8.acceptRanges", Rows.laid_unicode_utf8_acceptRanges), ("unicode/utf8.first", Rows.laid_unicode_utf8_first)] W := h1
  exact utf8Tabs_of_reads Tryz.lays260 u8_extra (first_eq ▸ laidMet.reads h2 (by simp)) (accept_eq ▸ laidMet.reads h2 (by simp))
theorem lib_of {W : World} {laid : List (String × DataW Unit)} (h : laidMetH Tryz.prog laid W) (hs : W.ShapedOpen Tryz.prog)
    (hm : laid.filter (fun x => x.1 == "unicode/utf8.acceptRanges" || x.1 == "unicode/utf8.first") = [("unicode/utf8.acceptRanges", Rows.laid_unicode_utf8_acceptRanges), ("unicode/utf8.first", Rows.laid_unicode_utf8_first)]) : LibOk W :=
  ⟨u8_of h hm, Tryz.laysM145.s1_3 W hs⟩
end Go.Proofs.YteehjkfmlcfffaaGreatDoor
