/- The walks of inbox.Expects and of the document's. Conditions: a row of at most 2^28 bytes; the library's two tables of UTF-8; internal/bytealg.MaxLen. -/
import Derived.Test.YteehjkfmlcfffaaGreatDoorFrame2
import Derived.Test.YteehjkfmlcfffaaGreatDoorHeadRA
import Derived.Test.YteehjkfmlcfffaaGreatDoorHead5
import Derived.Test.YteehjkfmlcfffaaGreatDoorRowA
namespace Go.Proofs.YteehjkfmlcfffaaGreatDoor
open Go.RowKit

theorem CRow.nilE {w : World} {base : Nat} {A : Option Addr} {n c : Nat} {bs : List UInt8} (h : CRow w base A n c bs) (hA : A = none) : n = 0 ∧ c = 0 := by
  rcases h.2.2 with h0 | ⟨g, hg, _⟩
  · have := h.2.1; omega
  · rw [hA] at hg; cases hg
theorem CRow.spotE {w : World} {base : Nat} {A : Option Addr} {n c : Nat} {bs : List UInt8} (h : CRow w base A n c bs) (a : Addr) (ha : A = some a) : a.spot = none ∨ c = 0 := by
  rcases h.2.2 with h0 | ⟨g, hg, _⟩
  · exact .inr h0
  · rw [hg] at ha; cases ha; exact .inl rfl
namespace P
open T (Bs)
theorem block_len (bs : Bs) (s : Nat) : (hBlock bs s).length ≤ bs.length := by
  unfold hBlock hText
  rw [List.length_drop, List.length_take, List.length_drop]
  omega
theorem request_bulk (bs : Bs) : F.bulk (request bs).fs ≤ bs.length := by
  have hp := (parse_facts _ [] (hBlock bs (skip bs)) (Nat.le_refl _) (Nat.zero_le _)).1
  have hb := block_len bs (skip bs)
  have h0 : F.bulk [] = 0 := rfl
  have hz : ∀ e : Int, F.bulk (RQ.bad e).fs ≤ bs.length := fun e => Nat.zero_le _
  unfold request
  split
  · exact hz _
  · unfold reqOf
    split
    · exact hz _
    · split
      · exact hz _
      · split
        · exact hz _
        · split
          · exact hz _
          · show F.bulk (parse [] (hBlock bs (skip bs))).1 ≤ _
            omega
theorem frame_kinds (m : Int) (fs : List FD) : (F.frame m fs 0).k = 0 ∨ (F.frame m fs 0).k = 1 ∨ (F.frame m fs 0).k = 2 := by
  unfold F.frame
  repeat' split
  all_goals first | exact .inl rfl | exact .inr (.inl rfl) | exact .inr (.inr rfl)
end P
end Go.Proofs.YteehjkfmlcfffaaGreatDoor
