/- The walks of inbox.Expects and of the document's. Conditions: a row of at most 2^28 bytes; the library's two tables of UTF-8; internal/bytealg.MaxLen. -/
import Derived.Test.YtcdbppoohlabnaaGreatDoorFrame2
import Derived.Test.YtcdbppoohlabnaaGreatDoorHeadRA
import Derived.Test.YtcdbppoohlabnaaGreatDoorHead5
import Derived.Test.YtcdbppoohlabnaaGreatDoorRowA
namespace Go.Proofs.YtcdbppoohlabnaaGreatDoor
open Go.RowKit

theorem CRow.nilE {w : World} {base : Nat} {A : Option Addr} {n c : Nat} {bs : List UInt8} (h : CRow w base A n c bs) (hA : A = none) : n = 0 ∧ c = 0 := by
  rcases h.2.2 with h0 | ⟨g, hg, _⟩
  · have := h.2.1; omega
  · rw [hA] at hg; cases hg
theorem CRow.spotE {w : World} {base : Nat} {A : Option Addr} {n c : Nat} {bs : List UInt8} (h : CRow w base A n c bs) (a : Addr) (ha : A = some a) : a.spot = none ∨ c = 0 := by
  rcases h.2.2 with h0 | ⟨g, hg, _⟩
  · exact .inr h0
  · rw [hg] at ha; cases ha; exact .inl rfl
/-- Is a text among others? -/
def hasW (l : List ByteArray) (x : ByteArray) : Bool := l.any fun t => decide (t = x)
theorem hasW_iff {l : List ByteArray} {x : ByteArray} : hasW l x = true ↔ x ∈ l := by
  unfold hasW
  rw [List.any_eq_true]
  constructor
  · rintro ⟨t, ht, h⟩
    rw [← of_decide_eq_true h]
    exact ht
  · exact fun h => ⟨x, h, decide_eq_true rfl⟩
theorem hasW_no {l : List ByteArray} {x : ByteArray} (h : ¬ x ∈ l) : hasW l x = false := by
  rw [← Bool.not_eq_true, hasW_iff]
  exact h
namespace P
open T (Bs)
def exN : ByteArray := ⟨#[69, 120, 112, 101, 99, 116]⟩
def exL : ByteArray := ⟨#[101, 120, 112, 101, 99, 116]⟩
def exW : ByteArray := ⟨#[49, 48, 48, 45, 99, 111, 110, 116, 105, 110, 117, 101]⟩
/-- Does a request wait for a word to go on? -/
def expR (q : RQ) : Bool := decide (q.e = 0 ∧ q.n ≠ 0 ∧ q.v = 1) && (decide ((F.frame q.v q.fs 0).e = 0) && decide ((F.frame q.v q.fs 0).k ≠ 0) && hasW (F.tokens q.fs exN) exW)
theorem block_len (bs : Bs) (s : Nat) : (hBlock bs s).length ≤ bs.length := by
  unfold hBlock hText
  rw [List.length_drop, List.length_take, List.length_drop]
  omega
theorem request_bulk (bs : Bs) : F.bulk (request bs).fs ≤ bs.length := by
  have hp := (parse_facts _ [] (hBlock bs (skip bs)) (Nat.le_refl _) (Nat.zero_le _)).1
  have hb := block_len bs (skip bs)
  have h0 : F.bulk [] = 0 := rfl
  have hz : ∀ e : Int, F.bulk (RQ.bad e).fs ≤ bs.length := fun e => Nat.zero_le _
  unfold request
  split
  · exact hz _
  · unfold reqOf
    split
    · exact hz _
    · split
      · exact hz _
      · split
        · exact hz _
        · split
          · exact hz _
          · show F.bulk (parse [] (hBlock bs (skip bs))).1 ≤ _
            omega
theorem frame_kinds (m : Int) (fs : List FD) : (F.frame m fs 0).k = 0 ∨ (F.frame m fs 0).k = 1 ∨ (F.frame m fs 0).k = 2 := by
  unfold F.frame
  repeat' split
  all_goals first | exact .inl rfl | exact .inr (.inl rfl) | exact .inr (.inr rfl)
end P
end Go.Proofs.YtcdbppoohlabnaaGreatDoor
