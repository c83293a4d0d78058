/- The walks of CopyBytes, Spare and hop's length. Conditions: lists of at most 2^40 elements, a number of 64 bits, the library's table of powers of ten. -/
import Derived.Test.YteehjkfmlcfffaaGreatDoorRowA
import Derived.Test.YteehjkfmlcfffaaGreatDoorShow
import Derived.Test.YteehjkfmlcfffaaGreatDoorPlainB
import Derived.IntWalk
namespace Go.Proofs.YteehjkfmlcfffaaGreatDoor
open Go.RowKit

/-- A list of bytes of its own, answered. -/
def RetC (w : World) (bs : List UInt8) (e : Ending) (w' : World) : Prop :=
  ∃ A c, e = .returned (.slice A bs.length c) ∧ CRow w' w.heap.size A bs.length c bs ∧ Below w.heap.size w w'

set_option maxHeartbeats 400000 in
theorem copyBytes_any (A : Option Addr) (c : Nat) (bs : List UInt8) (w : World) (hn : bs.length ≤ 1099511627776) (hx : Rd w A bs.length 1 (bcells bs)) :
    Calls Tryz.prog 21 #[.slice A bs.length c] w (RetC w bs) := by
  have HX := Lib.hid (hx.alloc (.cells #[] 5))
  clear hx
  go_enter Tryz.func21, Tryz.ntmps21
  go_wp2_with (at_builtin; refine appC _ rfl (.tmp 5) (.tmp 6) rfl w.heap.size _ 0 0 [] rfl ⟨rfl, Nat.le_refl _, .inl rfl⟩ A bs.length c bs rfl HX.out (by omega) (by rw [World.size_alloc]; omega) ?_; intro A1 c1 w1 hr1 ha1)
  have hb := ((Below.refl w.heap.size w).alloc (Nat.le_refl _) (.cells #[] 5)).trans (ha1.belowC (⟨rfl, Nat.le_refl _, .inl rfl⟩ : CRow _ w.heap.size _ 0 0 []) (by rw [World.size_alloc]; omega))
  have e : 0 + bs.length = bs.length := Nat.zero_add _
  rw [e] at hr1
  go_ret
  exact ⟨A1, c1, rfl, hr1, hb⟩

def marks : List UInt8 := [201, 202, 203, 204, 205, 206, 207, 208]
theorem marks_at (k : Nat) (h : k < 8) : marks.take (k + 1) = marks.take k ++ [UInt8.ofNat (201 + k)] := by
  have : ∀ j : Fin 8, marks.take (j.1 + 1) = marks.take j.1 ++ [UInt8.ofNat (201 + j.1)] := by decide
  exact this ⟨k, h⟩
theorem mark_nat (k : Nat) (h : k < 8) : ((UInt8.ofNat (201 + k)).toNat : Int) = 201 + (k : Int) := by
  rw [UInt8.toNat_ofNat']
  omega

set_option maxRecDepth 100000 in
set_option maxHeartbeats 1000000 in
theorem spare_any (A : Option Addr) (c : Nat) (bs : List UInt8) (w : World) (hn : bs.length ≤ 1099511627776) (hx : Rd w A bs.length 1 (bcells bs)) :
    Calls Tryz.prog 14 #[.slice A bs.length c] w (RetC w (bs ++ marks)) := by
  have HC := Lib.hid (copyBytes_any A c bs w hn hx)
  have HL : Hid ((bs ++ marks).length = bs.length + 8) := by rw [List.length_append]; exact Lib.hid rfl
  obtain ⟨n, hnn⟩ : ∃ n, n = bs.length := ⟨_, rfl⟩
  rw [← hnn] at HC HL hn ⊢
  clear hx hnn
  go_enter Tryz.func14, Tryz.ntmps14
  go_wp2_with fail
  refine HC.out.mono ?_
  rintro e w1 ⟨A1, c1, e1, hr1, hb1⟩
  have hn1 : bs.length = n := by have := hr1.1; have := HL.out; rw [List.length_append] at this; have : marks.length = 8 := rfl; omega
  rw [hn1] at e1 hr1
  subst e1
  have HR1 := Lib.hid hr1
  have HB1 := Lib.hid hb1
  clear hr1 hb1 HC hn1
  go_wp2
  go_loopw [3, 4] (fun o i wr => ∃ (k : Nat) (A2 : Option Addr) (c2 : Nat), k ≤ 8 ∧ i = .int .i64 k ∧ o = .slice A2 (n + k) c2 ∧ CRow wr w.heap.size A2 (n + k) c2 (bs ++ marks.take k) ∧ Below w.heap.size w wr) (fun _ i _ => 8 - (intOf i).toNat)
  case atStart => exact ⟨0, A1, c1, Nat.zero_le _, rfl, rfl, by simpa using HR1.out, HB1.out⟩
  case round =>
    clear HR1 HB1
    obtain ⟨k, A2, c2, hk, rfl, rfl, hrow, hbel⟩ := hrel
    have HROW := Lib.hid hrow
    have HBEL := Lib.hid hbel
    have hz := hbel.size
    clear hrow hbel
    by_cases hlt : k < 8
    · have hm := marks_at k hlt
      have hv := mark_nat k hlt
      have hnew := fun u : World => newB u (UInt8.ofNat (201 + k))
      rw [hv] at hnew
      have HNEW := Lib.hid hnew
      have HM := Lib.hid hm
      have hw : IntKind.u8.wrap (201 + (k : Int)) = 201 + (k : Int) := by
        rw [← hv]; exact (show ∀ x : UInt8, IntKind.u8.wrap (x.toNat : Int) = x.toNat from fun x => by have := x.toNat_lt; unfold IntKind.wrap; simp [IntKind.bits, IntKind.signed]; omega) _
      have HB2 := Lib.hid (fun A3 c3 w3 (ha : App (wr.alloc (.cells #[.int .u8 (201 + (k : Int))] 5)) w3 A2 c2 A3 c3) => (HBEL.out.alloc hz _).trans (ha.belowC (HROW.out.alloc _) (by rw [World.size_alloc]; omega)))
      clear hm hv hnew
      go_wp2_with (at_builtin; refine appC _ rfl (.tmp 11) (.tmp 15) rfl w.heap.size A2 (n + k) c2 (bs ++ marks.take k) rfl (HROW.out.alloc _) _ 1 1 [UInt8.ofNat (201 + k)] rfl (HNEW.out _) (by omega) (by rw [World.size_alloc]; omega) ?_; intro A3 c3 w3 hr3 ha3; have HR3 := Lib.hid hr3; have HB3 := Lib.hid (HB2.out _ _ _ ha3); clear hr3 ha3)
      go_roundw
      case rel => exact ⟨k + 1, A3, c3, by omega, by go_num, rfl, by have := HR3.out; rw [List.append_assoc, ← HM.out] at this; exact this, HB3.out⟩
      case measure => simp [intOf]; omega
    · have hk8 : k = 8 := by omega
      subst hk8
      have hr := HROW.out
      have hm8 : marks.take 8 = marks := rfl
      rw [hm8] at hr
      have HR := Lib.hid hr
      clear hr hm8 HROW
      go_wp2
      go_ret
      refine ⟨A2, c2, ?_, ?_, HBEL.out⟩
      · rw [HL.out]; rfl
      · rw [HL.out]; exact HR.out

/-- Grown but for one block. -/
theorem grown_trans {a b c : World} {r : Option Nat} (h1 : Below a.heap.size a b) (h2 : b.grownBy c r) : a.grownBy c r :=
  ⟨h2.os.trans h1.os, h2.tape.trans h1.tape, h2.output.trans h1.output, Nat.le_trans h1.size h2.size, fun k hk hne => (h2.block k (Nat.lt_of_lt_of_le hk h1.size) hne).trans (h1.block k hk)⟩

set_option maxHeartbeats 400000 in
theorem length_any (base : Nat) (A : Option Addr) (c : Nat) (fs : List FD) (k : Nat) (w : World) (hn : fs.length ≤ 1099511627776) (hr : Row w base 148 2 A fs.length c (fcells fs)) (hb : base ≤ w.heap.size) (hk : k ≤ 1099511627776) (ht : TabOk w) :
    Calls Tryz.prog 83 #[.slice A fs.length c, .int .i64 k] w (fun e w' => ∃ A' c', e = .returned (.slice A' (fs.length + 1) c') ∧ Row w' base 148 2 A' (fs.length + 1) c' (fcells (fs ++ [(⟨#[67, 111, 110, 116, 101, 110, 116, 45, 76, 101, 110, 103, 116, 104]⟩, B (Lib.itoa k))])) ∧ w.grownBy w' (ownB A c)) := by
  have HI := Lib.hid (itoa_any k (by omega) (by omega) w ht)
  have HR := Lib.hid hr
  generalize B (Lib.itoa k) = I at *
  obtain ⟨n, hnn⟩ : ∃ n, n = fs.length := ⟨_, rfl⟩
  rw [← hnn] at HR hn ⊢
  clear hr ht hnn
  go_enter Tryz.func83, Tryz.ntmps83
  go_wp2_with fail
  refine HI.out.mono ?_
  rintro e w1 ⟨rfl, hb1⟩
  have hz1 := hb1.size
  have HR1 := Lib.hid ((HR.out.below hb1).alloc (.cells #[.string ⟨#[67, 111, 110, 116, 101, 110, 116, 45, 76, 101, 110, 103, 116, 104]⟩, .string I] 148))
  have HB1 := Lib.hid (hb1.alloc hz1 (.cells #[.string ⟨#[67, 111, 110, 116, 101, 110, 116, 45, 76, 101, 110, 103, 116, 104]⟩, .string I] 148))
  clear hb1 HI
  go_wp2_with (at_builtin; refine appF _ rfl (.tmp 5) (.tmp 9) rfl base A n c fs rfl HR1.out _ 1 1 [(⟨#[67, 111, 110, 116, 101, 110, 116, 45, 76, 101, 110, 103, 116, 104]⟩, I)] rfl (newF _ (⟨#[67, 111, 110, 116, 101, 110, 116, 45, 76, 101, 110, 103, 116, 104]⟩, I)) (by omega) (by rw [World.size_alloc]; omega) ?_; intro A2 c2 w2 hr2 ha2)
  go_ret
  exact ⟨A2, c2, rfl, hr2, grown_trans HB1.out ha2.grown⟩
end Go.Proofs.YteehjkfmlcfffaaGreatDoor
