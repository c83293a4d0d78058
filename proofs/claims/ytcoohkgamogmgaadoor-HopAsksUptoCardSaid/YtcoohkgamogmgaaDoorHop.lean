/- The walks of the laws HopReplies and HopStrips. Conditions: the number is of 64 bits; the list's bulk is at most 2^30; the library's table of powers of ten is as its text lays it. -/
import Derived.Test.YtcoohkgamogmgaaDoorSame2
namespace Go.Proofs.YtcoohkgamogmgaaDoor
open Go.RowKit

theorem size_of {s : ByteArray} {l : List UInt8} (h : l = L s) : l.length = s.size := by rw [h, L_size]

set_option maxHeartbeats 400000 in
theorem hopReplies_any (s : Int) (h0 : -9223372036854775808 ≤ s) (h1 : s ≤ 9223372036854775807) (w : World) (ht : TabOk w) : Calls Tryd.prog 4 #[.int .i64 s] w (RetB w true) := by
  have zI := itoa_size s h0 h1
  have zW := word_size s
  have zS : (said s).size ≤ 60 := by
    unfold said
    simp only [ByteArray.size_append]
    have : (⟨#[32]⟩ : ByteArray).size = 1 := rfl
    have : (⟨#[10]⟩ : ByteArray).size = 1 := rfl
    omega
  have HA := Lib.hid (alive_any w ht)
  have H1 := Lib.hid (fun (w' : World) (hb : Below w.heap.size w w') => reply_any s h0 h1 w' (ht.below hb))
  have H2 := Lib.hid (fun (w' : World) (hb : Below w.heap.size w w') => refReply_any s h0 h1 w' (ht.below hb))
  clear ht zI zW h0 h1
  go_enter Tryd.func4, Tryd.ntmps4
  go_wp2_with fail
  refine HA.out.mono ?_
  rintro e w1 ⟨rfl, hB1⟩
  go_wp2_with fail
  refine (H1.out _ hB1).mono ?_
  rintro e w2 ⟨A2, B2, c2, rfl, hr2, hs2, hb2⟩
  obtain ⟨R, hR⟩ : ∃ R, R = word s := ⟨_, rfl⟩
  obtain ⟨S, hS⟩ : ∃ S, S = said s := ⟨_, rfl⟩
  obtain ⟨N, hN⟩ : ∃ N, N = S.size := ⟨_, rfl⟩
  rw [← hS, ← hN] at hs2
  rw [← hR, ← hS, ← hN]
  have zN : N ≤ 60 := by rw [hN, hS]; exact zS
  have hB2 := below_then hB1.size hB1 hb2
  have hz1 := hB1.size
  have hz2 := hb2.size
  have HR2 := Lib.hid hr2
  have HS2 := Lib.hid hs2
  have HB2 := Lib.hid hB2
  have HEQ := Lib.hid (And.intro hR (And.intro hS hN))
  clear hr2 hs2 hB2 hb2 hB1 hR hS hN zS HA H1
  go_wp2_with fail
  refine (H2.out _ (HB2.out.alloc (by omega) _)).mono ?_
  rintro e w3 ⟨A3, B3, c3, rfl, hr3, hs3, hb3⟩
  rw [← HEQ.out.2.1, ← HEQ.out.2.2] at hs3
  rw [← HEQ.out.1, ← HEQ.out.2.1, ← HEQ.out.2.2]
  have hB3 := below_new HB2.out (by omega) hb3
  obtain ⟨q0, q1, q2, q3⟩ := ((newFour (w := w2) (.int .i64 s) (.string R) (.int .i64 1) (.slice A2 1 1) 28).below hb3).below ((Below.refl _ _).alloc (Nat.le_refl _) (.cells #[.int .i64 s, .string R, .int .i64 1, .slice A3 1 1] 28))
  have HR2 := Lib.hid (HR2.out.new hb3)
  have HS2 := Lib.hid (HS2.out.new hb3)
  have hz3 := hb3.size
  rw [World.size_alloc] at hz3
  have HR3 := Lib.hid hr3
  have HS3 := Lib.hid hs3
  have HB3 := Lib.hid hB3
  clear hr3 hs3 hB3 hb3 HB2 H2
  go_wp2_with fail
  refine (sameResponse_any s 1 s 1 R R A2 A3 1 1 1 1 [plainF] [plainF] _ (by decide) (by decide) (HR2.out.alloc _) (HR3.out.alloc _) rfl rfl).mono ?_
  rintro e w4 ⟨rfl, hb4⟩
  have hB4 := below_new HB3.out (by omega) hb4
  have hz4 := hb4.size
  rw [World.size_alloc] at hz4
  have HB4 := Lib.hid hB4
  have HS2 := Lib.hid (HS2.out.new hb4)
  have HS3 := Lib.hid (HS3.out.new hb4)
  clear hb4 hB4 HB3 HR2 HR3 q0 q1 q2 q3
  go_wp2_with fail
  refine (sameBytes_any B2 B3 N N c2 c3 (L S) (L S) w4 (by omega) (by omega) HS2.out HS3.out (by rw [HEQ.out.2.2, L_size]) (by rw [HEQ.out.2.2, L_size])).mono ?_
  rintro e w5 ⟨rfl, hb5⟩
  go_wp2
  go_ret
  exact ⟨ret_bool (by simp), below_then (by omega) HB4.out hb5⟩

set_option maxHeartbeats 400000 in
theorem hopStrips_any (A : Option Addr) (n c : Nat) (fs : List FD) (w : World) (hl : fs.length = n) (hf : F.bulk fs ≤ 1073741824) (hx : Rd w A n 2 (fcells fs)) (ht : TabOk w) :
    Calls Tryd.prog 3 #[.slice A n c] w (RetB w true) := by
  have hn : n ≤ 1073741824 := by have := F.len_le_bulk fs; omega
  have hsl : (F.strip fs).length ≤ 1073741824 := by
    have := F.len_le_bulk (F.strip fs)
    have := F.bulk_strip fs
    omega
  have HA := Lib.hid (alive_any w ht)
  have H1 := Lib.hid (fun (w' : World) (hb : Below w.heap.size w w') => copyFields_any A n c fs w' (by omega) (hx.below hb))
  have H2 := Lib.hid (fun (A1 : Option Addr) (c1 : Nat) (w' : World) (hx : Rd w' A1 n 2 (fcells fs)) (hne : A1 = none → n = 0 ∧ c1 = 0) => strip_any A1 n c1 fs w' hl hf hx hne)
  have H3 := Lib.hid (fun (w' : World) (hb : Below w.heap.size w w') => refStrip_any A n c fs w' hl hf (hx.below hb))
  have HX := Lib.hid (fun (w' : World) (hb : Below w.heap.size w w') => hx.below hb)
  have HL := Lib.hid hl
  clear ht hl hf hx
  go_enter Tryd.func3, Tryd.ntmps3
  go_wp2_with fail
  refine HA.out.mono ?_
  rintro e w1 ⟨rfl, hB1⟩
  go_wp2_with fail
  refine (H1.out _ hB1).mono ?_
  rintro e w2 ⟨A2, c2, rfl, hr2, hb2⟩
  have hne2 := fun h => hr2.nil h
  have hrd2 := hr2.rd
  have hB2 := below_then hB1.size hB1 hb2
  clear hr2 hB1 hb2 HA H1
  go_wp2_with fail
  refine (H2.out A2 c2 _ hrd2 hne2).mono ?_
  rintro e w3 ⟨A3, c3, rfl, hr3, hb3⟩
  have hrd2 := hrd2.below hb3
  have hB3 := below_then hB2.size hB2 hb3
  have hrd3 := hr3.rd
  clear hr3 hB2 hb3 hne2 H2
  go_wp2_with fail
  refine (H3.out _ hB3).mono ?_
  rintro e w4 ⟨A4, c4, rfl, hr4, hb4⟩
  rw [← F.strip_eq] at hr4
  rw [← F.strip_eq]
  have hrd2 := hrd2.below hb4
  have hrd3 := hrd3.below hb4
  have hrd4 := hr4.rd
  have hB4 := below_then hB3.size hB3 hb4
  clear hr4 hB3 hb4 H3
  go_wp2_with fail
  refine (sameFields_any A3 A4 _ _ c3 c4 (F.strip fs) (F.strip fs) w4 (by omega) (by omega) hrd3 hrd4 rfl rfl).mono ?_
  rintro e w5 ⟨rfl, hb5⟩
  have hrd2 := hrd2.below hb5
  have hB5 := below_then hB4.size hB4 hb5
  clear hrd3 hrd4 hB4 hb5
  go_wp2_with fail
  refine (sameFields_any A2 A n n c2 c fs fs w5 (by omega) (by omega) hrd2 (HX.out _ hB5) HL.out HL.out).mono ?_
  rintro e w6 ⟨rfl, hb6⟩
  go_wp2
  go_ret
  exact ⟨ret_bool (by simp), below_then hB5.size hB5 hb6⟩
end Go.Proofs.YtcoohkgamogmgaaDoor
