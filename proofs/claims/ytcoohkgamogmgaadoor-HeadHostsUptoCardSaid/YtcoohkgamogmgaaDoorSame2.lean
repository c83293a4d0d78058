/- The walks of SameResponse, CopyResponse, SameRequest, CopyRequest, and of the law's alive. Conditions: lists of at most 2^40 elements; the library's table of powers of ten is as its text lays it. -/
import Derived.Test.YtcoohkgamogmgaaDoorReply2
import Derived.Test.YtcoohkgamogmgaaDoorStrip
namespace Go.Proofs.YtcoohkgamogmgaaDoor
open Go.RowKit

set_option maxHeartbeats 400000 in
theorem sameResponse_any (s1 m1 s2 m2 : Int) (r1 r2 : ByteArray) (A B : Option Addr) (n m c d : Nat) (xs ys : List FD) (w : World) (hn : n ≤ 1099511627776) (hm : m ≤ 1099511627776) (hx : Rd w A n 2 (fcells xs)) (hy : Rd w B m 2 (fcells ys)) (hxl : xs.length = n) (hyl : ys.length = m) :
    Calls Tryd.prog 19 #[.agg #[.int .i64 s1, .string r1, .int .i64 m1, .slice A n c], .agg #[.int .i64 s2, .string r2, .int .i64 m2, .slice B m d]] w (RetB w (decide (s1 = s2) && decide (r1 = r2) && decide (m1 = m2) && decide (xs = ys))) := by
  have HS := Lib.hid (fun w' (hb : Below w.heap.size w w') => sameFields_any A B n m c d xs ys w' hn hm (hx.below hb) (hy.below hb) hxl hyl)
  obtain ⟨b4, hb4⟩ : ∃ b4, b4 = decide (xs = ys) := ⟨_, rfl⟩
  rw [← hb4] at HS ⊢
  clear hx hy hxl hyl hb4 hn hm
  rcases tf (decide (s1 = s2)) with h1 | h1
  · have e1 : (s1 == s2) = true := by rw [of_decide_eq_true h1]; simp
    rw [h1]
    clear h1
    rcases tf (decide (r1 = r2)) with h2 | h2
    · have e2 : (r1.toList == r2.toList) = true := by rw [beq_bytes, h2]
      rw [h2]
      clear h2
      rcases tf (decide (m1 = m2)) with h3 | h3
      · have e3 : (m1 == m2) = true := by rw [of_decide_eq_true h3]; simp
        rw [h3]
        clear h3
        go_enter Tryd.func19, Tryd.ntmps19
        go_wp2_with fail
        refine (HS.out _ (((Below.refl _ _).alloc (Nat.le_refl _) _).alloc (by rw [World.size_alloc]; omega) _)).mono ?_
        rintro e w1 ⟨rfl, hb1⟩
        go_wp2
        go_ret
        exact ⟨ret_bool (by simp), below_then (by simp; omega) (((Below.refl _ _).alloc (Nat.le_refl _) _).alloc (by rw [World.size_alloc]; omega) _) hb1⟩
      · have e3 : (m1 == m2) = false := by simpa using of_decide_eq_false h3
        rw [h3]
        clear h3
        go_enter Tryd.func19, Tryd.ntmps19
        go_wp2
        go_ret
        exact ⟨ret_bool (by simp), (((Below.refl _ _).alloc (Nat.le_refl _) _).alloc (by rw [World.size_alloc]; omega) _)⟩
    · have e2 : (r1.toList == r2.toList) = false := by rw [beq_bytes, h2]
      rw [h2]
      clear h2
      go_enter Tryd.func19, Tryd.ntmps19
      go_wp2
      go_ret
      exact ⟨ret_bool (by simp), (((Below.refl _ _).alloc (Nat.le_refl _) _).alloc (by rw [World.size_alloc]; omega) _)⟩
  · have e1 : (s1 == s2) = false := by simpa using of_decide_eq_false h1
    rw [h1]
    clear h1
    go_enter Tryd.func19, Tryd.ntmps19
    go_wp2
    go_ret
    exact ⟨ret_bool (by simp), (((Below.refl _ _).alloc (Nat.le_refl _) _).alloc (by rw [World.size_alloc]; omega) _)⟩

/-! ### The law's alive -/
def aliveFs : List FD := [(⟨#[67, 111, 110, 110, 101, 99, 116, 105, 111, 110]⟩, ⟨#[120, 44, 32, 99, 108, 111, 115, 101]⟩), (⟨#[88]⟩, ⟨#[49]⟩), (⟨#[89]⟩, ⟨#[50]⟩)]
theorem alive_strip : F.strip aliveFs = [(⟨#[89]⟩, ⟨#[50]⟩)] := by kernel_rfl
theorem alive_said : said 403 = ⟨#[52, 48, 51, 32, 70, 111, 114, 98, 105, 100, 100, 101, 110, 10]⟩ := by
  have h : Lib.itoa 403 = [52, 48, 51] := by
    rw [itoa_show 403 (by decide)]
    rfl
  unfold said
  rw [h]
  rfl
theorem alive_word : word 403 = ⟨#[70, 111, 114, 98, 105, 100, 100, 101, 110]⟩ := rfl

set_option maxHeartbeats 400000 in
theorem alive_any (w : World) (ht : TabOk w) : Calls Tryd.prog 12 #[] w (RetB w true) := by
  have H1 := Lib.hid (fun A (w' : World) (hx : Rd w' A 3 2 (fcells aliveFs)) (hne : A = none → 3 = 0 ∧ 3 = 0) => strip_any A 3 3 aliveFs w' rfl (by decide) hx hne)
  have H2 := Lib.hid (fun (w' : World) (hb : Below w.heap.size w w') => reply_any 403 (by decide) (by decide) w' (ht.below hb))
  clear ht
  go_enter Tryd.func12, Tryd.ntmps12
  go_wp2_with fail
  refine (H1.out _ _ (Rd.newRow w 67 #[.string ⟨#[67, 111, 110, 110, 101, 99, 116, 105, 111, 110]⟩, .string ⟨#[120, 44, 32, 99, 108, 111, 115, 101]⟩, .string ⟨#[88]⟩, .string ⟨#[49]⟩, .string ⟨#[89]⟩, .string ⟨#[50]⟩] 3 2 rfl) (fun h => by cases h)).mono ?_
  rw [alive_strip]
  rintro e w1 ⟨A1, c1, rfl, hr1, hb1⟩
  have hB1 := below_new (Below.refl w.heap.size w) (Nat.le_refl _) hb1
  have hrd1 := hr1.rd
  clear hr1 hb1
  go_wp2_with fail
  refine (H2.out _ hB1).mono ?_
  rintro e w2 ⟨A2, B2, c2, rfl, hr2, hs2, hb2⟩
  rw [alive_said] at hs2
  rw [alive_word, alive_said]
  have hB2 := below_then hB1.size hB1 hb2
  have hrd := hrd1.below hb2
  have hz1 := hB1.size
  have hz2 := hb2.size
  clear hrd1 hB1 hb2 H1 H2 hr2
  have HB2 := Lib.hid hB2
  have HRD := Lib.hid hrd
  have HS2 := Lib.hid hs2
  clear hB2 hrd hs2
  go_wp2_with fail
  have hal := newF (w2.alloc (.cells #[.int .i64 403, .string ⟨#[70, 111, 114, 98, 105, 100, 100, 101, 110]⟩, .int .i64 1, .slice A2 1 1] 28)) (⟨#[89]⟩, ⟨#[50]⟩)
  rw [World.size_alloc] at hal
  refine (sameFields_any A1 (some ⟨w2.heap.size + 1, 0, none⟩) 1 1 c1 1 [(⟨#[89]⟩, ⟨#[50]⟩)] [(⟨#[89]⟩, ⟨#[50]⟩)] _ (by decide) (by decide) ((HRD.out.alloc _).alloc _) hal rfl rfl).mono ?_
  rintro e w3 ⟨rfl, hb3⟩
  obtain ⟨q0, q1, q2, q3⟩ := ((newFour (w := w2) (.int .i64 403) (.string ⟨#[70, 111, 114, 98, 105, 100, 100, 101, 110]⟩) (.int .i64 1) (.slice A2 1 1) 28).below ((Below.refl _ _).alloc (Nat.le_refl _) _)).below hb3
  have hcv := conv_bs (((HS2.out.alloc _).alloc _).below hb3) c2
  rw [B_L] at hcv
  have HB3 := Lib.hid (below_then (by rw [World.size_alloc, World.size_alloc]; omega) ((HB2.out.alloc (by omega) _).alloc (by rw [World.size_alloc]; omega) _) hb3)
  have hsz : (⟨#[52, 48, 51, 32, 70, 111, 114, 98, 105, 100, 100, 101, 110, 10]⟩ : ByteArray).size = 14 := rfl
  rw [hsz] at hcv
  clear HRD HS2 HB2 hal hb3 hsz
  go_wp2
  go_ret
  exact ⟨ret_bool (by simp), HB3.out⟩
end Go.Proofs.YtcoohkgamogmgaaDoor
