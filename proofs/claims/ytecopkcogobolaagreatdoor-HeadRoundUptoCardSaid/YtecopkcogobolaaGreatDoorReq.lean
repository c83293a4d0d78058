/- The walks of SameRequest, CopyRequest and the document's Response. Conditions: lists of at most 2^40 elements; for Response a list of bulk at most 2^30, a name of at most 2^40 bytes, a number of 64 bits. -/
import Derived.Test.YtecopkcogobolaaGreatDoorResp
import Derived.Test.YtecopkcogobolaaGreatDoorStripA
import Derived.Test.YtecopkcogobolaaGreatDoorSend
namespace Go.Proofs.YtecopkcogobolaaGreatDoor
open Go.RowKit

set_option maxHeartbeats 400000 in
theorem sameRequest_any (m1 m2 : Int) (s1 s2 r1 r2 : ByteArray) (A B : Option Addr) (n m c d : Nat) (xs ys : List FD) (w : World) (hn : n ≤ 1099511627776) (hm : m ≤ 1099511627776) (hx : Rd w A n 2 (fcells xs)) (hy : Rd w B m 2 (fcells ys)) (hxl : xs.length = n) (hyl : ys.length = m) :
    Calls Tryz.prog 25 #[.agg #[.string s1, .string r1, .int .i64 m1, .slice A n c], .agg #[.string s2, .string r2, .int .i64 m2, .slice B m d]] w (RetB w (decide (s1 = s2) && decide (r1 = r2) && decide (m1 = m2) && decide (xs = ys))) := by
  have HS := Lib.hid (fun w' (hb : Below w.heap.size w w') => sameFields_any A B n m c d xs ys w' hn hm (hx.below hb) (hy.below hb) hxl hyl)
  obtain ⟨b4, hb4⟩ : ∃ b4, b4 = decide (xs = ys) := ⟨_, rfl⟩
  rw [← hb4] at HS ⊢
  clear hx hy hxl hyl hb4 hn hm
  rcases tf (decide (s1 = s2)) with h1 | h1
  · have e1 : (s1.toList == s2.toList) = true := by rw [beq_bytes, h1]
    rw [h1]
    clear h1
    rcases tf (decide (r1 = r2)) with h2 | h2
    · have e2 : (r1.toList == r2.toList) = true := by rw [beq_bytes, h2]
      rw [h2]
      clear h2
      rcases tf (decide (m1 = m2)) with h3 | h3
      · have e3 : (m1 == m2) = true := by rw [of_decide_eq_true h3]; simp
        rw [h3]
        clear h3
        go_enter Tryz.func25, Tryz.ntmps25
        go_wp2_with fail
        refine (HS.out _ (((Below.refl _ _).alloc (Nat.le_refl _) _).alloc (by rw [World.size_alloc]; omega) _)).mono ?_
        rintro e w1 ⟨rfl, hb1⟩
        go_wp2
        go_ret
        exact ⟨ret_bool (by simp), below_then (by simp; omega) (((Below.refl _ _).alloc (Nat.le_refl _) _).alloc (by rw [World.size_alloc]; omega) _) hb1⟩
      · have e3 : (m1 == m2) = false := by simpa using of_decide_eq_false h3
        rw [h3]
        clear h3
        go_enter Tryz.func25, Tryz.ntmps25
        go_wp2
        go_ret
        exact ⟨ret_bool (by simp), (((Below.refl _ _).alloc (Nat.le_refl _) _).alloc (by rw [World.size_alloc]; omega) _)⟩
    · have e2 : (r1.toList == r2.toList) = false := by rw [beq_bytes, h2]
      rw [h2]
      clear h2
      go_enter Tryz.func25, Tryz.ntmps25
      go_wp2
      go_ret
      exact ⟨ret_bool (by simp), (((Below.refl _ _).alloc (Nat.le_refl _) _).alloc (by rw [World.size_alloc]; omega) _)⟩
  · have e1 : (s1.toList == s2.toList) = false := by rw [beq_bytes, h1]
    rw [h1]
    clear h1
    go_enter Tryz.func25, Tryz.ntmps25
    go_wp2
    go_ret
    exact ⟨ret_bool (by simp), (((Below.refl _ _).alloc (Nat.le_refl _) _).alloc (by rw [World.size_alloc]; omega) _)⟩


set_option maxHeartbeats 400000 in
theorem copyRequest_any (m : Int) (s r : ByteArray) (A : Option Addr) (n c : Nat) (fs : List FD) (w : World) (hl : fs.length = n) (hn : n ≤ 1099511627776) (hx : Rd w A n 2 (fcells fs)) :
    Calls Tryz.prog 14 #[.agg #[.string s, .string r, .int .i64 m, .slice A n c]] w (RetQ w s r m fs) := by
  have HC := Lib.hid (fun (w1 : World) (hb : Below w.heap.size w w1) => copyFields_any A n c fs w1 hn (hx.below hb))
  subst hl
  clear hx hn
  go_enter Tryz.func14, Tryz.ntmps14
  go_wp2_with fail
  refine (HC.out _ (((Below.refl _ _).alloc (Nat.le_refl _) _).alloc (by rw [World.size_alloc]; omega) _)).mono ?_
  rintro e w1 ⟨A1, c1, rfl, hr1, hb1⟩
  obtain ⟨x0, x1, x2, x3⟩ := ((newFour (w := w) (.string s) (.string r) (.int .i64 m) (.slice A fs.length c) 24).below ((Below.refl _ _).alloc (Nat.le_refl _) _)).below hb1
  have y4 := (newFour (w := w.alloc (.cells #[.string s, .string r, .int .i64 m, .slice A fs.length c] 24)) (.string ⟨#[]⟩) (.string ⟨#[]⟩) (.int .i64 0) (.slice none 0 0) 24).below hb1
  have g4 : ∀ i, w1.frozen? ⟨w.heap.size + 1, i, none⟩ = false := fun i => by
    have := newFree hb1 i
    rwa [World.size_alloc] at this
  have k4 : w1.frozen? ⟨w.heap.size, 3, none⟩ = false := by
    rw [hb1.frozen (p := ⟨w.heap.size, 3, none⟩) (by simp only [World.size_alloc]; omega)]
    rw [frozen?_alloc_cells]
    exact newFour_free _ _ _
  rw [World.size_alloc] at y4
  obtain ⟨y0, y1, y2, y3⟩ := y4
  have g0 := g4 0
  have g1 := g4 1
  have g2 := g4 2
  have g3 := g4 3
  have HG4 := Lib.hid g4
  have HY4 := Lib.hid (show Four w1 (w.heap.size + 1) from ⟨⟨at_of y0, g0⟩, ⟨at_of y1, g1⟩, ⟨at_of y2, g2⟩, ⟨at_of y3, g3⟩⟩)
  have hB := below_then (b := (w.alloc (.cells #[.string s, .string r, .int .i64 m, .slice A fs.length c] 24)).alloc (.cells #[.string ⟨#[]⟩, .string ⟨#[]⟩, .int .i64 0, .slice none 0 0] 24)) (by simp only [World.size_alloc]; omega) (((Below.refl _ _).alloc (Nat.le_refl _) _).alloc (by rw [World.size_alloc]; omega) _) hb1
  have HB := Lib.hid hB
  have HR := Lib.hid hr1
  clear hB hb1 hr1 g4 HC
  go_wp2
  have hfour := (HY4.out.far (b := w.heap.size) (by omega) 3 (.slice A1 fs.length c1)).set4 (.string s) (.string r) (.int .i64 m) (.slice A1 fs.length c1)
  have hrow := (HR.out.far (b := w.heap.size) (i := 3) (by simp only [World.size_alloc]; omega) (.slice A1 fs.length c1)).set4 (b := w.heap.size + 1) (by simp only [World.size_alloc]; omega) (.string s) (.string r) (.int .i64 m) (.slice A1 fs.length c1)
  have hbel := below_set4 (HB.out.setCell (p := ⟨w.heap.size, 3, none⟩) (Nat.le_refl _) (.slice A1 fs.length c1)) (b := w.heap.size + 1) (by omega) (.string s) (.string r) (.int .i64 m) (.slice A1 fs.length c1)
  clear x0 x1 x2 x3 y0 y1 y2 y3 g0 g1 g2 g3 k4 HY4 HR HB
  generalize (((((w1.setCell ⟨w.heap.size, 3, none⟩ (.slice A1 fs.length c1)).setCell ⟨w.heap.size + 1, 0, none⟩ (.string s)).setCell ⟨w.heap.size + 1, 1, none⟩ (.string r)).setCell ⟨w.heap.size + 1, 2, none⟩ (.int .i64 m)).setCell ⟨w.heap.size + 1, 3, none⟩ (.slice A1 fs.length c1)) = U at *
  obtain ⟨d0, d1, d2, d3⟩ := hfour
  refine bodyPost_ret (v := .agg #[.string s, .string r, .int .i64 m, .slice A1 fs.length c1]) (by simp [results, Tryz.results14, go_sem, d0, d1, d2, d3]) rfl ?_
  exact ⟨A1, c1, rfl, hrow.mono (by simp only [World.size_alloc]; omega), hbel⟩


theorem without_low (l : List FD) : F.without l [⟨#[118, 105, 97]⟩] = F.without l [F.via3] := by
  unfold F.without
  apply List.filter_congr
  intro f _
  simp only [List.any_cons, List.any_nil, Bool.or_false]
  rw [F.is_fold (a := ⟨#[118, 105, 97]⟩) (b := F.via3) (by decide)]

end Go.Proofs.YtecopkcogobolaaGreatDoor
