/- The walks of SameRequest, CopyRequest and the document's Response. Conditions: lists of at most 2^40 elements; for Response a list of bulk at most 2^30, a name of at most 2^40 bytes, a number of 64 bits. -/
import Derived.Test.YtcoohkgamogmgaaDoorResp
import Derived.Test.YtcoohkgamogmgaaDoorRefWithout
import Derived.Test.YtcoohkgamogmgaaDoorSend
namespace Go.Proofs.YtcoohkgamogmgaaDoor
open Go.RowKit

set_option maxHeartbeats 400000 in
theorem sameRequest_any (m1 m2 : Int) (s1 s2 r1 r2 : ByteArray) (A B : Option Addr) (n m c d : Nat) (xs ys : List FD) (w : World) (hn : n ≤ 1099511627776) (hm : m ≤ 1099511627776) (hx : Rd w A n 2 (fcells xs)) (hy : Rd w B m 2 (fcells ys)) (hxl : xs.length = n) (hyl : ys.length = m) :
    Calls Tryd.prog 35 #[.agg #[.string s1, .string r1, .int .i64 m1, .slice A n c], .agg #[.string s2, .string r2, .int .i64 m2, .slice B m d]] w (RetB w (decide (s1 = s2) && decide (r1 = r2) && decide (m1 = m2) && decide (xs = ys))) := by
  have HS := Lib.hid (fun w' (hb : Below w.heap.size w w') => sameFields_any A B n m c d xs ys w' hn hm (hx.below hb) (hy.below hb) hxl hyl)
  obtain ⟨b4, hb4⟩ : ∃ b4, b4 = decide (xs = ys) := ⟨_, rfl⟩
  rw [← hb4] at HS ⊢
  clear hx hy hxl hyl hb4 hn hm
  rcases tf (decide (s1 = s2)) with h1 | h1
  · have e1 : (s1.toList == s2.toList) = true := by rw [beq_bytes, h1]
    rw [h1]
    clear h1
    rcases tf (decide (r1 = r2)) with h2 | h2
    · have e2 : (r1.toList == r2.toList) = true := by rw [beq_bytes, h2]
      rw [h2]
      clear h2
      rcases tf (decide (m1 = m2)) with h3 | h3
      · have e3 : (m1 == m2) = true := by rw [of_decide_eq_true h3]; simp
        rw [h3]
        clear h3
        go_enter Tryd.func35, Tryd.ntmps35
        go_wp2_with fail
        refine (HS.out _ (((Below.refl _ _).alloc (Nat.le_refl _) _).alloc (by rw [World.size_alloc]; omega) _)).mono ?_
        rintro e w1 ⟨rfl, hb1⟩
        go_wp2
        go_ret
        exact ⟨ret_bool (by simp), below_then (by simp; omega) (((Below.refl _ _).alloc (Nat.le_refl _) _).alloc (by rw [World.size_alloc]; omega) _) hb1⟩
      · have e3 : (m1 == m2) = false := by simpa using of_decide_eq_false h3
        rw [h3]
        clear h3
        go_enter Tryd.func35, Tryd.ntmps35
        go_wp2
        go_ret
        exact ⟨ret_bool (by simp), (((Below.refl _ _).alloc (Nat.le_refl _) _).alloc (by rw [World.size_alloc]; omega) _)⟩
    · have e2 : (r1.toList == r2.toList) = false := by rw [beq_bytes, h2]
      rw [h2]
      clear h2
      go_enter Tryd.func35, Tryd.ntmps35
      go_wp2
      go_ret
      exact ⟨ret_bool (by simp), (((Below.refl _ _).alloc (Nat.le_refl _) _).alloc (by rw [World.size_alloc]; omega) _)⟩
  · have e1 : (s1.toList == s2.toList) = false := by rw [beq_bytes, h1]
    rw [h1]
    clear h1
    go_enter Tryd.func35, Tryd.ntmps35
    go_wp2
    go_ret
    exact ⟨ret_bool (by simp), (((Below.refl _ _).alloc (Nat.le_refl _) _).alloc (by rw [World.size_alloc]; omega) _)⟩


set_option maxHeartbeats 400000 in
theorem copyRequest_any (m : Int) (s r : ByteArray) (A : Option Addr) (n c : Nat) (fs : List FD) (w : World) (hl : fs.length = n) (hn : n ≤ 1099511627776) (hx : Rd w A n 2 (fcells fs)) :
    Calls Tryd.prog 32 #[.agg #[.string s, .string r, .int .i64 m, .slice A n c]] w (RetQ w s r m fs) := by
  have HC := Lib.hid (fun (w1 : World) (hb : Below w.heap.size w w1) => copyFields_any A n c fs w1 hn (hx.below hb))
  subst hl
  clear hx hn
  go_enter Tryd.func32, Tryd.ntmps32
  go_wp2_with fail
  refine (HC.out _ (((Below.refl _ _).alloc (Nat.le_refl _) _).alloc (by rw [World.size_alloc]; omega) _)).mono ?_
  rintro e w1 ⟨A1, c1, rfl, hr1, hb1⟩
  obtain ⟨x0, x1, x2, x3⟩ := ((newFour (w := w) (.string s) (.string r) (.int .i64 m) (.slice A fs.length c) 50).below ((Below.refl _ _).alloc (Nat.le_refl _) _)).below hb1
  have y4 := (newFour (w := w.alloc (.cells #[.string s, .string r, .int .i64 m, .slice A fs.length c] 50)) (.string ⟨#[]⟩) (.string ⟨#[]⟩) (.int .i64 0) (.slice none 0 0) 50).below hb1
  have g4 : ∀ i, w1.frozen? ⟨w.heap.size + 1, i, none⟩ = false := fun i => by
    have := newFree hb1 i
    rwa [World.size_alloc] at this
  have k4 : w1.frozen? ⟨w.heap.size, 3, none⟩ = false := by
    rw [hb1.frozen (p := ⟨w.heap.size, 3, none⟩) (by simp only [World.size_alloc]; omega)]
    rw [frozen?_alloc_cells]
    exact newFour_free _ _ _
  rw [World.size_alloc] at y4
  obtain ⟨y0, y1, y2, y3⟩ := y4
  have g0 := g4 0
  have g1 := g4 1
  have g2 := g4 2
  have g3 := g4 3
  have HG4 := Lib.hid g4
  have HY4 := Lib.hid (show Four w1 (w.heap.size + 1) from ⟨⟨at_of y0, g0⟩, ⟨at_of y1, g1⟩, ⟨at_of y2, g2⟩, ⟨at_of y3, g3⟩⟩)
  have hB := below_then (b := (w.alloc (.cells #[.string s, .string r, .int .i64 m, .slice A fs.length c] 50)).alloc (.cells #[.string ⟨#[]⟩, .string ⟨#[]⟩, .int .i64 0, .slice none 0 0] 50)) (by simp only [World.size_alloc]; omega) (((Below.refl _ _).alloc (Nat.le_refl _) _).alloc (by rw [World.size_alloc]; omega) _) hb1
  have HB := Lib.hid hB
  have HR := Lib.hid hr1
  clear hB hb1 hr1 g4 HC
  go_wp2
  have hfour := (HY4.out.far (b := w.heap.size) (by omega) 3 (.slice A1 fs.length c1)).set4 (.string s) (.string r) (.int .i64 m) (.slice A1 fs.length c1)
  have hrow := (HR.out.far (b := w.heap.size) (i := 3) (by simp only [World.size_alloc]; omega) (.slice A1 fs.length c1)).set4 (b := w.heap.size + 1) (by simp only [World.size_alloc]; omega) (.string s) (.string r) (.int .i64 m) (.slice A1 fs.length c1)
  have hbel := below_set4 (HB.out.setCell (p := ⟨w.heap.size, 3, none⟩) (Nat.le_refl _) (.slice A1 fs.length c1)) (b := w.heap.size + 1) (by omega) (.string s) (.string r) (.int .i64 m) (.slice A1 fs.length c1)
  clear x0 x1 x2 x3 y0 y1 y2 y3 g0 g1 g2 g3 k4 HY4 HR HB
  generalize (((((w1.setCell ⟨w.heap.size, 3, none⟩ (.slice A1 fs.length c1)).setCell ⟨w.heap.size + 1, 0, none⟩ (.string s)).setCell ⟨w.heap.size + 1, 1, none⟩ (.string r)).setCell ⟨w.heap.size + 1, 2, none⟩ (.int .i64 m)).setCell ⟨w.heap.size + 1, 3, none⟩ (.slice A1 fs.length c1)) = U at *
  obtain ⟨d0, d1, d2, d3⟩ := hfour
  refine bodyPost_ret (v := .agg #[.string s, .string r, .int .i64 m, .slice A1 fs.length c1]) (by simp [results, Tryd.results32, go_sem, d0, d1, d2, d3]) rfl ?_
  exact ⟨A1, c1, rfl, hrow.mono (by simp only [World.size_alloc]; omega), hbel⟩


theorem without_low (l : List FD) : F.without l [⟨#[118, 105, 97]⟩] = F.without l [F.via3] := by
  unfold F.without
  apply List.filter_congr
  intro f _
  simp only [List.any_cons, List.any_nil, Bool.or_false]
  rw [F.is_fold (a := ⟨#[118, 105, 97]⟩) (b := F.via3) (by decide)]

set_option maxRecDepth 100000 in
set_option maxHeartbeats 1000000 in
theorem refResponse_any (s m : Int) (r via : ByteArray) (A : Option Addr) (n c : Nat) (fs : List FD) (w : World) (hl : fs.length = n) (hf : F.bulk fs ≤ 1073741824) (hx : Rd w A n 2 (fcells fs))
    (h0 : -9223372036854775808 ≤ m) (h1 : m ≤ 9223372036854775807) (h2 : via.size ≤ 1099511627776) :
    Calls Tryd.prog 37 #[.agg #[.int .i64 s, .string r, .int .i64 m, .slice A n c], .string via] w (RetR w s r 1 (F.put (F.strip fs) F.via3 (F.viaOf fs m via))) := by
  have hbs := F.bulk_strip fs
  have hsl := F.len_le_bulk (F.strip fs)
  have hwl : (F.without (F.strip fs) [F.via3]).length ≤ 1073741824 := by
    have := List.length_filter_le (fun f => !([F.via3].any fun n => F.is f n)) (F.strip fs)
    unfold F.without
    omega
  have HS := Lib.hid (fun (w1 : World) (hb : Below w.heap.size w w1) => refStrip_any A n c fs w1 hl hf (hx.below hb))
  rw [← F.strip_eq] at HS
  have HW := Lib.hid (fun (A1 : Option Addr) (c1 : Nat) (X : Option Addr) (d : Nat) (w1 : World) (hx1 : Rd w1 A1 (F.strip fs).length 2 (fcells (F.strip fs))) (hX : Rd w1 X 1 1 (scells [⟨#[118, 105, 97]⟩])) =>
    refWithout_any A1 (F.strip fs).length c1 (F.strip fs) X 1 d [⟨#[118, 105, 97]⟩] w1 (by omega) rfl (small_of_bulk (by omega)) hx1 (by decide) rfl (fun s hs => by rw [List.mem_singleton.1 hs]; decide) hX)
  rw [without_low] at HW
  have HV := Lib.hid (fun (w1 : World) (hb : Below w.heap.size w w1) => via_any A n c fs m via w1 hl (by omega) (hx.below hb) h0 h1 h2)
  have hput : F.put (F.strip fs) F.via3 (F.viaOf fs m via) = F.without (F.strip fs) [F.via3] ++ [(F.via3, F.viaOf fs m via)] := rfl
  obtain ⟨P, hP⟩ : ∃ P, P = F.put (F.strip fs) F.via3 (F.viaOf fs m via) := ⟨_, rfl⟩
  rw [← hP] at hput ⊢
  obtain ⟨W, hW⟩ : ∃ W, W = F.without (F.strip fs) [F.via3] := ⟨_, rfl⟩
  rw [← hW] at HW hput hwl
  obtain ⟨T, hT⟩ : ∃ T, T = F.strip fs := ⟨_, rfl⟩
  rw [← hT] at HS HW
  obtain ⟨V, hV⟩ : ∃ V, V = F.viaOf fs m via := ⟨_, rfl⟩
  rw [← hV] at HV hput
  obtain ⟨N, hN⟩ : ∃ N, N = T.length := ⟨_, rfl⟩
  rw [← hN] at HS HW
  obtain ⟨M, hM⟩ : ∃ M, M = W.length := ⟨_, rfl⟩
  rw [← hM] at HW hwl
  have hPl : P.length = M + 1 := by rw [hput, List.length_append, hM]; rfl
  have HP := Lib.hid hput
  have HPL := Lib.hid hPl
  have HM := Lib.hid hM
  clear hP hW hT hV hN hM hput hPl hl hf hx h0 h1 hbs hsl
  go_enter Tryd.func37, Tryd.ntmps37
  go_wp2_with fail
  have HT2 := Lib.hid (Two.start w #[.int .i64 s, .string r, .int .i64 m, .slice A n c] 28 #[.int .i64 0, .string ⟨#[]⟩, .int .i64 0, .slice none 0 0] 28)
  generalize (w.alloc (.cells #[.int .i64 s, .string r, .int .i64 m, .slice A n c] 28)).alloc (.cells #[.int .i64 0, .string ⟨#[]⟩, .int .i64 0, .slice none 0 0] 28) = w2 at *
  have hz2 := HT2.out.size
  refine (HS.out _ HT2.out.2.2).mono ?_
  rintro e w3 ⟨A1, c1, rfl, hr1, hb1⟩
  have HT3 := Lib.hid (HT2.out.below hb1)
  have hr1d := hr1.rd
  have hz3 := hb1.size
  clear HT2 hb1 hr1 HS
  go_wp2_with fail
  refine (HW.out A1 c1 _ _ _ (hr1d.alloc _) (newS w3 _)).mono ?_
  rintro e w4 ⟨A2, c2, rfl, hr2, hb2⟩
  have HT4 := Lib.hid ((HT3.out.alloc _).below hb2)
  have hz4 := hb2.size
  rw [World.size_alloc] at hz4
  have hr2 := hr2.mono (show w2.heap.size ≤ (w3.alloc (.cells #[.string ⟨#[118, 105, 97]⟩] 9)).heap.size by rw [World.size_alloc]; omega)
  have x2 := HT4.out.1.cell 2 (v := .int .i64 m) rfl
  have x3 := HT4.out.1.cell 3 (v := .slice A n c) rfl
  clear hb2 hr1d HW HT3
  go_wp2_with fail
  refine (HV.out _ HT4.out.2.2).mono ?_
  rintro e w5 ⟨rfl, hb5⟩
  have HT5 := Lib.hid ((HT4.out.below hb5).alloc (.cells #[.string F.via3, .string V] 67))
  have hz5 := hb5.size
  have hr5 := (hr2.below hb5).alloc (.cells #[.string F.via3, .string V] 67)
  have FACT := Lib.hid (fun A3 c3 w6 (ha : App _ w6 A2 c2 A3 c3) => (HT5.out.app ha hr5 hz2 (by rw [World.size_alloc]; omega)))
  have FACT1 := Lib.hid (fun A3 c3 w6 (ha : App _ w6 A2 c2 A3 c3) => (FACT.out A3 c3 w6 ha).1.cell 0 (v := .int .i64 s) rfl)
  have FACT2 := Lib.hid (fun A3 c3 w6 (ha : App _ w6 A2 c2 A3 c3) => (FACT.out A3 c3 w6 ha).1.cell 1 (v := .string r) rfl)
  have FACT3 := Lib.hid (fun A3 c3 w6 (ha : App _ w6 A2 c2 A3 c3) => (FACT.out A3 c3 w6 ha).2.1.cells4)
  have FACT4 := Lib.hid (fun A3 c3 w6 (ha : App _ w6 A2 c2 A3 c3) => (FACT.out A3 c3 w6 ha).2.1.free4)
  clear hb5 hr2 HT4 HT5 HV x2 x3
  go_wp2_with (at_builtin; refine appF _ rfl (.tmp 11) (.tmp 19) rfl w2.heap.size A2 M c2 W rfl hr5 _ 1 1 [(F.via3, V)] rfl (newF _ _) (by omega) (by rw [World.size_alloc]; omega) ?_; intro A3 c3 w6 hr3 ha3; have x0 := FACT1.out _ _ _ ha3; have x1 := FACT2.out _ _ _ ha3; obtain ⟨o0, o1, o2, o3⟩ := FACT3.out _ _ _ ha3; obtain ⟨g0, g1, g2, g3⟩ := FACT4.out _ _ _ ha3)
  have hfin := (FACT.out _ _ _ ha3).shut rfl hr3 (by omega) (by decide) (.int .i64 s) (.string r) (.int .i64 1) (.slice A3 (M + 1) c3)
  clear x0 x1 o0 o1 o2 o3 g0 g1 g2 g3 hr5 FACT FACT1 FACT2 FACT3 FACT4 hr3 ha3
  generalize ((((w6.setCell ⟨w.heap.size + 1, 0, none⟩ (.int .i64 s)).setCell ⟨w.heap.size + 1, 1, none⟩ (.string r)).setCell ⟨w.heap.size + 1, 2, none⟩ (.int .i64 1)).setCell ⟨w.heap.size + 1, 3, none⟩ (.slice A3 (M + 1) c3)) = U at *
  obtain ⟨⟨d0, d1, d2, d3⟩, hrow, hbel⟩ := hfin U rfl
  refine bodyPost_ret (v := .agg #[.int .i64 s, .string r, .int .i64 1, .slice A3 (M + 1) c3]) (by simp [results, Tryd.results37, go_sem, d0, d1, d2, d3]) rfl ?_
  refine ⟨A3, c3, by rw [HPL.out], ?_, hbel⟩
  rw [HPL.out, HP.out]
  exact hrow
end Go.Proofs.YtcoohkgamogmgaaDoor