/- The walks of the disk's List and SyncNames, and of New without files. Conditions: at most 2^30 names; what begin asks. -/
import Derived.Test.YtkempjcphpnocaaGreatDoorZ07
import Derived.Test.YtkempjcphpnocaaGreatDoorZ05
import Derived.Test.YtkempjcphpnocaaGreatDoorDiskQ
import Derived.Carry
namespace Go.Proofs.YtkempjcphpnocaaGreatDoor
open Go Go.RowKit Go.Maps

set_option maxHeartbeats 1000000 in
theorem dlist_any (B : Nat) (M : DM) (s : D.Dsk) (w : World) (h : DkAt B M s w) (ok : s.Ok) (hl : s.now.length ≤ 1073741824) :
    Calls Tryz.prog 14 #[.pointer (some ⟨M.d, 0, none⟩)] w (RetRow w 9 1 s.list.length (scells s.list)) := by
  have HD := Lib.hid h
  have HDW := Lib.hid (down_any B M s w h)
  obtain ⟨G, hG⟩ : ∃ G, s.list = G := ⟨_, rfl⟩
  have HG : Hid (G = if s.down then [] else s.now.map (·.1)) := Lib.hid hG.symm
  have hup := ok.upN
  rw [hG]
  clear h hG ok
  cases hd : s.down
  rotate_left
  · rw [hd] at HDW HG
    rw [if_pos rfl] at HG
    go_enter Tryz.func14, Tryz.ntmps14
    go_wp2_with fail
    refine HDW.out.mono ?_
    rintro e w1 ⟨rfl, hb1⟩
    go_wp2
    go_ret
    rw [HG.out]
    exact ⟨none, 0, rfl, Row.none_ _ _ _ _, hb1⟩
  rw [hd] at HDW HG
  rw [if_neg (by decide)] at HG
  have HKE := Lib.hid (fun u => keysD_any (some M.mN) u)
  go_enter Tryz.func14, Tryz.ntmps14
  go_wp2_with fail
  refine HDW.out.mono ?_
  rintro e w1 ⟨rfl, hb1⟩
  have HD1 := Lib.hid (HD.out.below hb1)
  have HB1 := Lib.hid hb1
  obtain ⟨y0, y1, y2, y3, y4, y5, y6, y7⟩ := HD1.out.cells
  clear hb1 HD y1 y2 y3 y4 y5 y6 y7 HDW
  go_wp2_with fail
  refine (HKE.out _).mono ?_
  rintro e w2 ⟨rfl, rfl⟩
  have hb2 : Below w1.heap.size w1 (w1.alloc (.cells #[.map (some M.mN)] 67)) := (Below.refl _ _).alloc (Nat.le_refl _) _
  have HSO := Lib.hid (sortedD_any M.fa s.now w1.heap.size M.mN (w1.alloc (.cells #[.map (some M.mN)] 67)) (by simp) ((Blk.new w1 _ _).cell 0 rfl) (HD1.out.below hb2).now hup hl)
  have HB2 := Lib.hid (below_then HB1.out.size HB1.out hb2)
  clear hb2 HB1 y0
  go_wp2_with fail
  refine HSO.out.mono ?_
  rintro e w3 ⟨A, c, rfl, hr, hb3⟩
  have HR := Lib.hid (hr.mono HB2.out.size)
  have HB3 := Lib.hid (below_then HB2.out.size HB2.out hb3)
  clear hr hb3 HSO HB2
  go_wp2
  go_ret
  rw [HG.out]
  exact ⟨A, c, by rw [List.length_map]; rfl, HR.out, HB3.out⟩
section
variable {B : Nat} {M : DM} {s : D.Dsk} {w w1 w2 : World} {k : Nat}
/-- Where the disk lies behind its names are safe. -/
def DM.safed (M : DM) (k : Nat) : DM := { M with mS := k, PA := none, pc := 0, pv := [] }
theorem DkAt.synced (h : DkAt B M s w) (hm : w1.ownsMap Tryz.prog 9 D.ptrR w.heap.size s.now.length (D.datum M.fa s.now)) (hb : Below w.heap.size w w1) :
    DkAt B (M.safed w.heap.size) { s with safe := s.now, pend := [] } ((w1.setCell ⟨M.d, 1, none⟩ (.map (some w.heap.size))).setCell ⟨M.d, 2, none⟩ (.slice none 0 0)) ∧
    Stepped M s w (M.safed w.heap.size) { s with safe := s.now, pend := [] } ((w1.setCell ⟨M.d, 1, none⟩ (.map (some w.heap.size))).setCell ⟨M.d, 2, none⟩ (.slice none 0 0)) := by
  have h1 := h.below hb
  have hT := h1.blk.tag
  have hg1 := grown_set w1 M.d 1 (.map (some w.heap.size))
  have hT2 : Tag (w1.setCell ⟨M.d, 1, none⟩ (.map (some w.heap.size))) M.d 71 := (h1.blk.set 1 _).tag
  have hg2 := grown_set (w1.setCell ⟨M.d, 1, none⟩ (.map (some w.heap.size))) M.d 2 (.slice none 0 0)
  have hg : w1.grownBy ((w1.setCell ⟨M.d, 1, none⟩ (.map (some w.heap.size))).setCell ⟨M.d, 2, none⟩ (.slice none 0 0)) (some M.d) := hg1.trans hg2
  have hb' : ∀ {k t}, Tag w1 k t → t ≠ 71 → some M.d ≠ some k := fun ht hn e => ht.ne hT hn (by simpa using e.symm)
  refine ⟨⟨?_, h1.now.kept hg (fun e => hT.map (ownsMap_tag h1.now) (by simpa using e.symm)), hm.kept hg (fun e => hT.map (ownsMap_tag hm) (by simpa using e.symm)), ?_, Row.none_ _ _ _ _, trivial, h1.fails.keptG hg (fun k hk => hb' (h1.fails.tag hk) (by decide)),
    fun no hn => ⟨(h1.files no hn).blk.keptG hg (hb' (h1.files no hn).blk.tag (by decide)), (h1.files no hn).row.keptG hg (fun k hk => hb' ((h1.files no hn).row.tag hk) (by decide)), (h1.files no hn).ge⟩, h1.apart, ⟨h.ge.1, h.ge.2.1, h.base⟩⟩, ?_⟩
  · exact (h1.blk.set 1 (.map (some w.heap.size))).set 2 (.slice none 0 0)
  · have := h.now.lt
    show M.mN ≠ w.heap.size
    omega
  · refine ⟨hg.os.trans hb.os, hg.tape.trans hb.tape, hg.output.trans hb.output, Nat.le_trans hb.size hg.size, fun i hi hn => (hg.block i (Nat.lt_of_lt_of_le hi hb.size) (fun e => hn (.inl (by simpa using e)))).trans (hb.block i hi), fun i hf => ?_, rfl⟩
    rcases hf with hf | hf | hf | hf | ⟨no, hn, hf⟩
    · exact .inl (.inl hf)
    · exact .inl (.inr (.inl hf))
    · exact .inr (Nat.le_of_eq hf.symm)
    · cases hf
    · exact .inl (.inr (.inr (.inr (.inr ⟨no, hn, hf⟩))))
end
set_option maxHeartbeats 2000000 in
theorem syncNames_any (B : Nat) (M : DM) (s : D.Dsk) (w : World) (h : DkAt B M s w) (hs : s.Sml) :
    Calls Tryz.prog 63 #[.pointer (some ⟨M.d, 0, none⟩)] w (RetStep B M s w s.syncNames) := by
  have HBG := Lib.hid (begin_any B M s none 0 0 [] w h ⟨hs.n0, hs.n⟩ hs.fails (by omega) rfl (fun x hx => by cases hx) (Rd.nil _ _ _) (fun h => absurd h (by decide)))
  obtain ⟨n, hbn⟩ := s.begin_as []
  obtain ⟨G, hG⟩ : ∃ G, s.syncNames = G := ⟨_, rfl⟩
  have HG : Hid (G = if (s.begin []).2 ≠ 0 then ({ s with n := n }, (s.begin []).2) else (({ s with n := n, safe := s.now, pend := [] } : D.Dsk), 0)) := Lib.hid (by
    rw [← hG]
    unfold D.Dsk.syncNames
    cases hb : s.begin [] with
    | mk s1 e =>
      rw [hb] at hbn
      dsimp only at hbn ⊢
      subst hbn
      rfl)
  rw [hG]
  rw [hbn] at HBG
  generalize (s.begin []).2 = e at *
  clear hG h hbn
  go_enter Tryz.func63, Tryz.ntmps63
  go_wp2_with fail
  refine HBG.out.mono ?_
  rintro e2 w2 ⟨rfl, hd2, hs2⟩
  have HD2 := Lib.hid hd2
  have HS2 := Lib.hid hs2
  clear hd2 hs2 HBG
  by_cases he : e = 0
  · subst he
    rw [if_neg (by simp)] at HG
    have HCL := Lib.hid (cloneM_any M s.now M.mN w2 HD2.out.now)
    obtain ⟨y0, y1, y2, y3, y4, y5, y6, y7⟩ := HD2.out.cells
    clear y1 y2 y3 y4 y5 y6 y7
    go_wp2_with fail
    refine HCL.out.mono ?_
    rintro e w3 ⟨rfl, hm3, hb3, _⟩
    obtain ⟨HD4, HS4⟩ := HD2.out.synced hm3 hb3
    have HD4 := Lib.hid HD4
    have HS4 := Lib.hid HS4
    have hD3 := HD2.out.below hb3
    have z1 : w3.cell? ⟨M.d, 1, none⟩ = some (.map (some M.mS)) := hD3.blk.cell 1 rfl
    have z2 : w3.cell? ⟨M.d, 2, none⟩ = some (.slice M.PA s.pend.length M.pc) := hD3.blk.cell 2 rfl
    have f1 := hD3.blk.free 1
    have f2 := hD3.blk.free 2
    clear hm3 hb3 HCL y0 hD3
    go_wp2
    go_ret
    exact ⟨by rw [HG.out] <;> rfl, _, by rw [HG.out]; exact HD4.out, by rw [HG.out]; exact HS2.out.trans HS4.out⟩
  · rw [if_pos he] at HG
    have heb : (e == 0) = false := beq_eq_false_iff_ne.2 he
    go_wp2
    go_ret
    exact ⟨by rw [HG.out] <;> rfl, M, by rw [HG.out]; exact HD2.out, by rw [HG.out]; exact HS2.out⟩
theorem cloneNil_any (w : World) : Calls Tryz.prog 26 #[.slice none 0 0] w (RetP w (.slice none 0 0)) := by
  have he := fun w => Lib.run_eql_slice_nil (P := Tryz.prog) w 51 _ none 0 0 (h := Tryz.underlying51)
  go_enter Tryz.func26, Tryz.ntmps26
  go_wp2
  go_ret
  exact ⟨rfl, rfl⟩
/-- A disk without files. -/
def D.none_ (room power : Int) : D.Dsk := ⟨[], [], [], [], [], room, [], power, 0⟩
theorem DkAt.new (w w1 : World) (room power : Int) (_hb : Below w.heap.size w w1) (a b d : Nat) (ha : w.heap.size ≤ a) (hB : w.heap.size ≤ b) (hd : w.heap.size ≤ d) (hab : a ≠ b)
    (hN : w1.ownsMap Tryz.prog 9 D.ptrR a 0 (.map [])) (hS : w1.ownsMap Tryz.prog 9 D.ptrR b 0 (.map []))
    (hk : Blk w1 d #[.map (some a), .map (some b), .slice none 0 0, .int .i64 0, .int .i64 room, .slice none 0 0, .int .i64 power, .int .i64 0] 71) :
    DkAt w.heap.size ⟨d, a, b, none, 0, [], fun _ => 0, fun _ => none, fun _ => 0, none, 0⟩ (D.none_ room power) w1 :=
  ⟨hk, hN, hS, hab, Row.none_ _ _ _ _, trivial, Row.none_ _ _ _ _, fun _ hn => absurd hn (Nat.not_lt_zero _), fun _ _ hi => absurd hi (Nat.not_lt_zero _), ⟨hd, ha, hB⟩⟩
/-- What New answers. -/
def RetNew (w : World) (room power : Int) (e : Ending) (w' : World) : Prop :=
  (¬ (0 ≤ room ∧ room ≤ 1073741824) ∧ e = .returned (.tuple #[.pointer none, .int .i64 131]) ∧ Below w.heap.size w w') ∨
  (0 ≤ room ∧ room ≤ 1073741824 ∧ ∃ M, e = .returned (.tuple #[.pointer (some ⟨M.d, 0, none⟩), .int .i64 0]) ∧ DkAt w.heap.size M (D.none_ room power) w' ∧ Below w.heap.size w w')
set_option maxRecDepth 100000 in
set_option maxHeartbeats 2000000 in
theorem newNil_any (room power : Int) (w : World) :
    Calls Tryz.prog 7 #[.slice none 0 0, .int .i64 room, .slice none 0 0, .int .i64 power] w (RetNew w room power) := by
  by_cases h0 : 0 ≤ room
  rotate_left
  · have h0i : room < 0 := by omega
    go_enter Tryz.func7, Tryz.ntmps7
    go_wp2
    go_ret2
    exact .inl ⟨fun h => by omega, rfl, Below.refl _ _⟩
  by_cases h1 : room ≤ 1073741824
  rotate_left
  · have h1i : room > 1073741824 := by omega
    have h0i : ¬ room < 0 := by omega
    go_enter Tryz.func7, Tryz.ntmps7
    go_wp2
    go_ret2
    exact .inl ⟨fun h => by omega, rfl, Below.refl _ _⟩
  have h0i : ¬ room < 0 := by omega
  have h1i : ¬ room > 1073741824 := by omega
  have hmm := @run_makeMap Tryz.prog
  have HCN := Lib.hid (fun u => cloneNil_any u)
  go_enter Tryz.func7, Tryz.ntmps7
  go_wp2_with fail
  clear hmm
  refine (HCN.out _).mono ?_
  rintro e w1 ⟨rfl, rfl⟩
  obtain ⟨M0, hM0⟩ : ∃ M0, w.alloc (.map #[] 0) = M0 := ⟨_, rfl⟩
  have hs0 : M0.heap.size = w.heap.size + 1 := by rw [← hM0]; exact World.size_alloc ..
  have HN := Lib.hid ((World.ownsMap_made w Tryz.prog 9 D.ptrR))
  rw [hM0] at HN ⊢
  have hb0 : Below w.heap.size w M0 := by rw [← hM0]; exact (Below.refl _ _).alloc (Nat.le_refl _) _
  obtain ⟨D0, hD0⟩ : ∃ D0, D0 = M0.alloc (.cells #[.map (some w.heap.size), .map none, .slice none 0 0, .int .i64 0, .int .i64 room, .slice none 0 0, .int .i64 power, .int .i64 0] 71) := ⟨_, rfl⟩
  have HK := Lib.hid (Blk.new M0 #[.map (some w.heap.size), .map none, .slice none 0 0, .int .i64 0, .int .i64 room, .slice none 0 0, .int .i64 power, .int .i64 0] 71)
  rw [← hD0, hs0] at HK
  have hbd : Below M0.heap.size M0 D0 := by rw [hD0]; exact (Below.refl _ _).alloc (Nat.le_refl _) _
  have HB1 := Lib.hid (below_then hb0.size hb0 hbd)
  have HN1 : Hid (D0.ownsMap Tryz.prog 9 D.ptrR w.heap.size 0 (.map [])) := Lib.hid (HN.out.kept (show M0.grownBy D0 none from ⟨hbd.os, hbd.tape, hbd.output, hbd.size, fun k hk _ => hbd.block k hk⟩) (by simp))
  have HCL := Lib.hid (cloneM_any ⟨0, 0, 0, none, 0, [], fun _ => 0, fun _ => none, fun _ => 0, none, 0⟩ [] w.heap.size D0 HN1.out)
  clear HN hM0
  go_upto_region 4 with fail
  simp only [← hD0]
  have z0 : D0.cell? ⟨w.heap.size + 1, 0, none⟩ = some (.map (some w.heap.size)) := HK.out.cell 0 rfl
  clear hD0
  go_wp2
  go_loopw [29] (fun i wr => i = .int .i64 0 ∧ D0 = wr) (fun _ _ => 0)
  case atStart => exact ⟨rfl, rfl⟩
  case round =>
  obtain ⟨rfl, rfl⟩ := hrel
  go_wp2_with fail
  clear z0
  refine HCL.out.mono ?_
  rintro e w2 ⟨rfl, hm2, hb2, hlt⟩
  have HK2 := Lib.hid (HK.out.below hb2)
  have z1 : w2.cell? ⟨w.heap.size + 1, 1, none⟩ = some (.map none) := HK2.out.cell 1 rfl
  have f1 := HK2.out.free 1
  have HB2 := Lib.hid (below_then HB1.out.size HB1.out hb2)
  have hge : w.heap.size < D0.heap.size := HN1.out.lt
  have hg1 := grown_set w2 (w.heap.size + 1) 1 (.map (some D0.heap.size))
  have hT := HK2.out.tag
  have HN2 := Lib.hid ((HN1.out.kept (show D0.grownBy w2 none from ⟨hb2.os, hb2.tape, hb2.output, hb2.size, fun k hk _ => hb2.block k hk⟩) (by simp)).kept hg1 (fun e => absurd e (by simp)))
  have HS2 := Lib.hid (hm2.kept hg1 (fun e => hT.map (ownsMap_tag hm2) (by simpa using e.symm)))
  have HK3 := Lib.hid (HK2.out.set 1 (.map (some D0.heap.size)))
  have HB3 := Lib.hid (below_set HB2.out (b := w.heap.size + 1) (by omega) 1 (.map (some D0.heap.size)))
  clear hm2 hb2 hg1 HN1 HCL HK HB1 hb0 hbd
  go_wp2
  go_ret2
  refine .inr ⟨h0, h1, _, rfl, DkAt.new w _ room power HB3.out w.heap.size D0.heap.size (w.heap.size + 1) (Nat.le_refl _) (Nat.le_of_lt hge) (by omega) (by omega) HN2.out HS2.out ?_, HB3.out⟩
  exact HK3.out
end Go.Proofs.YtkempjcphpnocaaGreatDoor
