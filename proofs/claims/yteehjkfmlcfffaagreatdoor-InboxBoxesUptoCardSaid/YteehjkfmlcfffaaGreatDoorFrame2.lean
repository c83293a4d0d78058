/- The walks of frame.rule, frame.OfRequest and of the document's. Conditions: fields of bulk at most 2^30. -/
import Derived.Test.YteehjkfmlcfffaaGreatDoorFrameA
import Derived.Test.YteehjkfmlcfffaaGreatDoorRowA
import Derived.Test.YteehjkfmlcfffaaGreatDoorStripA
import Derived.Deep.QuietTactic
import Derived.BigQuiet
namespace Go.Proofs.YteehjkfmlcfffaaGreatDoor
open Go.RowKit

/-- How a body ends, answered. -/
def RetFR (w : World) (r : F.FR) (e : Ending) (w' : World) : Prop := e = .returned (.tuple #[.agg #[.int .i64 r.k, .int .i64 r.n], .int .i64 r.e]) ∧ Below w.heap.size w w'
namespace F
theorem frame_both {m : Int} {fs : List FD} {o : Int} (h1 : values fs teN ≠ []) (h2 : values fs clN ≠ []) : frame m fs o = ⟨0, 0, 61⟩ := if_pos ⟨h1, h2⟩
theorem frame_coding {m : Int} {fs : List FD} {o : Int} (h1 : values fs teN ≠ []) (h2 : values fs clN = []) (h3 : m = 0 ∨ tokens fs teN ≠ [chW]) : frame m fs o = ⟨0, 0, 62⟩ := by
  unfold frame
  rw [if_neg (fun h => h.2 h2), if_pos h1, if_pos h3]
theorem frame_coded {m : Int} {fs : List FD} {o : Int} (h1 : values fs teN ≠ []) (h2 : values fs clN = []) (h3 : ¬ (m = 0 ∨ tokens fs teN ≠ [chW])) : frame m fs o = ⟨2, 0, 0⟩ := by
  unfold frame
  rw [if_neg (fun h => h.2 h2), if_pos h1, if_neg h3]
theorem frame_other {m : Int} {fs : List FD} {o : Int} (h1 : values fs teN = []) (h2 : values fs clN = []) : frame m fs o = ⟨o, 0, 0⟩ := by
  unfold frame
  rw [if_neg (fun h => h.1 h1), if_neg (fun h => h h1), if_pos h2]
theorem frame_bad {m : Int} {fs : List FD} {o : Int} (h1 : values fs teN = []) (h2 : values fs clN ≠ []) (h3 : (lens (els (values fs clN))).2 ≠ 0) : frame m fs o = ⟨0, 0, (lens (els (values fs clN))).2⟩ := by
  unfold frame
  rw [if_neg (fun h => h.1 h1), if_neg (fun h => h h1), if_neg h2, if_pos h3]
theorem frame_len {m : Int} {fs : List FD} {o : Int} (h1 : values fs teN = []) (h2 : values fs clN ≠ []) (h3 : (lens (els (values fs clN))).2 = 0) : frame m fs o = ⟨1, (lens (els (values fs clN))).1, 0⟩ := by
  unfold frame
  rw [if_neg (fun h => h.1 h1), if_neg (fun h => h h1), if_neg h2, if_neg (fun h => h h3)]
end F
/-- slices.Equal of some texts and of one. -/
theorem equal1_any (A : Option Addr) (n c : Nat) (xs : List ByteArray) (x : ByteArray) (g d : Nat) (w : World) (hn : n ≤ 1099511627776) (hl : xs.length = n) (hx : Rd w A n 1 (scells xs)) (hg : w.cell? ⟨g, 0, none⟩ = some (.string x)) :
    Calls Tryz.prog 230 #[.slice A n c, .slice (some ⟨g, 0, none⟩) 1 d] w (RetB w (decide (xs = [x]))) := by
  by_cases h1 : n = 1
  · subst h1
    obtain ⟨b, o, rfl, _, hc⟩ := hx.str (k := 0) (by omega) hl
    match xs, hl with
    | [y], _ =>
      refine (Tryz.slices_Equal_string b o 1 c g 0 1 d [y] [x] w (Nat.le_refl _) (Nat.le_refl _) (by decide) (by decide) (fun j hj => ?_) (fun j hj => ?_)).mono ?_
      · match j, hj with
        | 0, _ => exact hc
      · match j, hj with
        | 0, _ => exact hg
      rintro e w' ⟨rfl, q, rfl⟩
      exact ⟨rfl, below_drewN (Below.refl _ _) q⟩
  · refine (Tryz.slices_Equal_string_lens A (some ⟨g, 0, none⟩) n c 1 d w h1).mono ?_
    rintro e w' ⟨rfl, rfl⟩
    refine ⟨?_, Below.refl _ _⟩
    have : ¬ xs = [x] := fun h => h1 (by rw [← hl, h]; rfl)
    rw [decide_eq_false this]
set_option maxHeartbeats 4000000 in
set_option maxRecDepth 100000 in
theorem rule_any (m : Int) (A : Option Addr) (c : Nat) (fs : List FD) (other : Int) (w : World) (hf : F.bulk fs ≤ 1073741824) (hx : Rd w A fs.length 2 (fcells fs)) :
    Calls Tryz.prog 154 #[.int .i64 m, .slice A fs.length c, .int .i64 other] w (RetFR w (F.frame m fs other)) := by
  have hlb := F.len_le_bulk fs
  have hsm := small_of_bulk hf
  have htk := toks_sum fs F.teN
  have HG := Lib.hid (fun (u : World) (hu : Below w.heap.size w u) => get_any A fs.length c fs F.teN u rfl (by omega) (by decide) (hx.below hu))
  have HV := Lib.hid (fun (u : World) (hu : Below w.heap.size w u) => values_any A fs.length c fs F.clN u (by omega) rfl hsm (by decide) (hx.below hu))
  have HT := Lib.hid (fun (u : World) (hu : Below w.heap.size w u) => tokens_any A fs.length c fs F.teN u (by omega) rfl hsm (by decide) (by omega) (hx.below hu))
  have hvs : ∀ v ∈ F.values fs F.clN, v.size ≤ 1099511627776 := values_small hsm
  have hhas : F.has fs F.teN = !(F.values fs F.teN).isEmpty := rfl
  have hvl := F.values_le fs F.clN
  have hvl2 : (F.values fs F.clN).length ≤ 1099511627776 := by omega
  have htl2 : (F.tokens fs F.teN).length ≤ 1099511627776 := by omega
  have HFB := Lib.hid (fun h1 h2 => F.frame_both (m := m) (fs := fs) (o := other) h1 h2)
  have HFC := Lib.hid (fun h1 h2 h3 => F.frame_coding (m := m) (fs := fs) (o := other) h1 h2 h3)
  have HFD := Lib.hid (fun h1 h2 h3 => F.frame_coded (m := m) (fs := fs) (o := other) h1 h2 h3)
  have HFO := Lib.hid (fun h1 h2 => F.frame_other (m := m) (fs := fs) (o := other) h1 h2)
  have HFE := Lib.hid (fun h1 h2 h3 => F.frame_bad (m := m) (fs := fs) (o := other) h1 h2 h3)
  have HFL := Lib.hid (fun h1 h2 h3 => F.frame_len (m := m) (fs := fs) (o := other) h1 h2 h3)
  generalize F.joined fs F.teN = JN at *
  generalize F.has fs F.teN = HS at *
  generalize F.values fs F.teN = VT at *
  generalize F.values fs F.clN = VC at *
  generalize F.tokens fs F.teN = TK at *
  generalize F.frame m fs other = R at *
  unfold F.teN at HG HT
  unfold F.clN at HV
  have hb0 := (Below.refl w.heap.size w).alloc (Nat.le_refl _) (.cells #[.int .i64 0, .int .i64 0] 130)
  have HB0 := Lib.hid hb0
  have HK0 := Lib.hid (Blk.new w #[.int .i64 0, .int .i64 0] 130)
  have HVS := Lib.hid hvs
  clear hx hb0 hvl htk hlb hsm hvs
  by_cases h1 : VT = []
  · have hh : HS = false := by rw [hhas, h1]; rfl
    rw [hh] at HG
    by_cases h2 : VC = []
    · have HF := Lib.hid (HFO.out h1 h2)
      subst h1 h2
      clear hhas hh HT HVS HFB HFC HFD HFO HFE HFL
      go_enter Tryz.func154, Tryz.ntmps154
      go_wp2_with fail
      refine (HG.out _ HB0.out).mono ?_
      rintro e w1 ⟨rfl, hb1⟩
      have HB1 := Lib.hid (below_then HB0.out.size HB0.out hb1)
      have HK1 := Lib.hid (HK0.out.below hb1)
      clear hb1 HB0 HK0 HG
      go_wp2_with fail
      refine (HV.out _ HB1.out).mono ?_
      rintro e w2 ⟨A2, c2, rfl, hr2, hb2⟩
      have HB2 := Lib.hid (below_then HB1.out.size HB1.out hb2)
      have HK2 := Lib.hid (HK1.out.below hb2)
      clear hb2 HB1 HK1 HV hr2
      obtain ⟨x0, x1⟩ := HK2.out.cells2
      have f0 := HK2.out.free 0
      have f1 := HK2.out.free 1
      have hk9 := (HK2.out.set 0 (.int .i64 other)).set 1 (.int .i64 0)
      obtain ⟨z0, z1⟩ := (show Blk _ _ #[.int .i64 other, .int .i64 0] _ from hk9).cells2
      have HB9 := Lib.hid (below_set (below_set HB2.out (Nat.le_refl _) 0 (.int .i64 other)) (Nat.le_refl _) 1 (.int .i64 0))
      clear hk9 HK2 HB2 
      go_wp2
      refine bodyPost_ret (v := .tuple #[.agg #[.int .i64 other, .int .i64 0], .int .i64 0]) (by simp [results, Tryz.results154, go_sem, z0, z1]) rfl ?_
      exact ⟨by rw [HF.out], HB9.out⟩
    · have hn0 : VC.length ≠ 0 := fun h => h2 (List.eq_nil_of_length_eq_zero h)
      obtain ⟨N, hN⟩ : ∃ N, VC.length = N := ⟨_, rfl⟩
      have HLN := Lib.hid (fun (A2 : Option Addr) (c2 : Nat) (u : World) (hr : Rd u A2 N 1 (scells VC)) => frameLength_any A2 N c2 VC u (by omega) hN HVS.out hr)
      have HE := Lib.hid (HFE.out h1 h2)
      have HL := Lib.hid (HFL.out h1 h2)
      rw [hN] at HV hn0
      have hn1 : 0 < N := by omega
      have hni : (0 : Int) < (N : Int) := by omega
      have hnj : ¬ (N : Int) = 0 := by omega
      subst h1
      clear hhas hh HT HFB HFC HFD HFO HFE HFL hN h2 hvl2
      go_enter Tryz.func154, Tryz.ntmps154
      go_wp2_with fail
      refine (HG.out _ HB0.out).mono ?_
      rintro e w1 ⟨rfl, hb1⟩
      have HB1 := Lib.hid (below_then HB0.out.size HB0.out hb1)
      have HK1 := Lib.hid (HK0.out.below hb1)
      clear hb1 HB0 HK0 HG
      go_wp2_with fail
      refine (HV.out _ HB1.out).mono ?_
      rintro e w2 ⟨A2, c2, rfl, hr2, hb2⟩
      have HB2 := Lib.hid (below_then HB1.out.size HB1.out hb2)
      have HK2 := Lib.hid (HK1.out.below hb2)
      have HR2 := Lib.hid hr2.rd
      clear hb2 HB1 HK1 HV hr2
      have HL2 := Lib.hid (HLN.out A2 c2 w2 HR2.out)
      clear HLN
      obtain ⟨Q, hQ⟩ : ∃ Q, F.lens (F.els VC) = Q := ⟨_, rfl⟩
      rw [hQ] at HL2 HE HL
      clear hQ
      obtain ⟨z, code⟩ := Q
      go_wp2_with fail
      refine (HL2.out).mono ?_
      rintro e w3 ⟨rfl, hb3⟩
      have HB3 := Lib.hid (below_then HB2.out.size HB2.out hb3)
      have HK3 := Lib.hid (HK2.out.below hb3)
      clear hb3 HB2 HK2 HL2 HR2
      by_cases hc : code = 0
      · subst hc
        have HF := Lib.hid (HL.out rfl)
        clear HE HL
        obtain ⟨x0, x1⟩ := HK3.out.cells2
        have f0 := HK3.out.free 0
        have f1 := HK3.out.free 1
        have hk9 := (HK3.out.set 0 (.int .i64 1)).set 1 (.int .i64 z)
        obtain ⟨z0, z1⟩ := (show Blk _ _ #[.int .i64 1, .int .i64 z] _ from hk9).cells2
        have HB9 := Lib.hid (below_set (below_set HB3.out (Nat.le_refl _) 0 (.int .i64 1)) (Nat.le_refl _) 1 (.int .i64 z))
        clear hk9 HK3 HB3 
        go_wp2
        refine bodyPost_ret (v := .tuple #[.agg #[.int .i64 1, .int .i64 z], .int .i64 0]) (by simp [results, Tryz.results154, go_sem, z0, z1]) rfl ?_
        exact ⟨by rw [HF.out], HB9.out⟩
      · have HF := Lib.hid (HE.out hc)
        have hcb : (code != 0) = true := by simpa using hc
        clear HE HL hc
        obtain ⟨x0, x1⟩ := HK3.out.cells2
        have f0 := HK3.out.free 0
        have f1 := HK3.out.free 1
        have hk9 := (HK3.out.set 0 (.int .i64 0)).set 1 (.int .i64 0)
        obtain ⟨z0, z1⟩ := (show Blk _ _ #[.int .i64 0, .int .i64 0] _ from hk9).cells2
        have HB9 := Lib.hid (below_set (below_set HB3.out (Nat.le_refl _) 0 (.int .i64 0)) (Nat.le_refl _) 1 (.int .i64 0))
        clear hk9 HK3 HB3 
        go_wp2
        refine bodyPost_ret (v := .tuple #[.agg #[.int .i64 0, .int .i64 0], .int .i64 code]) (by simp [results, Tryz.results154, go_sem, z0, z1]) rfl ?_
        exact ⟨by rw [HF.out], HB9.out⟩
  · have hh : HS = true := by
      rw [hhas]
      cases VT with
      | nil => exact absurd rfl h1
      | cons => rfl
    rw [hh] at HG
    by_cases h2 : VC = []
    · by_cases h3 : m = 0
      · have HF := Lib.hid (HFC.out h1 h2 (.inl h3))
        subst h2 h3
        clear hhas hh HT HVS HFB HFC HFD HFO HFE HFL h1
        go_enter Tryz.func154, Tryz.ntmps154
        go_wp2_with fail
        refine (HG.out _ HB0.out).mono ?_
        rintro e w1 ⟨rfl, hb1⟩
        have HB1 := Lib.hid (below_then HB0.out.size HB0.out hb1)
        have HK1 := Lib.hid (HK0.out.below hb1)
        clear hb1 HB0 HK0 HG
        go_wp2_with fail
        refine (HV.out _ HB1.out).mono ?_
        rintro e w2 ⟨A2, c2, rfl, hr2, hb2⟩
        have HB2 := Lib.hid (below_then HB1.out.size HB1.out hb2)
        have HK2 := Lib.hid (HK1.out.below hb2)
        clear hb2 HB1 HK1 HV hr2
        obtain ⟨x0, x1⟩ := HK2.out.cells2
        have f0 := HK2.out.free 0
        have f1 := HK2.out.free 1
        have hk9 := (HK2.out.set 0 (.int .i64 0)).set 1 (.int .i64 0)
        obtain ⟨z0, z1⟩ := (show Blk _ _ #[.int .i64 0, .int .i64 0] _ from hk9).cells2
        have HB9 := Lib.hid (below_set (below_set HB2.out (Nat.le_refl _) 0 (.int .i64 0)) (Nat.le_refl _) 1 (.int .i64 0))
        clear hk9 HK2 HB2 
        go_wp2
        refine bodyPost_ret (v := .tuple #[.agg #[.int .i64 0, .int .i64 0], .int .i64 62]) (by simp [results, Tryz.results154, go_sem, z0, z1]) rfl ?_
        exact ⟨by rw [HF.out], HB9.out⟩
      · have HC := Lib.hid (fun h => HFC.out h1 h2 (.inr h))
        have HD := Lib.hid (fun h => HFD.out h1 h2 (by rintro (h4 | h4); exact h3 h4; exact h4 h))
        have h3b : (m == 0) = false := beq_eq_false_iff_ne.2 h3
        obtain ⟨N, hN⟩ : ∃ N, TK.length = N := ⟨_, rfl⟩
        have HEQ := Lib.hid (fun (A3 : Option Addr) (c3 : Nat) (u : World) (hr : Rd u A3 N 1 (scells TK)) => equal1_any A3 N c3 TK F.chW u.heap.size 1 (u.alloc (.cells #[.string F.chW] 9)) (by omega) hN (hr.alloc _) ((Blk.new u #[.string F.chW] 9).cell 0 rfl))
        have hdec : ∀ b, decide (TK = [F.chW]) = b → R = if b = true then ⟨2, 0, 0⟩ else ⟨0, 0, 62⟩ := fun b hb => by
          cases b
          · exact HC.out (of_decide_eq_false hb)
          · exact HD.out (of_decide_eq_true hb)
        have HDC := Lib.hid hdec
        rw [hN] at HT
        unfold F.chW at HEQ HDC
        subst h2
        clear hhas hh HVS HFB HFC HFD HFO HFE HFL hN hdec HC HD h1
        go_enter Tryz.func154, Tryz.ntmps154
        go_wp2_with fail
        refine (HG.out _ HB0.out).mono ?_
        rintro e w1 ⟨rfl, hb1⟩
        have HB1 := Lib.hid (below_then HB0.out.size HB0.out hb1)
        have HK1 := Lib.hid (HK0.out.below hb1)
        clear hb1 HB0 HK0 HG
        go_wp2_with fail
        refine (HV.out _ HB1.out).mono ?_
        rintro e w2 ⟨A2, c2, rfl, hr2, hb2⟩
        have HB2 := Lib.hid (below_then HB1.out.size HB1.out hb2)
        have HK2 := Lib.hid (HK1.out.below hb2)
        clear hb2 HB1 HK1 HV hr2
        go_wp2_with fail
        refine (HT.out _ HB2.out).mono ?_
        rintro e w3 ⟨A3, c3, rfl, hr3, hb3⟩
        have HB3 := Lib.hid (below_then HB2.out.size HB2.out hb3)
        have HK3 := Lib.hid (HK2.out.below hb3)
        have HR3 := Lib.hid hr3.rd
        clear hb3 HB2 HK2 HT hr3
        have HE3 := Lib.hid (HEQ.out A3 c3 w3 HR3.out)
        have HB3' := Lib.hid (HB3.out.alloc HB3.out.size (.cells #[.string ⟨#[99, 104, 117, 110, 107, 101, 100]⟩] 9))
        have HK3' := Lib.hid (HK3.out.alloc (.cells #[.string ⟨#[99, 104, 117, 110, 107, 101, 100]⟩] 9))
        clear HEQ HB3 HK3 HR3
        go_wp2_with fail
        refine HE3.out.mono ?_
        rintro e w4 ⟨rfl, hb4⟩
        have HB4 := Lib.hid (below_then HB3'.out.size HB3'.out hb4)
        have HK4 := Lib.hid (HK3'.out.below hb4)
        clear hb4 HB3' HK3' HE3
        obtain ⟨b, hb⟩ : ∃ b, decide (TK = [⟨#[99, 104, 117, 110, 107, 101, 100]⟩]) = b := ⟨_, rfl⟩
        have hr := HDC.out b hb
        rw [hb]
        clear HDC hb
        cases b
        · have HF := Lib.hid (hr.trans (if_neg (by decide)))
          clear hr
          obtain ⟨x0, x1⟩ := HK4.out.cells2
          have f0 := HK4.out.free 0
          have f1 := HK4.out.free 1
          have hk9 := (HK4.out.set 0 (.int .i64 0)).set 1 (.int .i64 0)
          obtain ⟨z0, z1⟩ := (show Blk _ _ #[.int .i64 0, .int .i64 0] _ from hk9).cells2
          have HB9 := Lib.hid (below_set (below_set HB4.out (Nat.le_refl _) 0 (.int .i64 0)) (Nat.le_refl _) 1 (.int .i64 0))
          clear hk9 HK4 HB4 
          go_wp2
          refine bodyPost_ret (v := .tuple #[.agg #[.int .i64 0, .int .i64 0], .int .i64 62]) (by simp [results, Tryz.results154, go_sem, z0, z1]) rfl ?_
          exact ⟨by rw [HF.out], HB9.out⟩
        · have HF := Lib.hid (hr.trans (if_pos rfl))
          clear hr
          obtain ⟨x0, x1⟩ := HK4.out.cells2
          have f0 := HK4.out.free 0
          have f1 := HK4.out.free 1
          have hk9 := (HK4.out.set 0 (.int .i64 2)).set 1 (.int .i64 0)
          obtain ⟨z0, z1⟩ := (show Blk _ _ #[.int .i64 2, .int .i64 0] _ from hk9).cells2
          have HB9 := Lib.hid (below_set (below_set HB4.out (Nat.le_refl _) 0 (.int .i64 2)) (Nat.le_refl _) 1 (.int .i64 0))
          clear hk9 HK4 HB4 
          go_wp2
          refine bodyPost_ret (v := .tuple #[.agg #[.int .i64 2, .int .i64 0], .int .i64 0]) (by simp [results, Tryz.results154, go_sem, z0, z1]) rfl ?_
          exact ⟨by rw [HF.out], HB9.out⟩
    · have hn0 : VC.length ≠ 0 := fun h => h2 (List.eq_nil_of_length_eq_zero h)
      have HF := Lib.hid (HFB.out h1 h2)
      obtain ⟨N, hN⟩ : ∃ N, VC.length = N := ⟨_, rfl⟩
      rw [hN] at HV hn0
      have hn1 : 0 < N := by omega
      have hni : (0 : Int) < (N : Int) := by omega
      clear hhas hh HT HVS HFB HFC HFD HFO HFE HFL hN h2 h1
      go_enter Tryz.func154, Tryz.ntmps154
      go_wp2_with fail
      refine (HG.out _ HB0.out).mono ?_
      rintro e w1 ⟨rfl, hb1⟩
      have HB1 := Lib.hid (below_then HB0.out.size HB0.out hb1)
      have HK1 := Lib.hid (HK0.out.below hb1)
      clear hb1 HB0 HK0 HG
      go_wp2_with fail
      refine (HV.out _ HB1.out).mono ?_
      rintro e w2 ⟨A2, c2, rfl, hr2, hb2⟩
      have HB2 := Lib.hid (below_then HB1.out.size HB1.out hb2)
      have HK2 := Lib.hid (HK1.out.below hb2)
      clear hb2 HB1 HK1 HV hr2
      obtain ⟨x0, x1⟩ := HK2.out.cells2
      have f0 := HK2.out.free 0
      have f1 := HK2.out.free 1
      have hk9 := (HK2.out.set 0 (.int .i64 0)).set 1 (.int .i64 0)
      obtain ⟨z0, z1⟩ := (show Blk _ _ #[.int .i64 0, .int .i64 0] _ from hk9).cells2
      have HB9 := Lib.hid (below_set (below_set HB2.out (Nat.le_refl _) 0 (.int .i64 0)) (Nat.le_refl _) 1 (.int .i64 0))
      clear hk9 HK2 HB2 
      go_wp2
      refine bodyPost_ret (v := .tuple #[.agg #[.int .i64 0, .int .i64 0], .int .i64 61]) (by simp [results, Tryz.results154, go_sem, z0, z1]) rfl ?_
      exact ⟨by rw [HF.out], HB9.out⟩
set_option maxHeartbeats 1000000 in
set_option maxRecDepth 100000 in
theorem ofRequest_any (s t : ByteArray) (m : Int) (A : Option Addr) (c : Nat) (fs : List FD) (w : World) (hf : F.bulk fs ≤ 1073741824) (hx : Rd w A fs.length 2 (fcells fs)) :
    Calls Tryz.prog 74 #[.agg #[.string s, .string t, .int .i64 m, .slice A fs.length c]] w (RetFR w (F.frame m fs 0)) := by
  have HR := Lib.hid (fun (u : World) (hu : Below w.heap.size w u) => rule_any m A c fs 0 u hf (hx.below hu))
  obtain ⟨R, hR⟩ : ∃ R, F.frame m fs 0 = R := ⟨_, rfl⟩
  rw [hR] at HR ⊢
  obtain ⟨k, n, code⟩ := R
  have hb0 := ((Below.refl w.heap.size w).alloc (Nat.le_refl _) (.cells #[.string s, .string t, .int .i64 m, .slice A fs.length c] 25)).alloc (by simp only [World.size_alloc]; omega) (.cells #[.int .i64 0, .int .i64 0] 130)
  have HB0 := Lib.hid hb0
  have HK0 := Lib.hid (Two.start w #[.string s, .string t, .int .i64 m, .slice A fs.length c] 25 #[.int .i64 0, .int .i64 0] 130)
  clear hx hR hb0
  go_enter Tryz.func74, Tryz.ntmps74
  obtain ⟨x0, x1, x2, x3⟩ := HK0.out.1.cells4
  go_wp2_with fail
  clear x0 x1 x2 x3
  generalize (w.alloc (.cells #[.string s, .string t, .int .i64 m, .slice A fs.length c] 25)).alloc (.cells #[.int .i64 0, .int .i64 0] 130) = w0 at *
  refine (HR.out _ HB0.out).mono ?_
  rintro e w1 ⟨rfl, hb1⟩
  have HK1 := Lib.hid (HK0.out.below hb1)
  clear hb1 HB0 HK0 HR
  obtain ⟨x0, x1⟩ := HK1.out.2.1.cells2
  have f0 := HK1.out.2.1.free 0
  have f1 := HK1.out.2.1.free 1
  have hk9 := (HK1.out.2.1.set 0 (.int .i64 k)).set 1 (.int .i64 n)
  obtain ⟨z0, z1⟩ := (show Blk _ _ #[.int .i64 k, .int .i64 n] _ from hk9).cells2
  have HB9 := Lib.hid (below_set (below_set HK1.out.2.2 (show w.heap.size ≤ w.heap.size + 1 by omega) 0 (.int .i64 k)) (show w.heap.size ≤ w.heap.size + 1 by omega) 1 (.int .i64 n))
  clear hk9 HK1
  go_wp2
  refine bodyPost_ret (v := .tuple #[.agg #[.int .i64 k, .int .i64 n], .int .i64 code]) (by simp [results, Tryz.results74, go_sem, z0, z1]) rfl ?_
  exact ⟨rfl, HB9.out⟩
set_option maxHeartbeats 20000000 in
set_option maxRecDepth 100000 in
theorem refRule_any (m : Int) (A : Option Addr) (c : Nat) (fs : List FD) (w : World) (hf : F.bulk fs ≤ 1073741824) (hx : Rd w A fs.length 2 (fcells fs)) :
    Calls Tryz.prog 145 #[.int .i64 m, .slice A fs.length c] w (RetFR w (F.frame m fs 0)) := by
  have hlb := F.len_le_bulk fs
  have hsm := small_of_bulk hf
  have htk := toks_sum fs F.teL
  have HG := Lib.hid (fun (u : World) (hu : Below w.heap.size w u) => refValues_any A fs.length c fs F.teL u (by omega) rfl hsm (by decide) (hx.below hu))
  have HV := Lib.hid (fun (u : World) (hu : Below w.heap.size w u) => refValues_any A fs.length c fs F.clL u (by omega) rfl hsm (by decide) (hx.below hu))
  have HT := Lib.hid (fun (u : World) (hu : Below w.heap.size w u) => refTokens_any A fs.length c fs F.teL u (by omega) rfl hsm (by decide) (by omega) (hx.below hu))
  rw [F.te_values] at HG
  rw [F.cl_values] at HV
  rw [F.te_tokens] at HT htk
  have hvs : ∀ v ∈ F.values fs F.clN, v.size ≤ 1099511627776 := values_small hsm
  have hvl := F.values_le fs F.clN
  have hvl2 : (F.values fs F.clN).length ≤ 1099511627776 := by omega
  have htl2 : (F.tokens fs F.teN).length ≤ 1099511627776 := by omega
  have hel2 := F.els_len fs F.clN
  have hes2 : ∀ p ∈ F.els (F.values fs F.clN), p.size ≤ 1099511627776 := fun p hp => by
    obtain ⟨v, hv, hp2⟩ := List.mem_flatMap.1 hp
    exact Nat.le_trans (mem_list hp2) (hvs v hv)
  have HFB := Lib.hid (fun h1 h2 => F.frame_both (m := m) (fs := fs) (o := 0) h1 h2)
  have HFC := Lib.hid (fun h1 h2 h3 => F.frame_coding (m := m) (fs := fs) (o := 0) h1 h2 h3)
  have HFD := Lib.hid (fun h1 h2 h3 => F.frame_coded (m := m) (fs := fs) (o := 0) h1 h2 h3)
  have HFO := Lib.hid (fun h1 h2 => F.frame_other (m := m) (fs := fs) (o := 0) h1 h2)
  have HFE := Lib.hid (fun h1 h2 h3 => F.frame_bad (m := m) (fs := fs) (o := 0) h1 h2 h3)
  have HFL := Lib.hid (fun h1 h2 h3 => F.frame_len (m := m) (fs := fs) (o := 0) h1 h2 h3)
  generalize F.values fs F.teN = VT at *
  generalize F.values fs F.clN = VC at *
  generalize F.tokens fs F.teN = TK at *
  generalize F.frame m fs 0 = R at *
  unfold F.teL at HG HT
  unfold F.clL at HV
  have hb0 := (Below.refl w.heap.size w).alloc (Nat.le_refl _) (.cells #[.int .i64 0, .int .i64 0] 130)
  have HB0 := Lib.hid hb0
  have HK0 := Lib.hid (Blk.new w #[.int .i64 0, .int .i64 0] 130)
  have HVS := Lib.hid hvs
  have HES := Lib.hid hes2
  clear hx hb0 hvl htk hlb hsm hvs hes2
  by_cases h1 : VT = []
  · by_cases h2 : VC = []
    · have HF := Lib.hid (HFO.out h1 h2)
      subst h1 h2
      clear HT HVS HFB HFC HFD HFO HFE HFL
      go_enter Tryz.func145, Tryz.ntmps145
      go_wp2_with fail
      refine (HG.out _ HB0.out).mono ?_
      rintro e w1 ⟨A1, c1, rfl, hr1, hb1⟩
      have HB1 := Lib.hid (below_then HB0.out.size HB0.out hb1)
      have HK1 := Lib.hid (HK0.out.below hb1)
      clear hb1 HB0 HK0 HG hr1
      go_wp2_with fail
      refine (HV.out _ HB1.out).mono ?_
      rintro e w2 ⟨A2, c2, rfl, hr2, hb2⟩
      have HB2 := Lib.hid (below_then HB1.out.size HB1.out hb2)
      have HK2 := Lib.hid (HK1.out.below hb2)
      clear hb2 HB1 HK1 HV hr2
      obtain ⟨x0, x1⟩ := HK2.out.cells2
      have f0 := HK2.out.free 0
      have f1 := HK2.out.free 1
      have hk9 := (HK2.out.set 0 (.int .i64 0)).set 1 (.int .i64 0)
      obtain ⟨z0, z1⟩ := (show Blk _ _ #[.int .i64 0, .int .i64 0] _ from hk9).cells2
      have HB9 := Lib.hid (below_set (below_set HB2.out (Nat.le_refl _) 0 (.int .i64 0)) (Nat.le_refl _) 1 (.int .i64 0))
      clear hk9 HK2 HB2 
      go_wp2
      refine bodyPost_ret (v := .tuple #[.agg #[.int .i64 0, .int .i64 0], .int .i64 0]) (by simp [results, Tryz.results145, go_sem, z0, z1]) rfl ?_
      exact ⟨by rw [HF.out], HB9.out⟩
    · have hn0 : VC.length ≠ 0 := fun h => h2 (List.eq_nil_of_length_eq_zero h)
      obtain ⟨N, hN⟩ : ∃ N, VC.length = N := ⟨_, rfl⟩
      have HE := Lib.hid (HFE.out h1 h2)
      have HL := Lib.hid (HFL.out h1 h2)
      rw [hN] at HV hn0 hvl2
      have hn1 : 0 < N := by omega
      have hni : (0 : Int) < (N : Int) := by omega
      have hnj : ¬ (N : Int) = 0 := by omega
      have hnb : ((N : Int) == 0) = false := beq_eq_false_iff_ne.2 hnj
      have HN := Lib.hid hN.symm
      subst h1
      clear HT HFB HFC HFD HFO HFE HFL hN h2
      go_enter Tryz.func145, Tryz.ntmps145
      go_wp2_with fail
      refine (HG.out _ HB0.out).mono ?_
      rintro e w1 ⟨A1, c1, rfl, hr1, hb1⟩
      have HB1 := Lib.hid (below_then HB0.out.size HB0.out hb1)
      have HK1 := Lib.hid (HK0.out.below hb1)
      clear hb1 HB0 HK0 HG hr1
      go_wp2_with fail
      refine (HV.out _ HB1.out).mono ?_
      rintro e w2 ⟨A2, c2, rfl, hr2, hb2⟩
      have HB2 := Lib.hid (below_then HB1.out.size HB1.out hb2)
      have HK2 := Lib.hid (HK1.out.below hb2)
      have HR2 := Lib.hid hr2.rd
      clear hb2 HB1 HK1 HV hr2
      have hz2 := HB2.out.size
      have hlt2 := HK2.out.lt
      have hb3 := (Below.refl w2.heap.size w2).alloc (Nat.le_refl _) (.cells #[] 9)
      have HB3 := Lib.hid hb3
      have HK3 := Lib.hid (HK2.out.alloc (.cells #[] 9))
      have HR3 := Lib.hid (HR2.out.alloc (.cells #[] 9))
      have HRR := Lib.hid (fun (u : World) (hu : Below w2.heap.size w2 u) => HR2.out.below hu)
      have HKK := Lib.hid (fun (u : World) (hu : Below w2.heap.size w2 u) => HK2.out.below hu)
      obtain ⟨EL, hEL⟩ : ∃ EL, F.els VC = EL := ⟨_, rfl⟩
      rw [hEL] at hel2 HE HL HES
      have HEL := Lib.hid hEL
      obtain ⟨ML, hML⟩ : ∃ ML, EL.length = ML := ⟨_, rfl⟩
      have HML := Lib.hid hML
      rw [hML] at hel2
      clear hEL hML hb3 HR2 HK2 HR3 HK3
      go_wp2_with fail
      go_loopw [9, 10] (fun va vi wr => ∃ (k M : Nat) (Al : Option Addr) (cl : Nat), k ≤ N ∧ vi = .int .i64 k ∧ va = .slice Al M cl ∧ Hid (M = (F.els (VC.take k)).length) ∧ Row wr w2.heap.size 9 1 Al M cl (scells (F.els (VC.take k))) ∧ Below w2.heap.size w2 wr) (fun _ vi _ => N - (intOf vi).toNat)
      case atStart => exact ⟨0, 0, _, 0, Nat.zero_le _, rfl, rfl, Lib.hid rfl, Row.empty _ _ _ _ _, HB3.out⟩
      case round =>
        clear HB3
        obtain ⟨wo, rfl⟩ : ∃ wo : World, wo = wr := ⟨_, rfl⟩
        obtain ⟨k, M, Al, cl, hk, rfl, rfl, HM, hrow, hbel⟩ := hrel
        have HROW := Lib.hid hrow
        have HB := Lib.hid hbel
        clear hrow hbel
        by_cases hkN : k < N
        · have hkl : k < VC.length := by rw [← HN.out]; exact hkN
          have hki : (k : Int) < (N : Int) := by omega
          obtain ⟨b4, o4, rfl, _, c4⟩ := (HRR.out _ HB.out).str hkN HN.out.symm
          have hsn := F.els_snoc VC k hkl
          have hsx := HVS.out _ (List.getElem_mem hkl)
          have hle : M + (F.list (VC[k]'hkl)).length ≤ 1073741824 := by
            have h1 := F.els_take VC (k + 1)
            rw [hsn, List.length_append, HEL.out, HML.out, ← HM.out] at h1
            omega
          obtain ⟨x, hxk⟩ : ∃ x, VC[k]'hkl = x := ⟨_, rfl⟩
          rw [hxk] at hsn c4 hsx hle
          have HSN := Lib.hid hsn
          obtain ⟨es, hes⟩ : ∃ es, F.list x = es := ⟨_, rfl⟩
          have HLI := Lib.hid (fun (u : World) => refList_any x u hsx)
          rw [hes] at HLI HSN hle
          clear hxk hsn hes
          go_wp2_with fail
          refine (HLI.out _).mono ?_
          rintro e w5 ⟨A5, c5, rfl, hr5, hb5⟩
          have HB5 := Lib.hid (below_then HB.out.size HB.out hb5)
          have HROW5 := Lib.hid (HROW.out.below hb5)
          have HR5 := Lib.hid hr5.rd
          have hz5 := HB5.out.size
          have h63 : M + es.length ≤ 4398046511104 := by omega
          clear hb5 hr5 HROW HB HLI c4
          go_wp2_with (at_builtin; refine appS _ rfl (.tmp 54) (.tmp 59) rfl w2.heap.size Al M cl _ rfl HROW5.out A5 es.length c5 es rfl HR5.out h63 hz5 ?_; intro A6 c6 w6 hr6 ha6; have HR6 := Lib.hid hr6; have HB6 := Lib.hid (HB5.out.trans (ha6.below HROW5.out hz5)); clear hr6 ha6)
          go_roundw
          case rel => exact ⟨k + 1, M + es.length, A6, c6, by omega, by go_num, rfl, Lib.hid (by rw [HSN.out, List.length_append, ← HM.out]), by rw [HSN.out]; exact HR6.out, HB6.out⟩
          case measure => simp [intOf]; omega
        · have hki : ¬ (k : Int) < (N : Int) := by omega
          have HM2 : Hid (M = ML) := Lib.hid (by
            rw [HM.out, List.take_of_length_le (by rw [← HN.out]; omega), HEL.out, HML.out])
          have hrow := HROW.out
          rw [List.take_of_length_le (by rw [← HN.out]; omega), HEL.out, HM2.out] at hrow
          have HRE := Lib.hid hrow.rd
          rw [HM2.out]
          have HBW := Lib.hid (below_then HB2.out.size HB2.out HB.out)
          have HKW := Lib.hid (HKK.out _ HB.out)
          clear hrow HROW HM HRR HKK HB HB2 HEL HM2
          by_cases hM0 : ML = 0
          · have HF : Hid (R = ⟨0, 0, 60⟩) := Lib.hid (by
              have hel0 : EL = [] := List.eq_nil_of_length_eq_zero (HML.out.trans hM0)
              rw [hel0] at HE
              exact HE.out (by decide))
            have hM0i : (ML : Int) = 0 := by omega
            subst hM0
            clear HE HL HRE HML
            obtain ⟨x0, x1⟩ := HKW.out.cells2
            have f0 := HKW.out.free 0
            have f1 := HKW.out.free 1
            have hk9 := (HKW.out.set 0 (.int .i64 0)).set 1 (.int .i64 0)
            obtain ⟨z0, z1⟩ := (show Blk _ _ #[.int .i64 0, .int .i64 0] _ from hk9).cells2
            have HB9 := Lib.hid (below_set (below_set HBW.out (Nat.le_refl _) 0 (.int .i64 0)) (Nat.le_refl _) 1 (.int .i64 0))
            clear hk9 HKW HBW 
            go_wp2
            refine bodyPost_ret (v := .tuple #[.agg #[.int .i64 0, .int .i64 0], .int .i64 60]) (by simp [results, Tryz.results145, go_sem, z0, z1]) rfl ?_
            exact ⟨by rw [HF.out], HB9.out⟩
          · have hM0i : ¬ (ML : Int) = 0 := by omega
            have hM0b : ((ML : Int) == 0) = false := beq_eq_false_iff_ne.2 hM0i
            have hMl : 0 < EL.length := by have := HML.out; omega
            have HNS := Lib.hid (fun (s : ByteArray) (u : World) => (refNumber_any s u).mono (fun e w' h => show e = .returned (.int .i64 (F.num s)) ∧ w' = u from ⟨h.1, h.2.symm⟩))
            have HN0 := Lib.hid (fun (u : World) => HNS.out (EL[0]'hMl) u)
            have HHD := Lib.hid (F.head_at hMl)
            have HLA := Lib.hid (fun h => F.lens_all hMl h)
            have HLB := Lib.hid (fun t (ht : t < EL.length) (h : F.num EL[t] < 0 ∨ F.num EL[t] ≠ F.num (EL[0]'hMl)) => F.lens_bad (l := EL) (List.getElem_mem ht) (by rw [HHD.out]; exact h))
            have HC0 := Lib.hid (fun (u : World) (hr : Rd u Al ML 1 (scells EL)) => hr.str (k := 0) (by omega) HML.out)
            obtain ⟨y0, hy0⟩ : ∃ y, EL[0]'hMl = y := ⟨_, rfl⟩
            rw [hy0] at HN0 HLA HLB HC0
            have hz0 := F.num_lt y0
            clear hy0 HHD
            go_wp2_with fail
            go_loopw [11] (fun vj wr => ∃ j : Nat, j ≤ ML ∧ vj = .int .i64 j ∧ Hid (∀ t (ht : t < EL.length), t < j → ¬ (F.num EL[t] < 0 ∨ F.num EL[t] ≠ F.num y0)) ∧ Rd wr Al ML 1 (scells EL) ∧ Blk wr w.heap.size #[.int .i64 0, .int .i64 0] 130 ∧ Below w.heap.size w wr) (fun vj _ => ML - (intOf vj).toNat)
            case atStart => exact ⟨0, Nat.zero_le _, rfl, Lib.hid (fun t ht h => absurd h (Nat.not_lt_zero _)), HRE.out, HKW.out, HBW.out⟩
            case round =>
              clear HRE HKW HBW
              obtain ⟨wo, rfl⟩ : ∃ wo : World, wo = wr := ⟨_, rfl⟩
              obtain ⟨j, hj, rfl, HG, hrd, hblk, hbel⟩ := hrel
              have HKW := Lib.hid hblk
              have HBW := Lib.hid hbel
              have HRE := Lib.hid hrd
              obtain ⟨b0, o0, rfl, _, c0⟩ := HC0.out _ hrd
              rw [Nat.add_zero] at c0
              clear hblk hbel
              by_cases hjM : j < ML
              · have hjl : j < EL.length := by have := HML.out; omega
                have hji : (j : Int) < (ML : Int) := by omega
                obtain ⟨b1, o1, e1, _, cj⟩ := hrd.str hjM HML.out
                cases e1
                have HBJ := Lib.hid (HLB.out j hjl)
                have HGN := Lib.hid (fun (h : ¬ (F.num (EL[j]'hjl) < 0 ∨ F.num (EL[j]'hjl) ≠ F.num y0)) => show ∀ t (ht : t < EL.length), t < j + 1 → ¬ (F.num EL[t] < 0 ∨ F.num EL[t] ≠ F.num y0) from fun t ht h2 => by
                  by_cases e : t = j
                  · subst e; exact h
                  · exact HG.out t ht (by omega))
                obtain ⟨s, hs⟩ : ∃ s, EL[j]'hjl = s := ⟨_, rfl⟩
                rw [hs] at HBJ HGN cj
                clear hs hrd hz0
                by_cases hn : F.num s < 0
                · have hnd : decide (F.num s < 0) = true := decide_eq_true hn
                  have HF : Hid (R = ⟨0, 0, 60⟩) := Lib.hid (by
                    have := HBJ.out (.inl hn)
                    rw [this] at HE
                    exact HE.out (by decide))
                  clear HBJ HGN HLA HLB HC0 HG HRE HE HL
                  go_wp2_with fail
                  go_quiet ((go_at_call 219; refine Calls.quiet_of_same (HNS.out _ _)))
                  have HKQ := Lib.hid (HKW.out.drewN nq)
                  have HBQ := Lib.hid (below_drewN HBW.out nq)
                  clear HKW HBW c0 cj HN0 HNS
                  obtain ⟨x0, x1⟩ := HKQ.out.cells2
                  have f0 := HKQ.out.free 0
                  have f1 := HKQ.out.free 1
                  have hk9 := (HKQ.out.set 0 (.int .i64 0)).set 1 (.int .i64 0)
                  obtain ⟨z0, z1⟩ := (show Blk _ _ #[.int .i64 0, .int .i64 0] _ from hk9).cells2
                  have HB9 := Lib.hid (below_set (below_set HBQ.out (Nat.le_refl _) 0 (.int .i64 0)) (Nat.le_refl _) 1 (.int .i64 0))
                  clear hk9 HKQ HBQ 
                  go_wp2
                  refine bodyPost_ret (v := .tuple #[.agg #[.int .i64 0, .int .i64 0], .int .i64 60]) (by simp [results, Tryz.results145, go_sem, z0, z1]) rfl ?_
                  exact ⟨by rw [HF.out], HB9.out⟩
                · have hnd : decide (F.num s < 0) = false := decide_eq_false hn
                  have hni2 : ¬ F.num s < 0 := hn
                  by_cases hne : F.num s = F.num y0
                  · have hnb2 : (F.num s != F.num y0) = false := by rw [bne_eq_false_iff_eq]; exact hne
                    have HGG := Lib.hid (HGN.out (by rintro (h | h); exact hn h; exact h hne))
                    have HRE2 := Lib.hid (fun k => HRE.out.drewN k)
                    clear HBJ HGN HC0 HG HRE hne hn
                    go_wp2_with fail
                    go_quiet ((go_at_call 219; refine Calls.quiet_of_same (HNS.out _ _)))
                    have HKQ := Lib.hid (HKW.out.drewN nq)
                    have HBQ := Lib.hid (below_drewN HBW.out nq)
                    have HRQ := Lib.hid (HRE2.out nq)
                    clear HKW HBW c0 cj HRE2
                    go_wp2
                    go_roundw
                    case rel => exact ⟨j + 1, by omega, by go_num, HGG, HRQ.out, HKQ.out, HBQ.out⟩
                    case measure => simp [intOf]; omega
                  · have hnb2 : (F.num s != F.num y0) = true := by rw [bne_iff_ne]; exact hne
                    have HF : Hid (R = ⟨0, 0, 60⟩) := Lib.hid (by
                      have := HBJ.out (.inr hne)
                      rw [this] at HE
                      exact HE.out (by decide))
                    clear HBJ HGN HLA HLB HC0 HG HRE HE HL hne hn
                    go_wp2_with fail
                    go_quiet ((go_at_call 219; refine Calls.quiet_of_same (HNS.out _ _)))
                    have HKQ := Lib.hid (HKW.out.drewN nq)
                    have HBQ := Lib.hid (below_drewN HBW.out nq)
                    clear HKW HBW c0 cj HN0 HNS
                    obtain ⟨x0, x1⟩ := HKQ.out.cells2
                    have f0 := HKQ.out.free 0
                    have f1 := HKQ.out.free 1
                    have hk9 := (HKQ.out.set 0 (.int .i64 0)).set 1 (.int .i64 0)
                    obtain ⟨z0, z1⟩ := (show Blk _ _ #[.int .i64 0, .int .i64 0] _ from hk9).cells2
                    have HB9 := Lib.hid (below_set (below_set HBQ.out (Nat.le_refl _) 0 (.int .i64 0)) (Nat.le_refl _) 1 (.int .i64 0))
                    clear hk9 HKQ HBQ 
                    go_wp2
                    refine bodyPost_ret (v := .tuple #[.agg #[.int .i64 0, .int .i64 0], .int .i64 60]) (by simp [results, Tryz.results145, go_sem, z0, z1]) rfl ?_
                    exact ⟨by rw [HF.out], HB9.out⟩
              · have hji : ¬ (j : Int) < (ML : Int) := by omega
                have hla := HLA.out (fun t ht => HG.out t ht (by have := HML.out; omega))
                obtain ⟨q0, hqq⟩ : ∃ z, F.num y0 = z := ⟨_, rfl⟩
                rw [hqq] at HN0 hla hz0
                clear HLA HLB HG HC0 HRE HNS hqq hrd
                by_cases hbig : 65536 < q0
                · have HF : Hid (R = ⟨0, 0, 71⟩) := Lib.hid (by
                    rw [hla, if_pos hbig] at HE
                    exact HE.out (by decide))
                  clear HE HL hla
                  go_wp2_with fail
                  refine (HN0.out _).mono ?_
                  rintro e w8 ⟨rfl, rfl⟩
                  clear c0 HN0
                  obtain ⟨x0, x1⟩ := HKW.out.cells2
                  have f0 := HKW.out.free 0
                  have f1 := HKW.out.free 1
                  have hk9 := (HKW.out.set 0 (.int .i64 0)).set 1 (.int .i64 0)
                  obtain ⟨z0, z1⟩ := (show Blk _ _ #[.int .i64 0, .int .i64 0] _ from hk9).cells2
                  have HB9 := Lib.hid (below_set (below_set HBW.out (Nat.le_refl _) 0 (.int .i64 0)) (Nat.le_refl _) 1 (.int .i64 0))
                  clear hk9 HKW HBW 
                  go_wp2
                  refine bodyPost_ret (v := .tuple #[.agg #[.int .i64 0, .int .i64 0], .int .i64 71]) (by simp [results, Tryz.results145, go_sem, z0, z1]) rfl ?_
                  exact ⟨by rw [HF.out], HB9.out⟩
                · have HF : Hid (R = ⟨1, q0, 0⟩) := Lib.hid (by
                    rw [hla, if_neg hbig] at HL
                    exact HL.out rfl)
                  clear HE HL hla
                  go_wp2_with fail
                  refine (HN0.out _).mono ?_
                  rintro e w8 ⟨rfl, rfl⟩
                  go_wp2_with fail
                  refine (HN0.out _).mono ?_
                  rintro e w8 ⟨rfl, rfl⟩
                  clear c0 HN0
                  obtain ⟨x0, x1⟩ := HKW.out.cells2
                  have f0 := HKW.out.free 0
                  have f1 := HKW.out.free 1
                  have hk9 := (HKW.out.set 0 (.int .i64 1)).set 1 (.int .i64 q0)
                  obtain ⟨z0, z1⟩ := (show Blk _ _ #[.int .i64 1, .int .i64 q0] _ from hk9).cells2
                  have HB9 := Lib.hid (below_set (below_set HBW.out (Nat.le_refl _) 0 (.int .i64 1)) (Nat.le_refl _) 1 (.int .i64 q0))
                  clear hk9 HKW HBW 
                  go_wp2
                  refine bodyPost_ret (v := .tuple #[.agg #[.int .i64 1, .int .i64 q0], .int .i64 0]) (by simp [results, Tryz.results145, go_sem, z0, z1]) rfl ?_
                  exact ⟨by rw [HF.out], HB9.out⟩
  · have hn9 : VT.length ≠ 0 := fun h => h1 (List.eq_nil_of_length_eq_zero h)
    obtain ⟨NT, hNT⟩ : ∃ N, VT.length = N := ⟨_, rfl⟩
    rw [hNT] at HG hn9
    have hn8 : 0 < NT := by omega
    have hn7 : (0 : Int) < (NT : Int) := by omega
    clear hNT
    by_cases h2 : VC = []
    · by_cases h3 : m = 0
      · have HF := Lib.hid (HFC.out h1 h2 (.inl h3))
        subst h2 h3
        obtain ⟨NK, hNK⟩ : ∃ N, TK.length = N := ⟨_, rfl⟩
        rw [hNK] at HT
        clear HVS HFB HFC HFD HFO HFE HFL h1 hNK
        go_enter Tryz.func145, Tryz.ntmps145
        go_wp2_with fail
        refine (HG.out _ HB0.out).mono ?_
        rintro e w1 ⟨A1, c1, rfl, hr1, hb1⟩
        have HB1 := Lib.hid (below_then HB0.out.size HB0.out hb1)
        have HK1 := Lib.hid (HK0.out.below hb1)
        clear hb1 HB0 HK0 HG hr1
        go_wp2_with fail
        refine (HV.out _ HB1.out).mono ?_
        rintro e w2 ⟨A2, c2, rfl, hr2, hb2⟩
        have HB2 := Lib.hid (below_then HB1.out.size HB1.out hb2)
        have HK2 := Lib.hid (HK1.out.below hb2)
        clear hb2 HB1 HK1 HV hr2
        go_wp2_with fail
        refine (HT.out _ HB2.out).mono ?_
        rintro e w3 ⟨A3, c3, rfl, hr3, hb3⟩
        have HB3 := Lib.hid (below_then HB2.out.size HB2.out hb3)
        have HK3 := Lib.hid (HK2.out.below hb3)
        clear hb3 HB2 HK2 HT hr3
        obtain ⟨x0, x1⟩ := HK3.out.cells2
        have f0 := HK3.out.free 0
        have f1 := HK3.out.free 1
        have hk9 := (HK3.out.set 0 (.int .i64 0)).set 1 (.int .i64 0)
        obtain ⟨z0, z1⟩ := (show Blk _ _ #[.int .i64 0, .int .i64 0] _ from hk9).cells2
        have HB9 := Lib.hid (below_set (below_set HB3.out (Nat.le_refl _) 0 (.int .i64 0)) (Nat.le_refl _) 1 (.int .i64 0))
        clear hk9 HK3 HB3 
        go_wp2
        refine bodyPost_ret (v := .tuple #[.agg #[.int .i64 0, .int .i64 0], .int .i64 62]) (by simp [results, Tryz.results145, go_sem, z0, z1]) rfl ?_
        exact ⟨by rw [HF.out], HB9.out⟩
      · have h3b : (m == 0) = false := beq_eq_false_iff_ne.2 h3
        by_cases h4 : TK.length = 1
        · match TK, h4 with
          | [y], _ =>
            have HC := Lib.hid (fun (h : ¬ y = F.chW) => HFC.out h1 h2 (.inr (fun h5 => h (List.cons.inj h5).1)))
            have HD := Lib.hid (fun (h : y = F.chW) => HFD.out h1 h2 (by rintro (h4 | h4); exact h3 h4; exact h4 (by rw [h])))
            replace HT : Hid (∀ (u : World) (hu : Below w.heap.size w u), Calls Tryz.prog 217 #[.slice A fs.length c, .string ⟨#[116, 114, 97, 110, 115, 102, 101, 114, 45, 101, 110, 99, 111, 100, 105, 110, 103]⟩] u (RetRow u 9 1 1 (scells [y]))) := HT
            unfold F.chW at HC HD
            subst h2
            clear HVS HFB HFC HFD HFO HFE HFL h1
            go_enter Tryz.func145, Tryz.ntmps145
            go_wp2_with fail
            refine (HG.out _ HB0.out).mono ?_
            rintro e w1 ⟨A1, c1, rfl, hr1, hb1⟩
            have HB1 := Lib.hid (below_then HB0.out.size HB0.out hb1)
            have HK1 := Lib.hid (HK0.out.below hb1)
            clear hb1 HB0 HK0 HG hr1
            go_wp2_with fail
            refine (HV.out _ HB1.out).mono ?_
            rintro e w2 ⟨A2, c2, rfl, hr2, hb2⟩
            have HB2 := Lib.hid (below_then HB1.out.size HB1.out hb2)
            have HK2 := Lib.hid (HK1.out.below hb2)
            clear hb2 HB1 HK1 HV hr2
            go_wp2_with fail
            refine (HT.out _ HB2.out).mono ?_
            rintro e w3 ⟨A3, c3, rfl, hr3, hb3⟩
            have HB3 := Lib.hid (below_then HB2.out.size HB2.out hb3)
            have HK3 := Lib.hid (HK2.out.below hb3)
            obtain ⟨b3, o3, rfl, _, q0⟩ := hr3.rd.str (k := 0) (by omega) rfl
            rw [Nat.add_zero] at q0
            replace q0 : w3.cell? ⟨b3, o3, none⟩ = some (.string y) := q0
            clear hb3 HB2 HK2 HT hr3
            by_cases hy : y = ⟨#[99, 104, 117, 110, 107, 101, 100]⟩
            · subst hy
              have HF := Lib.hid (HD.out rfl)
              clear HC HD
              obtain ⟨x0, x1⟩ := HK3.out.cells2
              have f0 := HK3.out.free 0
              have f1 := HK3.out.free 1
              have hk9 := (HK3.out.set 0 (.int .i64 2)).set 1 (.int .i64 0)
              obtain ⟨z0, z1⟩ := (show Blk _ _ #[.int .i64 2, .int .i64 0] _ from hk9).cells2
              have HB9 := Lib.hid (below_set (below_set HB3.out (Nat.le_refl _) 0 (.int .i64 2)) (Nat.le_refl _) 1 (.int .i64 0))
              clear hk9 HK3 HB3 
              go_wp2
              refine bodyPost_ret (v := .tuple #[.agg #[.int .i64 2, .int .i64 0], .int .i64 0]) (by simp [results, Tryz.results145, go_sem, z0, z1]) rfl ?_
              exact ⟨by rw [HF.out], HB9.out⟩
            · have HF := Lib.hid (HC.out hy)
              have hyl0 : ¬ y.toList = (⟨#[99, 104, 117, 110, 107, 101, 100]⟩ : ByteArray).toList := fun h => hy (toList_inj.1 h)
              have hyl : ¬ y.toList = [99, 104, 117, 110, 107, 101, 100] := fun h => hyl0 (h.trans (by decide +kernel))
              have hylb : (y.toList == [99, 104, 117, 110, 107, 101, 100]) = false := beq_eq_false_iff_ne.2 hyl
              clear hyl0
              clear HC HD
              obtain ⟨x0, x1⟩ := HK3.out.cells2
              have f0 := HK3.out.free 0
              have f1 := HK3.out.free 1
              have hk9 := (HK3.out.set 0 (.int .i64 0)).set 1 (.int .i64 0)
              obtain ⟨z0, z1⟩ := (show Blk _ _ #[.int .i64 0, .int .i64 0] _ from hk9).cells2
              have HB9 := Lib.hid (below_set (below_set HB3.out (Nat.le_refl _) 0 (.int .i64 0)) (Nat.le_refl _) 1 (.int .i64 0))
              clear hk9 HK3 HB3 
              go_wp2
              refine bodyPost_ret (v := .tuple #[.agg #[.int .i64 0, .int .i64 0], .int .i64 62]) (by simp [results, Tryz.results145, go_sem, z0, z1]) rfl ?_
              exact ⟨by rw [HF.out], HB9.out⟩
        · have HF := Lib.hid (HFC.out h1 h2 (.inr (fun h => h4 (by rw [h]; rfl))))
          obtain ⟨NK, hNK⟩ : ∃ N, TK.length = N := ⟨_, rfl⟩
          rw [hNK] at HT h4
          have h4i : ¬ (NK : Int) = 1 := by omega
          subst h2
          clear HVS HFB HFC HFD HFO HFE HFL h1 hNK
          go_enter Tryz.func145, Tryz.ntmps145
          go_wp2_with fail
          refine (HG.out _ HB0.out).mono ?_
          rintro e w1 ⟨A1, c1, rfl, hr1, hb1⟩
          have HB1 := Lib.hid (below_then HB0.out.size HB0.out hb1)
          have HK1 := Lib.hid (HK0.out.below hb1)
          clear hb1 HB0 HK0 HG hr1
          go_wp2_with fail
          refine (HV.out _ HB1.out).mono ?_
          rintro e w2 ⟨A2, c2, rfl, hr2, hb2⟩
          have HB2 := Lib.hid (below_then HB1.out.size HB1.out hb2)
          have HK2 := Lib.hid (HK1.out.below hb2)
          clear hb2 HB1 HK1 HV hr2
          go_wp2_with fail
          refine (HT.out _ HB2.out).mono ?_
          rintro e w3 ⟨A3, c3, rfl, hr3, hb3⟩
          have HB3 := Lib.hid (below_then HB2.out.size HB2.out hb3)
          have HK3 := Lib.hid (HK2.out.below hb3)
          clear hb3 HB2 HK2 HT hr3
          obtain ⟨x0, x1⟩ := HK3.out.cells2
          have f0 := HK3.out.free 0
          have f1 := HK3.out.free 1
          have hk9 := (HK3.out.set 0 (.int .i64 0)).set 1 (.int .i64 0)
          obtain ⟨z0, z1⟩ := (show Blk _ _ #[.int .i64 0, .int .i64 0] _ from hk9).cells2
          have HB9 := Lib.hid (below_set (below_set HB3.out (Nat.le_refl _) 0 (.int .i64 0)) (Nat.le_refl _) 1 (.int .i64 0))
          clear hk9 HK3 HB3 
          go_wp2
          refine bodyPost_ret (v := .tuple #[.agg #[.int .i64 0, .int .i64 0], .int .i64 62]) (by simp [results, Tryz.results145, go_sem, z0, z1]) rfl ?_
          exact ⟨by rw [HF.out], HB9.out⟩
    · have hn0 : VC.length ≠ 0 := fun h => h2 (List.eq_nil_of_length_eq_zero h)
      have HF := Lib.hid (HFB.out h1 h2)
      obtain ⟨N, hN⟩ : ∃ N, VC.length = N := ⟨_, rfl⟩
      rw [hN] at HV hn0
      have hn1 : 0 < N := by omega
      have hni : (0 : Int) < (N : Int) := by omega
      clear HT HVS HFB HFC HFD HFO HFE HFL hN h2 h1
      go_enter Tryz.func145, Tryz.ntmps145
      go_wp2_with fail
      refine (HG.out _ HB0.out).mono ?_
      rintro e w1 ⟨A1, c1, rfl, hr1, hb1⟩
      have HB1 := Lib.hid (below_then HB0.out.size HB0.out hb1)
      have HK1 := Lib.hid (HK0.out.below hb1)
      clear hb1 HB0 HK0 HG hr1
      go_wp2_with fail
      refine (HV.out _ HB1.out).mono ?_
      rintro e w2 ⟨A2, c2, rfl, hr2, hb2⟩
      have HB2 := Lib.hid (below_then HB1.out.size HB1.out hb2)
      have HK2 := Lib.hid (HK1.out.below hb2)
      clear hb2 HB1 HK1 HV hr2
      obtain ⟨x0, x1⟩ := HK2.out.cells2
      have f0 := HK2.out.free 0
      have f1 := HK2.out.free 1
      have hk9 := (HK2.out.set 0 (.int .i64 0)).set 1 (.int .i64 0)
      obtain ⟨z0, z1⟩ := (show Blk _ _ #[.int .i64 0, .int .i64 0] _ from hk9).cells2
      have HB9 := Lib.hid (below_set (below_set HB2.out (Nat.le_refl _) 0 (.int .i64 0)) (Nat.le_refl _) 1 (.int .i64 0))
      clear hk9 HK2 HB2 
      go_wp2
      refine bodyPost_ret (v := .tuple #[.agg #[.int .i64 0, .int .i64 0], .int .i64 61]) (by simp [results, Tryz.results145, go_sem, z0, z1]) rfl ?_
      exact ⟨by rw [HF.out], HB9.out⟩
set_option maxHeartbeats 1000000 in
set_option maxRecDepth 100000 in
theorem refOfRequest_any (s t : ByteArray) (m : Int) (A : Option Addr) (c : Nat) (fs : List FD) (w : World) (hf : F.bulk fs ≤ 1073741824) (hx : Rd w A fs.length 2 (fcells fs)) :
    Calls Tryz.prog 78 #[.agg #[.string s, .string t, .int .i64 m, .slice A fs.length c]] w (RetFR w (F.frame m fs 0)) := by
  have HR := Lib.hid (fun (u : World) (hu : Below w.heap.size w u) => refRule_any m A c fs u hf (hx.below hu))
  obtain ⟨R, hR⟩ : ∃ R, F.frame m fs 0 = R := ⟨_, rfl⟩
  rw [hR] at HR ⊢
  obtain ⟨k, n, code⟩ := R
  have hb0 := ((Below.refl w.heap.size w).alloc (Nat.le_refl _) (.cells #[.string s, .string t, .int .i64 m, .slice A fs.length c] 25)).alloc (by simp only [World.size_alloc]; omega) (.cells #[.int .i64 0, .int .i64 0] 130)
  have HB0 := Lib.hid hb0
  have HK0 := Lib.hid (Two.start w #[.string s, .string t, .int .i64 m, .slice A fs.length c] 25 #[.int .i64 0, .int .i64 0] 130)
  clear hx hR hb0
  go_enter Tryz.func78, Tryz.ntmps78
  obtain ⟨x0, x1, x2, x3⟩ := HK0.out.1.cells4
  go_wp2_with fail
  clear x0 x1 x2 x3
  generalize (w.alloc (.cells #[.string s, .string t, .int .i64 m, .slice A fs.length c] 25)).alloc (.cells #[.int .i64 0, .int .i64 0] 130) = w0 at *
  refine (HR.out _ HB0.out).mono ?_
  rintro e w1 ⟨rfl, hb1⟩
  have HK1 := Lib.hid (HK0.out.below hb1)
  clear hb1 HB0 HK0 HR
  obtain ⟨x0, x1⟩ := HK1.out.2.1.cells2
  have f0 := HK1.out.2.1.free 0
  have f1 := HK1.out.2.1.free 1
  have hk9 := (HK1.out.2.1.set 0 (.int .i64 k)).set 1 (.int .i64 n)
  obtain ⟨z0, z1⟩ := (show Blk _ _ #[.int .i64 k, .int .i64 n] _ from hk9).cells2
  have HB9 := Lib.hid (below_set (below_set HK1.out.2.2 (show w.heap.size ≤ w.heap.size + 1 by omega) 0 (.int .i64 k)) (show w.heap.size ≤ w.heap.size + 1 by omega) 1 (.int .i64 n))
  clear hk9 HK1
  go_wp2
  refine bodyPost_ret (v := .tuple #[.agg #[.int .i64 k, .int .i64 n], .int .i64 code]) (by simp [results, Tryz.results78, go_sem, z0, z1]) rfl ?_
  exact ⟨rfl, HB9.out⟩
end Go.Proofs.YteehjkfmlcfffaaGreatDoor
