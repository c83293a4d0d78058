/- The walks of swaplog's first: steps up to the first that answers an error; over three and over four steps (printed by gen/first9.py). Conditions: what the steps' own contracts ask. -/
import Derived.Test.YtkempjcphpnocaaGreatDoorStoreH
namespace Go.Proofs.YtkempjcphpnocaaGreatDoor
open Go Go.RowKit Go.Maps

namespace S
/-- The disk behind the first k steps, where all of them answer OK. -/
def ran : D.Dsk → List (D.Dsk → D.Dsk × Int) → Nat → Option D.Dsk
  | d, _, 0 => some d
  | _, [], _ + 1 => none
  | d, f :: r, k + 1 => if (f d).2 = 0 then ran (f d).1 r k else none
theorem ran_zero (d : D.Dsk) (ops : List (D.Dsk → D.Dsk × Int)) : ran d ops 0 = some d := by cases ops <;> rfl
theorem ran_next : ∀ {ops : List (D.Dsk → D.Dsk × Int)} {d d1 : D.Dsk} {k : Nat} {f : D.Dsk → D.Dsk × Int}, ran d ops k = some d1 → ops[k]? = some f → (f d1).2 = 0 → ran d ops (k + 1) = some (f d1).1
  | [], _, _, _, _, _, h, _ => by simp at h
  | g :: r, d, d1, 0, f, h, hf, h0 => by
    simp only [ran, Option.some.injEq] at h
    subst h
    simp only [List.getElem?_cons_zero, Option.some.injEq] at hf
    subst hf
    simp [ran, h0]
  | g :: r, d, d1, k + 1, f, h, hf, h0 => by
    unfold ran at h
    split at h
    · rename_i hg
      have := ran_next h (by simpa using hf) h0
      unfold ran
      rw [if_pos hg]
      exact this
    · cases h
theorem ran_bad : ∀ {ops : List (D.Dsk → D.Dsk × Int)} {d d1 : D.Dsk} {k : Nat} {f : D.Dsk → D.Dsk × Int}, ran d ops k = some d1 → ops[k]? = some f → (f d1).2 ≠ 0 → steps d ops = ((f d1).1, k, (f d1).2)
  | [], _, _, _, _, _, h, _ => by simp at h
  | g :: r, d, d1, 0, f, h, hf, h0 => by
    simp only [ran, Option.some.injEq] at h
    subst h
    simp only [List.getElem?_cons_zero, Option.some.injEq] at hf
    subst hf
    unfold steps
    rw [if_pos h0]
  | g :: r, d, d1, k + 1, f, h, hf, h0 => by
    unfold ran at h
    split at h
    · rename_i hg
      have := ran_bad h (by simpa using hf) h0
      unfold steps
      rw [if_neg (by simpa using hg), this]
    · cases h
theorem ran_all : ∀ {ops : List (D.Dsk → D.Dsk × Int)} {d d1 : D.Dsk}, ran d ops ops.length = some d1 → steps d ops = (d1, ops.length, 0)
  | [], d, d1, h => by
    simp only [List.length_nil, ran, Option.some.injEq] at h
    subst h
    rfl
  | g :: r, d, d1, h => by
    simp only [List.length_cons] at h
    unfold ran at h
    split at h
    · rename_i hg
      have := ran_all h
      unfold steps
      rw [if_neg (by simpa using hg), this, List.length_cons]
    · cases h
theorem ran_fit : ∀ {ops : List (D.Dsk → D.Dsk × Int)} {d d1 : D.Dsk} {k m : Nat}, (∀ f ∈ ops, ∀ (m : Nat) (d : D.Dsk), D.Fit m d → D.Fit (m + 1) (f d).1) → ran d ops k = some d1 → D.Fit m d → D.Fit (m + k) d1
  | ops, d, d1, 0, m, _, h, hf => by
    rw [ran_zero] at h
    cases h
    exact hf
  | [], _, _, _ + 1, _, _, h, _ => by cases h
  | g :: r, d, d1, k + 1, m, ho, h, hf => by
    unfold ran at h
    split at h
    · have := ran_fit (fun f hf => ho f (List.mem_cons_of_mem _ hf)) h (ho g (by simp) m d hf)
      rw [show m + (k + 1) = m + 1 + k by omega]
      exact this
    · cases h
end S
/-- What first answers. -/
def RetFirst (B l : Nat) (M : DM) (d : D.Dsk) (count : Nat) (w : World) (x : D.Dsk × Nat × Int) (e : Ending) (w' : World) : Prop :=
  e = .returned (.tuple #[.int .i64 x.2.1, .int .i64 x.2.2]) ∧ ∃ M', LgAt B l M' x.1 count w' ∧ Went (lgFoot l M d) w (lgFoot l M' x.1) w' ∧ M'.d = M.d
/-- What is asked of a step. -/
def StepOk (g : Nat) (args : Array Value) (B l : Nat) (M : DM) (d : D.Dsk) (count m : Nat) (w : World) (f : D.Dsk → D.Dsk × Int) : Prop :=
  ∀ (M1 : DM) (d1 : D.Dsk) (u : World), LgAt B l M1 d1 count u → Went (lgFoot l M d) w (lgFoot l M1 d1) u → M1.d = M.d → D.Fit m d1 → Calls Tryz.prog g args u (RetLog B l M1 d1 u ((f d1).1, count, (f d1).2))
set_option maxHeartbeats 4000000 in
theorem first4_any (B l : Nat) (M : DM) (d : D.Dsk) (count m : Nat) (bx by_ : Nat) (A : Option Addr) (c : Nat) (f0 f1 f2 f3 : D.Dsk → D.Dsk × Int) (w : World) (h : LgAt B l M d count w) (hf : D.Fit m d) (k0 : ∀ (m : Nat) (d : D.Dsk), D.Fit m d → D.Fit (m + 1) (f0 d).1) (k1 : ∀ (m : Nat) (d : D.Dsk), D.Fit m d → D.Fit (m + 1) (f1 d).1) (k2 : ∀ (m : Nat) (d : D.Dsk), D.Fit m d → D.Fit (m + 1) (f2 d).1) (k3 : ∀ (m : Nat) (d : D.Dsk), D.Fit m d → D.Fit (m + 1) (f3 d).1)
    (hx : Rd w A 4 1 [.func (.func 66) #[] #[.pointer (some ⟨bx, 0, none⟩)], .func (.func 67) #[] #[.pointer (some ⟨bx, 0, none⟩), .pointer (some ⟨by_, 0, none⟩)], .func (.func 69) #[] #[.pointer (some ⟨bx, 0, none⟩)], .func (.func 70) #[] #[.pointer (some ⟨bx, 0, none⟩)]]) (hA : ∀ a, A = some a → ¬ lgFoot l M d a.block)
    (h0 : StepOk 66 #[.pointer (some ⟨bx, 0, none⟩)] B l M d count (m + 0) w f0) (h1 : StepOk 67 #[.pointer (some ⟨bx, 0, none⟩), .pointer (some ⟨by_, 0, none⟩)] B l M d count (m + 1) w f1) (h2 : StepOk 69 #[.pointer (some ⟨bx, 0, none⟩)] B l M d count (m + 2) w f2) (h3 : StepOk 70 #[.pointer (some ⟨bx, 0, none⟩)] B l M d count (m + 3) w f3) :
    Calls Tryz.prog 58 #[.slice A 4 c] w (RetFirst B l M d count w (S.steps d [f0, f1, f2, f3])) := by
  have HFIT : Hid (∀ f ∈ [f0, f1, f2, f3], ∀ (m : Nat) (d : D.Dsk), D.Fit m d → D.Fit (m + 1) (f d).1) := Lib.hid (by
    intro f hf
    simp only [List.mem_cons, List.not_mem_nil, or_false] at hf
    rcases hf with rfl | rfl | rfl | rfl
    · exact k0
    · exact k1
    · exact k2
    · exact k3
    )
  obtain ⟨ops, hops⟩ : ∃ ops, [f0, f1, f2, f3] = ops := ⟨_, rfl⟩
  have HO0 : Hid (ops[0]? = some f0) := Lib.hid (by rw [← hops]; rfl)
  have HO1 : Hid (ops[1]? = some f1) := Lib.hid (by rw [← hops]; rfl)
  have HO2 : Hid (ops[2]? = some f2) := Lib.hid (by rw [← hops]; rfl)
  have HO3 : Hid (ops[3]? = some f3) := Lib.hid (by rw [← hops]; rfl)
  have HH0 := Lib.hid h0
  have HH1 := Lib.hid h1
  have HH2 := Lib.hid h2
  have HH3 := Lib.hid h3
  have HL : Hid (ops.length = 4) := Lib.hid (by rw [← hops]; rfl)
  have HX := Lib.hid hx
  have HA := Lib.hid hA
  have HD := Lib.hid h
  have HF := Lib.hid hf
  rw [hops] at HFIT ⊢
  clear h hx hA hf hops h0 k0 h1 k1 h2 k2 h3 k3
  go_enter Tryz.func58, Tryz.ntmps58
  go_wp2
  go_loopw [9] (fun i wr => ∃ (k : Nat) (M1 : DM) (d1 : D.Dsk), k ≤ 4 ∧ i = .int .i64 k ∧ S.ran d ops k = some d1 ∧ LgAt B l M1 d1 count wr ∧ Went (lgFoot l M d) w (lgFoot l M1 d1) wr ∧ M1.d = M.d) (fun i _ => 4 - (intOf i).toNat)
  case atStart => exact ⟨0, M, d, Nat.zero_le _, rfl, S.ran_zero _ _, HD.out, Went.refl _ _, rfl⟩
  case round =>
    obtain ⟨k, M1, d1, hk, rfl, hran, hd1, hw1, hm1⟩ := hrel
    have HR := Lib.hid hran
    have HD1 := Lib.hid hd1
    have HW1 := Lib.hid hw1
    have HM1 := Lib.hid hm1
    have HF1 := Lib.hid (S.ran_fit HFIT.out hran HF.out)
    clear hran hd1 hw1 hm1
    obtain ⟨wo, rfl⟩ : ∃ wo : World, wo = wr := ⟨_, rfl⟩
    obtain ⟨b, o, hAe, hblt, hcell⟩ := (HW1.out.rd HX.out (fun _ a ha => HA.out a ha)).2 (by decide)
    subst hAe
    have y0 : wo.cell? ⟨b, o, none⟩ = some (.func (.func 66) #[] #[.pointer (some ⟨bx, 0, none⟩)]) := hcell 0 _ rfl
    have y1 : wo.cell? ⟨b, o + 1, none⟩ = some (.func (.func 67) #[] #[.pointer (some ⟨bx, 0, none⟩), .pointer (some ⟨by_, 0, none⟩)]) := hcell 1 _ rfl
    have y2 : wo.cell? ⟨b, o + 2, none⟩ = some (.func (.func 69) #[] #[.pointer (some ⟨bx, 0, none⟩)]) := hcell 2 _ rfl
    have y3 : wo.cell? ⟨b, o + 3, none⟩ = some (.func (.func 70) #[] #[.pointer (some ⟨bx, 0, none⟩)]) := hcell 3 _ rfl
    clear hcell
    obtain rfl | rfl | rfl | rfl | rfl : k = 0 ∨ k = 1 ∨ k = 2 ∨ k = 3 ∨ k = 4 := by omega
    · clear y1 y2 y3
      have HC := Lib.hid (HH0.out M1 d1 wo HD1.out HW1.out HM1.out HF1.out)
      go_wp2_with fail
      refine HC.out.mono ?_
      rintro e w2 ⟨rfl, M2, hd2, hw2, hm2⟩
      have HD2 := Lib.hid hd2
      have HW2 := Lib.hid (HW1.out.trans hw2)
      have HM2 := Lib.hid (hm2.trans HM1.out)
      clear hd2 hw2 hm2 HC
      by_cases h0 : (f0 d1).2 = 0
      · have HN := Lib.hid (S.ran_next HR.out HO0.out h0)
        have h0b : ((f0 d1).2 != 0) = false := by rw [h0]; rfl
        go_wp2
        go_roundw
        case rel => exact ⟨1, M2, (f0 d1).1, by decide, by go_num, HN.out, HD2.out, HW2.out, HM2.out⟩
        case measure => simp [intOf]
      · have HN := Lib.hid (S.ran_bad HR.out HO0.out h0)
        have h0b : ((f0 d1).2 != 0) = true := by simpa using h0
        go_wp2
        go_ret2
        exact ⟨by rw [HN.out] <;> rfl, M2, by rw [HN.out]; exact HD2.out, by rw [HN.out]; exact HW2.out, HM2.out⟩
    · clear y0 y2 y3
      have HC := Lib.hid (HH1.out M1 d1 wo HD1.out HW1.out HM1.out HF1.out)
      go_wp2_with fail
      refine HC.out.mono ?_
      rintro e w2 ⟨rfl, M2, hd2, hw2, hm2⟩
      have HD2 := Lib.hid hd2
      have HW2 := Lib.hid (HW1.out.trans hw2)
      have HM2 := Lib.hid (hm2.trans HM1.out)
      clear hd2 hw2 hm2 HC
      by_cases h0 : (f1 d1).2 = 0
      · have HN := Lib.hid (S.ran_next HR.out HO1.out h0)
        have h0b : ((f1 d1).2 != 0) = false := by rw [h0]; rfl
        go_wp2
        go_roundw
        case rel => exact ⟨2, M2, (f1 d1).1, by decide, by go_num, HN.out, HD2.out, HW2.out, HM2.out⟩
        case measure => simp [intOf]
      · have HN := Lib.hid (S.ran_bad HR.out HO1.out h0)
        have h0b : ((f1 d1).2 != 0) = true := by simpa using h0
        go_wp2
        go_ret2
        exact ⟨by rw [HN.out] <;> rfl, M2, by rw [HN.out]; exact HD2.out, by rw [HN.out]; exact HW2.out, HM2.out⟩
    · clear y0 y1 y3
      have HC := Lib.hid (HH2.out M1 d1 wo HD1.out HW1.out HM1.out HF1.out)
      go_wp2_with fail
      refine HC.out.mono ?_
      rintro e w2 ⟨rfl, M2, hd2, hw2, hm2⟩
      have HD2 := Lib.hid hd2
      have HW2 := Lib.hid (HW1.out.trans hw2)
      have HM2 := Lib.hid (hm2.trans HM1.out)
      clear hd2 hw2 hm2 HC
      by_cases h0 : (f2 d1).2 = 0
      · have HN := Lib.hid (S.ran_next HR.out HO2.out h0)
        have h0b : ((f2 d1).2 != 0) = false := by rw [h0]; rfl
        go_wp2
        go_roundw
        case rel => exact ⟨3, M2, (f2 d1).1, by decide, by go_num, HN.out, HD2.out, HW2.out, HM2.out⟩
        case measure => simp [intOf]
      · have HN := Lib.hid (S.ran_bad HR.out HO2.out h0)
        have h0b : ((f2 d1).2 != 0) = true := by simpa using h0
        go_wp2
        go_ret2
        exact ⟨by rw [HN.out] <;> rfl, M2, by rw [HN.out]; exact HD2.out, by rw [HN.out]; exact HW2.out, HM2.out⟩
    · clear y0 y1 y2
      have HC := Lib.hid (HH3.out M1 d1 wo HD1.out HW1.out HM1.out HF1.out)
      go_wp2_with fail
      refine HC.out.mono ?_
      rintro e w2 ⟨rfl, M2, hd2, hw2, hm2⟩
      have HD2 := Lib.hid hd2
      have HW2 := Lib.hid (HW1.out.trans hw2)
      have HM2 := Lib.hid (hm2.trans HM1.out)
      clear hd2 hw2 hm2 HC
      by_cases h0 : (f3 d1).2 = 0
      · have HN := Lib.hid (S.ran_next HR.out HO3.out h0)
        have h0b : ((f3 d1).2 != 0) = false := by rw [h0]; rfl
        go_wp2
        go_roundw
        case rel => exact ⟨4, M2, (f3 d1).1, by decide, by go_num, HN.out, HD2.out, HW2.out, HM2.out⟩
        case measure => simp [intOf]
      · have HN := Lib.hid (S.ran_bad HR.out HO3.out h0)
        have h0b : ((f3 d1).2 != 0) = true := by simpa using h0
        go_wp2
        go_ret2
        exact ⟨by rw [HN.out] <;> rfl, M2, by rw [HN.out]; exact HD2.out, by rw [HN.out]; exact HW2.out, HM2.out⟩
    · clear y0 y1 y2 y3
      have HN := Lib.hid (S.ran_all (ops := ops) (by rw [HL.out]; exact HR.out))
      go_wp2
      go_ret2
      exact ⟨by rw [HN.out, HL.out] <;> rfl, M1, by rw [HN.out]; exact HD1.out, by rw [HN.out]; exact HW1.out, HM1.out⟩
set_option maxHeartbeats 4000000 in
theorem first3_any (B l : Nat) (M : DM) (d : D.Dsk) (count m : Nat) (bx : Nat) (A : Option Addr) (c : Nat) (f0 f1 f2 : D.Dsk → D.Dsk × Int) (w : World) (h : LgAt B l M d count w) (hf : D.Fit m d) (k0 : ∀ (m : Nat) (d : D.Dsk), D.Fit m d → D.Fit (m + 1) (f0 d).1) (k1 : ∀ (m : Nat) (d : D.Dsk), D.Fit m d → D.Fit (m + 1) (f1 d).1) (k2 : ∀ (m : Nat) (d : D.Dsk), D.Fit m d → D.Fit (m + 1) (f2 d).1)
    (hx : Rd w A 3 1 [.func (.func 59) #[] #[.pointer (some ⟨bx, 0, none⟩)], .func (.func 61) #[] #[.pointer (some ⟨bx, 0, none⟩)], .func (.func 63) #[.pointer (some ⟨M.d, 0, none⟩)] #[]]) (hA : ∀ a, A = some a → ¬ lgFoot l M d a.block)
    (h0 : StepOk 59 #[.pointer (some ⟨bx, 0, none⟩)] B l M d count (m + 0) w f0) (h1 : StepOk 61 #[.pointer (some ⟨bx, 0, none⟩)] B l M d count (m + 1) w f1) (h2 : StepOk 63 #[.pointer (some ⟨M.d, 0, none⟩)] B l M d count (m + 2) w f2) :
    Calls Tryz.prog 58 #[.slice A 3 c] w (RetFirst B l M d count w (S.steps d [f0, f1, f2])) := by
  have HFIT : Hid (∀ f ∈ [f0, f1, f2], ∀ (m : Nat) (d : D.Dsk), D.Fit m d → D.Fit (m + 1) (f d).1) := Lib.hid (by
    intro f hf
    simp only [List.mem_cons, List.not_mem_nil, or_false] at hf
    rcases hf with rfl | rfl | rfl
    · exact k0
    · exact k1
    · exact k2
    )
  obtain ⟨ops, hops⟩ : ∃ ops, [f0, f1, f2] = ops := ⟨_, rfl⟩
  have HO0 : Hid (ops[0]? = some f0) := Lib.hid (by rw [← hops]; rfl)
  have HO1 : Hid (ops[1]? = some f1) := Lib.hid (by rw [← hops]; rfl)
  have HO2 : Hid (ops[2]? = some f2) := Lib.hid (by rw [← hops]; rfl)
  have HH0 := Lib.hid h0
  have HH1 := Lib.hid h1
  have HH2 := Lib.hid h2
  have HL : Hid (ops.length = 3) := Lib.hid (by rw [← hops]; rfl)
  have HX := Lib.hid hx
  have HA := Lib.hid hA
  have HD := Lib.hid h
  have HF := Lib.hid hf
  rw [hops] at HFIT ⊢
  clear h hx hA hf hops h0 k0 h1 k1 h2 k2
  go_enter Tryz.func58, Tryz.ntmps58
  go_wp2
  go_loopw [9] (fun i wr => ∃ (k : Nat) (M1 : DM) (d1 : D.Dsk), k ≤ 3 ∧ i = .int .i64 k ∧ S.ran d ops k = some d1 ∧ LgAt B l M1 d1 count wr ∧ Went (lgFoot l M d) w (lgFoot l M1 d1) wr ∧ M1.d = M.d) (fun i _ => 3 - (intOf i).toNat)
  case atStart => exact ⟨0, M, d, Nat.zero_le _, rfl, S.ran_zero _ _, HD.out, Went.refl _ _, rfl⟩
  case round =>
    obtain ⟨k, M1, d1, hk, rfl, hran, hd1, hw1, hm1⟩ := hrel
    have HR := Lib.hid hran
    have HD1 := Lib.hid hd1
    have HW1 := Lib.hid hw1
    have HM1 := Lib.hid hm1
    have HF1 := Lib.hid (S.ran_fit HFIT.out hran HF.out)
    clear hran hd1 hw1 hm1
    obtain ⟨wo, rfl⟩ : ∃ wo : World, wo = wr := ⟨_, rfl⟩
    obtain ⟨b, o, hAe, hblt, hcell⟩ := (HW1.out.rd HX.out (fun _ a ha => HA.out a ha)).2 (by decide)
    subst hAe
    have y0 : wo.cell? ⟨b, o, none⟩ = some (.func (.func 59) #[] #[.pointer (some ⟨bx, 0, none⟩)]) := hcell 0 _ rfl
    have y1 : wo.cell? ⟨b, o + 1, none⟩ = some (.func (.func 61) #[] #[.pointer (some ⟨bx, 0, none⟩)]) := hcell 1 _ rfl
    have y2 : wo.cell? ⟨b, o + 2, none⟩ = some (.func (.func 63) #[.pointer (some ⟨M.d, 0, none⟩)] #[]) := hcell 2 _ rfl
    clear hcell
    obtain rfl | rfl | rfl | rfl : k = 0 ∨ k = 1 ∨ k = 2 ∨ k = 3 := by omega
    · clear y1 y2
      have HC := Lib.hid (HH0.out M1 d1 wo HD1.out HW1.out HM1.out HF1.out)
      go_wp2_with fail
      refine HC.out.mono ?_
      rintro e w2 ⟨rfl, M2, hd2, hw2, hm2⟩
      have HD2 := Lib.hid hd2
      have HW2 := Lib.hid (HW1.out.trans hw2)
      have HM2 := Lib.hid (hm2.trans HM1.out)
      clear hd2 hw2 hm2 HC
      by_cases h0 : (f0 d1).2 = 0
      · have HN := Lib.hid (S.ran_next HR.out HO0.out h0)
        have h0b : ((f0 d1).2 != 0) = false := by rw [h0]; rfl
        go_wp2
        go_roundw
        case rel => exact ⟨1, M2, (f0 d1).1, by decide, by go_num, HN.out, HD2.out, HW2.out, HM2.out⟩
        case measure => simp [intOf]
      · have HN := Lib.hid (S.ran_bad HR.out HO0.out h0)
        have h0b : ((f0 d1).2 != 0) = true := by simpa using h0
        go_wp2
        go_ret2
        exact ⟨by rw [HN.out] <;> rfl, M2, by rw [HN.out]; exact HD2.out, by rw [HN.out]; exact HW2.out, HM2.out⟩
    · clear y0 y2
      have HC := Lib.hid (HH1.out M1 d1 wo HD1.out HW1.out HM1.out HF1.out)
      go_wp2_with fail
      refine HC.out.mono ?_
      rintro e w2 ⟨rfl, M2, hd2, hw2, hm2⟩
      have HD2 := Lib.hid hd2
      have HW2 := Lib.hid (HW1.out.trans hw2)
      have HM2 := Lib.hid (hm2.trans HM1.out)
      clear hd2 hw2 hm2 HC
      by_cases h0 : (f1 d1).2 = 0
      · have HN := Lib.hid (S.ran_next HR.out HO1.out h0)
        have h0b : ((f1 d1).2 != 0) = false := by rw [h0]; rfl
        go_wp2
        go_roundw
        case rel => exact ⟨2, M2, (f1 d1).1, by decide, by go_num, HN.out, HD2.out, HW2.out, HM2.out⟩
        case measure => simp [intOf]
      · have HN := Lib.hid (S.ran_bad HR.out HO1.out h0)
        have h0b : ((f1 d1).2 != 0) = true := by simpa using h0
        go_wp2
        go_ret2
        exact ⟨by rw [HN.out] <;> rfl, M2, by rw [HN.out]; exact HD2.out, by rw [HN.out]; exact HW2.out, HM2.out⟩
    · clear y0 y1
      have HC := Lib.hid (HH2.out M1 d1 wo HD1.out HW1.out HM1.out HF1.out)
      go_wp2_with fail
      refine HC.out.mono ?_
      rintro e w2 ⟨rfl, M2, hd2, hw2, hm2⟩
      have HD2 := Lib.hid hd2
      have HW2 := Lib.hid (HW1.out.trans hw2)
      have HM2 := Lib.hid (hm2.trans HM1.out)
      clear hd2 hw2 hm2 HC
      by_cases h0 : (f2 d1).2 = 0
      · have HN := Lib.hid (S.ran_next HR.out HO2.out h0)
        have h0b : ((f2 d1).2 != 0) = false := by rw [h0]; rfl
        go_wp2
        go_roundw
        case rel => exact ⟨3, M2, (f2 d1).1, by decide, by go_num, HN.out, HD2.out, HW2.out, HM2.out⟩
        case measure => simp [intOf]
      · have HN := Lib.hid (S.ran_bad HR.out HO2.out h0)
        have h0b : ((f2 d1).2 != 0) = true := by simpa using h0
        go_wp2
        go_ret2
        exact ⟨by rw [HN.out] <;> rfl, M2, by rw [HN.out]; exact HD2.out, by rw [HN.out]; exact HW2.out, HM2.out⟩
    · clear y0 y1 y2
      have HN := Lib.hid (S.ran_all (ops := ops) (by rw [HL.out]; exact HR.out))
      go_wp2
      go_ret2
      exact ⟨by rw [HN.out, HL.out] <;> rfl, M1, by rw [HN.out]; exact HD1.out, by rw [HN.out]; exact HW1.out, HM1.out⟩
end Go.Proofs.YtkempjcphpnocaaGreatDoor
