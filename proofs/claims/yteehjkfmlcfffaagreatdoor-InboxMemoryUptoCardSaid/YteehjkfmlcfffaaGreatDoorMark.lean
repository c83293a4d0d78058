/- The walks of Marked and Apart: what they write lies in the lists' own blocks, or is new. Conditions: lists of at most 2^40 elements, sixteen lists at most, no two of which share a block. -/
import Derived.Test.YteehjkfmlcfffaaGreatDoorMarkL
import Derived.IntWalk
namespace Go.Proofs.YteehjkfmlcfffaaGreatDoor
open Go.RowKit

set_option maxRecDepth 100000 in
set_option maxHeartbeats 1000000 in
theorem marked_any (base : Nat) (A : Option Addr) (c : Nat) (fs : List FD) (w : World) (hn : fs.length ≤ 1099511627776) (hr : Row w base 148 2 A fs.length c (fcells fs)) (hb : base ≤ w.heap.size) :
    Calls Tryz.prog 33 #[.slice A fs.length c] w (fun e w' => e = .returned (.bool true) ∧ w.grownBy w' (ownB A c)) := by
  have HR := Lib.hid hr
  obtain ⟨n, hnn⟩ : ∃ n, n = fs.length := ⟨_, rfl⟩
  rw [← hnn] at HR hn ⊢
  have HN := Lib.hid hnn
  clear hr hnn
  go_enter Tryz.func33, Tryz.ntmps33
  go_wp2
  go_loopw [3] (fun i wr => ∃ (k : Nat) (xs : List FD), k ≤ n ∧ i = .int .i64 k ∧ xs.length = n ∧ Row wr base 148 2 A n c (fcells xs) ∧ w.grownBy wr (ownB A c)) (fun i _ => n - (intOf i).toNat)
  case atStart => exact ⟨0, fs, Nat.zero_le _, rfl, HN.out.symm, HR.out, World.grownBy.refl _ _⟩
  case round =>
    obtain ⟨k, xs, hk, rfl, hxl, hrow, hg⟩ := hrel
    have HXL := Lib.hid hxl
    have HROW := Lib.hid hrow
    have HG := Lib.hid hg
    have hcap := hrow.cap.1
    clear hrow hg hxl HR HN
    by_cases hlt : k < n
    · obtain ⟨g, hA, hown⟩ : ∃ g, A = some ⟨g, 0, none⟩ ∧ wr.ownsRow base 148 2 (.slice (some ⟨g, 0, none⟩) n c) n (fcells xs) := by
        rcases HROW.out with h | h
        · obtain ⟨g, cap, hv, _⟩ := h.form (by omega)
          cases hv
          exact ⟨g, rfl, h⟩
        · omega
      subst hA
      have hkx : k < xs.length := by rw [HXL.out]; exact hlt
      have ca1 := hown.cellAt (k * 2) (by omega)
      rw [(fcells_at xs k hkx).1] at ca1
      have fa1 := hown.frozenAt (k * 2)
      have hst := hown.stored (k * 2) (.string ⟨#[109, 97, 114, 107]⟩)
      rw [fcells_name xs k hkx] at hst
      have hob : ownB (some ⟨g, 0, none⟩) c = some g := by unfold ownB; rw [if_neg (by omega)]; rfl
      rw [hob] at HG
      have HST := Lib.hid (And.intro hst.1 (HG.out.trans hst.2))
      have HOB := Lib.hid hob
      have HXS : Hid ((xs.set k (⟨#[109, 97, 114, 107]⟩, (xs[k]'hkx).2)).length = n) := Lib.hid (by rw [List.length_set]; exact HXL.out)
      clear hst hown hob HROW HG HXL
      go_wp2
      go_roundw
      case rel => exact ⟨k + 1, _, by omega, by go_num, HXS.out, .inl HST.out.1, by rw [HOB.out]; exact HST.out.2⟩
      case measure => simp [intOf]; omega
    · obtain rfl : k = n := by omega
      go_wp2
      go_loopw [0, 4] (fun s i wi => ∃ (j : Nat) (A2 : Option Addr) (c2 : Nat) (ys : List FD), j ≤ 9 ∧ i = .int .i64 j ∧ s = .slice A2 (k + j) c2 ∧ Row wi base 148 2 A2 (k + j) c2 (fcells ys) ∧ w.grownBy wi (ownB A c) ∧ ((A2 = A ∧ c2 = c) ∨ ∀ b, ownB A2 c2 = some b → w.heap.size ≤ b)) (fun _ i _ => 9 - (intOf i).toNat)
      case atStart => exact ⟨0, A, c, xs, Nat.zero_le _, rfl, rfl, HROW.out, HG.out, .inl ⟨rfl, rfl⟩⟩
      case round =>
        clear HROW HG
        obtain ⟨j, A2, c2, ys, hj, rfl, rfl, hrow, hg, hw2⟩ := hrel
        have HROW := Lib.hid hrow
        have HG := Lib.hid (hg.andThen (World.grownBy_alloc _ (.cells #[.string ⟨#[109, 111, 114, 101]⟩, .string ⟨#[]⟩] 148) none) (fun j hj => by cases hj))
        have HW2 := Lib.hid hw2
        have hz := hg.size
        have HD := Lib.hid hg
        clear hrow hg hw2
        by_cases hlt9 : j < 9
        · clear HD
          go_wp2_with (at_builtin; refine appF _ rfl (.tmp 19) (.tmp 21) rfl base A2 (k + j) c2 ys rfl (HROW.out.alloc _) _ 1 1 [(⟨#[109, 111, 114, 101]⟩, ⟨#[]⟩)] rfl (newF _ (⟨#[109, 111, 114, 101]⟩, ⟨#[]⟩)) (by omega) (by rw [World.size_alloc]; omega) ?_; intro A3 c3 w3 hr3 ha3; have HR3 := Lib.hid hr3; have HG3 := Lib.hid (grown_app HG.out HW2.out ha3); clear hr3 ha3)
          go_roundw
          case rel => exact ⟨j + 1, A3, c3, _, by omega, by go_num, rfl, HR3.out, HG3.out.1, HG3.out.2⟩
          case measure => simp [intOf]; omega
        · obtain rfl : j = 9 := by omega
          clear HROW HG HW2
          go_wp2
          go_ret
          exact ⟨ret_bool (by simp; omega), HD.out⟩

/-! ### Apart -/
def mkB (i : Nat) : UInt8 := UInt8.ofNat (7 * i + 1)
theorem mkB_nat {i : Nat} (h : i < 16) : ((mkB i).toNat : Int) = 7 * (i : Int) + 1 := by
  unfold mkB
  rw [UInt8.toNat_ofNat']
  omega
def moB (i : Nat) : UInt8 := UInt8.ofNat (128 + i)
theorem moB_nat {i : Nat} (h : i < 16) : ((moB i).toNat : Int) = 128 + (i : Int) := by
  unfold moB
  rw [UInt8.toNat_ofNat']
  omega
theorem wrap_u8 {x : Int} (h0 : 0 ≤ x) (h1 : x < 256) : IntKind.u8.wrap x = x := by
  unfold IntKind.wrap
  simp [IntKind.bits, IntKind.signed]
  omega
/-- The list's block, where it has an element. -/
theorem CRow.block {w : World} {base : Nat} {A : Option Addr} {n c : Nat} {bs : List UInt8} (h : CRow w base A n c bs) (hn : 0 < n) : ∃ g, A = some ⟨g, 0, none⟩ ∧ ∀ j, j < n → (∃ v, w.cell? ⟨g, j, none⟩ = some v) ∧ w.frozen? ⟨g, j, none⟩ = false := by
  rcases h.2.2 with h0 | ⟨g, hA, _, _, hf, _⟩
  · have := h.2.1; omega
  · refine ⟨g, hA, fun j hj => ⟨?_, (hf j (by have := h.2.1; omega)).2⟩⟩
    exact Option.isSome_iff_exists.1 (hf j (by have := h.2.1; omega)).1
theorem CRow.at_ {w : World} {base : Nat} {A : Option Addr} {n c j : Nat} {bs : List UInt8} {x : UInt8} (h : CRow w base A n c bs) (hj : bs[j]? = some x) : ∃ g, A = some ⟨g, 0, none⟩ ∧ w.cell? ⟨g, j, none⟩ = some (.int .u8 x.toNat) := by
  have hl : j < n := by have := (List.getElem?_eq_some_iff.1 hj).1; have := h.1; omega
  rcases h.2.2 with h0 | ⟨g, hA, _, _, _, hc⟩
  · have := h.2.1; omega
  · exact ⟨g, hA, hc j _ (by simp [bcells, hj])⟩

set_option maxRecDepth 100000 in
set_option maxHeartbeats 4000000 in
theorem apart_anyK (base k : Nat) (A : Nat → Option Addr) (n c : Nat → Nat) (hb ho cc : Nat) (f : Nat → List UInt8) (w : World) (hk : k ≤ 16) (hn : ∀ i, i < k → n i ≤ 1099511627776) (hd : LDis k A c hb) (hs : LSt w base k A n c hb ho f w) (hz : base ≤ w.heap.size) :
    Calls Tryz.prog 32 #[.slice (some ⟨hb, ho, none⟩) k cc] w (fun e w' => e = .returned (.bool true) ∧ Below base w w' ∧ ∀ b, b < w.heap.size → (∀ i, i < k → ownB (A i) (c i) ≠ some b) → w'.heap[b]? = w.heap[b]?) := by
  have HS := Lib.hid hs
  have HD := Lib.hid hd
  have HN := Lib.hid hn
  clear hs hd hn
  go_enter Tryz.func32, Tryz.ntmps32
  go_wp2
  go_loopw [3] (fun i wr => ∃ (p : Nat) (f1 : Nat → List UInt8), p ≤ k ∧ i = .int .i64 p ∧ LSt w base k A n c hb ho f1 wr ∧ ∀ t, t < p → ∀ q, q < n t → (f1 t)[q]? = some (mkB t)) (fun i _ => k - (intOf i).toNat)
  case atStart => exact ⟨0, f, Nat.zero_le _, rfl, HS.out, fun t ht => absurd ht (Nat.not_lt_zero _)⟩
  case round =>
    obtain ⟨wo, rfl⟩ : ∃ wo : World, wo = wr := ⟨_, rfl⟩
    obtain ⟨p, f1, hp, rfl, hst, hmk⟩ := hrel
    have HST := Lib.hid hst
    have HMK := Lib.hid hmk
    clear hst hmk HS
    by_cases hlt : p < k
    · have hcell := HST.out.cell p hlt
      have hp16 : p < 16 := by omega
      have hnp := HN.out p hlt
      go_wp2_with fail
      clear hcell
      go_loopw [4] (fun j wi => ∃ (q : Nat) (f2 : Nat → List UInt8), q ≤ n p ∧ j = .int .i64 q ∧ LSt w base k A n c hb ho f2 wi ∧ (∀ t, t < p → ∀ r, r < n t → (f2 t)[r]? = some (mkB t)) ∧ ∀ r, r < q → (f2 p)[r]? = some (mkB p)) (fun j _ => n p - (intOf j).toNat)
      case atStart => exact ⟨0, f1, Nat.zero_le _, rfl, HST.out, HMK.out, fun r hr => absurd hr (Nat.not_lt_zero _)⟩
      case round =>
        obtain ⟨q, f2, hq, rfl, hst2, hmk2, hmk3⟩ := hrel
        have HST2 := Lib.hid hst2
        have HMK2 := Lib.hid hmk2
        have HMK3 := Lib.hid hmk3
        have hcell2 := HST2.out.cell p hlt
        clear hst2 hmk2 hmk3 HST HMK
        by_cases hqn : q < n p
        · have hrow := HST2.out.row p hlt
          obtain ⟨g, hA, hg⟩ := hrow.block (by omega)
          obtain ⟨⟨v0, hv0⟩, hfz⟩ := hg q hqn
          have hbz := Nat.le_trans hz HST2.out.below.size
          have hset := HST2.out.set HD.out hlt hA hqn hbz (mkB p)
          rw [mkB_nat hp16] at hset
          have hlen := hrow.1
          have hw := wrap_u8 (x := 7 * (p : Int) + 1) (by omega) (by omega)
          rw [hA] at hcell2
          have HSET := Lib.hid hset
          have HLEN := Lib.hid hlen
          clear hset hrow hg hA hlen HST2
          go_wp2
          go_roundw
          case rel =>
            refine ⟨q + 1, _, by omega, by go_num, HSET.out, fun t ht r hr => ?_, fun r hr => ?_⟩
            · have e : ¬ t = p := by omega
              simp only [if_neg e]
              exact HMK2.out t ht r hr
            · simp only [if_true]
              by_cases hrq : r = q
              · subst hrq
                exact List.getElem?_set_self (by rw [HLEN.out]; exact hqn)
              · rw [List.getElem?_set_ne (Ne.symm hrq)]
                exact HMK3.out r (by omega)
          case measure => simp [intOf]; omega
        · obtain rfl : q = n p := by omega
          go_wp2
          go_roundw
          case rel =>
            refine ⟨p + 1, f2, by omega, by go_num, HST2.out, fun t ht r hr => ?_⟩
            by_cases htp : t = p
            · subst htp
              exact HMK3.out r hr
            · exact HMK2.out t (by omega) r hr
          case measure => simp [intOf]; omega
    · obtain rfl : p = k := by omega
      go_wp2
      go_loopw [5] (fun i wr => ∃ (s : Nat) (f2 : Nat → List UInt8), s ≤ p ∧ i = .int .i64 s ∧ LSt w base p A n c hb ho f2 wr ∧ ∀ t, t < p → ∀ q, q < n t → (f2 t)[q]? = some (mkB t)) (fun i _ => p - (intOf i).toNat)
      case atStart => exact ⟨0, f1, Nat.zero_le _, rfl, HST.out, HMK.out⟩
      case round =>
        clear HST HMK
        obtain ⟨wp, rfl⟩ : ∃ wp : World, wp = wr := ⟨_, rfl⟩
        obtain ⟨s, f2, hs, rfl, hst, hmk⟩ := hrel
        have HST := Lib.hid hst
        have HMK := Lib.hid hmk
        clear hst hmk
        by_cases hlt : s < p
        · have hcell := HST.out.cell s hlt
          have hs16 : s < 16 := by omega
          have hnp := HN.out s hlt
          have hbz := Nat.le_trans hz HST.out.below.size
          have HWZ := Lib.hid HST.out.below.size
          have HLT : Hid ((∀ t b, t < p → ownB (A t) (c t) = some b → b < wp.heap.size) ∧ hb < wp.heap.size) := Lib.hid ⟨fun t b ht e => ((HST.out.row t ht).lt b e).2, cell_lt hcell⟩
          go_wp2_with fail
          clear hcell
          go_loopw [6, 7] (fun o j wi => ∃ (q : Nat) (A2 : Option Addr) (c2 : Nat) (xs : List UInt8), q ≤ 16 ∧ j = .int .i64 q ∧ o = .slice A2 (n s + q) c2 ∧ LSt w base p A n c hb ho f2 wi ∧ CRow wi base A2 (n s + q) c2 xs ∧ xs.take (n s) = f2 s ∧ ((A2 = A s ∧ c2 = c s) ∨ ∀ b, ownB A2 c2 = some b → wp.heap.size ≤ b) ∧ wp.heap.size ≤ wi.heap.size) (fun _ j _ => 16 - (intOf j).toNat)
          case atStart => exact ⟨0, A s, c s, f2 s, Nat.zero_le _, rfl, rfl, HST.out, (HST.out.row s hlt), List.take_of_length_le (by rw [(HST.out.row s hlt).1]; exact Nat.le_refl _), .inl ⟨rfl, rfl⟩, Nat.le_refl _⟩
          case round =>
            obtain ⟨q, A2, c2, xs, hq, rfl, rfl, hst2, hrow, htk, hwh, hzz⟩ := hrel
            have HST2 := Lib.hid hst2
            have HROW := Lib.hid hrow
            have HTK := Lib.hid htk
            have HWH := Lib.hid hwh
            have hbz2 := Nat.le_trans hbz hzz
            clear hst2 hrow htk hwh HST
            by_cases hq16 : q < 16
            · have hw := wrap_u8 (x := 128 + (s : Int)) (by omega) (by omega)
              have hnew := fun u : World => newB u (moB s)
              rw [moB_nat hs16] at hnew
              have HNEW := Lib.hid hnew
              have HAL := Lib.hid (HST2.out.alloc hbz2 (.cells #[.int .u8 (128 + (s : Int))] 5))
              have HAR := Lib.hid (HROW.out.alloc (.cells #[.int .u8 (128 + (s : Int))] 5))
              have hbz3 : base ≤ (wr.alloc (.cells #[.int .u8 (128 + (s : Int))] 5)).heap.size := by rw [World.size_alloc]; omega
              have hzz3 : wp.heap.size ≤ (wr.alloc (.cells #[.int .u8 (128 + (s : Int))] 5)).heap.size := by rw [World.size_alloc]; omega
              clear hnew HST2 HROW
              go_wp2_with (at_builtin; refine appC2 _ rfl (.tmp 50) (.tmp 54) rfl base A2 (n s + q) c2 xs rfl HAR.out _ 1 1 [moB s] rfl (HNEW.out _) (by omega) hbz3 ?_; intro A3 c3 w3 hr3 ha3 hk3; have HR3 := Lib.hid hr3; have HL3 := Lib.hid (HAL.out.app HD.out hlt hbz3 HTK.out HLT.out.1 HLT.out.2 HAR.out HWH.out ha3 hk3 hzz3 HWZ.out hr3); have hz3 := ha3.grown.size; clear hr3 ha3 hk3 HAL HAR HWH)
              have HT3 : Hid ((xs ++ [moB s]).take (n s) = f2 s) := Lib.hid (by
                have h := HTK.out
                have hl := HR3.out.1
                rw [List.length_append] at hl
                simp only [List.length_cons, List.length_nil] at hl
                rw [List.take_append_of_le_length (by omega), h])
              go_roundw
              case rel => exact ⟨q + 1, A3, c3, _, by omega, by go_num, rfl, HL3.out.1, HR3.out, HT3.out, HL3.out.2, by omega⟩
              case measure => simp [intOf]; omega
            · obtain rfl : q = 16 := by omega
              have hcell2 := HST2.out.cell s hlt
              have HRS := Lib.hid (HST2.out.row s hlt)
              clear HROW HTK HWH
              go_wp2_with (at_builtin; refine appZ _ rfl (.tmp 60) (.const (.int .i64 600)) rfl base (A s) (n s) (c s) (f2 s) rfl HRS.out 600 rfl (by omega) (by omega) ?_; intro A3 c3 w3 hg3 hk3; have HL3 := Lib.hid ((HST2.out.turn (i := s) hg3 hbz2 (fun b e => ⟨(HRS.out.lt b e).1, HD.out.head s b hlt e⟩) (fun j hj hjs b e e2 => HD.out.two s j b hlt hj hjs e2 e) (fun b e _ => ⟨s, hlt, e⟩) hk3).same (g := f2) (fun j _ => by by_cases e : j = s <;> simp [e])); clear hg3 hk3; have hcell3 := HL3.out.cell s hlt)
              go_roundw
              case rel => exact ⟨s + 1, f2, by omega, by go_num, HL3.out, HMK.out⟩
              case measure => simp [intOf]; omega
        · obtain rfl : s = p := by omega
          go_wp2
          go_loopw [9] (fun i wr => ∃ (v : Nat), v ≤ s ∧ i = .int .i64 v ∧ wp = wr) (fun i _ => s - (intOf i).toNat)
          case atStart => exact ⟨0, Nat.zero_le _, rfl, rfl⟩
          case round =>
            obtain ⟨v, hv, rfl, rfl⟩ := hrel
            by_cases hvl : v < s
            · have hcell := HST.out.cell v hvl
              have hv16 : v < 16 := by omega
              have hnp := HN.out v hvl
              go_wp2_with fail
              go_loopw [10] (fun j wi => ∃ (q : Nat), q ≤ n v ∧ j = .int .i64 q ∧ wp = wi) (fun j _ => n v - (intOf j).toNat)
              case atStart => exact ⟨0, Nat.zero_le _, rfl, rfl⟩
              case round =>
                obtain ⟨q, hq, rfl, rfl⟩ := hrel
                by_cases hqn : q < n v
                · obtain ⟨g, hA, hc⟩ := (HST.out.row v hvl).at_ (HMK.out v hvl q hqn)
                  rw [mkB_nat hv16] at hc
                  rw [hA] at hcell
                  have hw := wrap_u8 (x := 7 * (v : Int) + 1) (by omega) (by omega)
                  clear hA
                  go_wp2
                  go_roundw
                  case rel => exact ⟨q + 1, by omega, by go_num, trivial⟩
                  case measure => simp [intOf]; omega
                · obtain rfl : q = n v := by omega
                  go_wp2
                  go_roundw
                  case rel => exact ⟨v + 1, by omega, by go_num, trivial⟩
                  case measure => simp [intOf]; omega
            · obtain rfl : v = s := by omega
              go_wp2
              go_ret
              exact ⟨ret_bool (by simp), HST.out.below, HST.out.keep⟩
end Go.Proofs.YteehjkfmlcfffaaGreatDoor
