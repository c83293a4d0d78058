/- The walks of the document's Show, and the contract of strconv.Itoa. Conditions: the number is of 64 bits; for Itoa the library's table of powers of ten is as its text lays it. -/
import Derived.Test.YtcdbppoohlabnaaGreatDoorStripA
import Derived.Lib.AppendIntMem
namespace Go.Proofs.YtcdbppoohlabnaaGreatDoor
open Go.RowKit

/-! ### Itoa -/
/-- The table of powers of ten lies as the library's text lays it. -/
def TabOk (w : World) : Prop := Lib.TabIs Tryz.prog w "internal/strconv.uint64pow10" .u64 Lib.pow10Tab
theorem tab_named : ∃ g, Tryz.prog.globalNamed "internal/strconv.uint64pow10" = some g := ⟨3, by kernel_rfl⟩
theorem TabOk.below {w w' : World} (h : TabOk w) (hb : Below w.heap.size w w') : TabOk w' := by
  obtain ⟨g, hg⟩ := tab_named
  unfold TabOk Lib.TabIs at h ⊢
  refine var?_below hb hg ?_ h
  unfold World.var? at h
  rw [hg] at h
  simp only [Option.bind_some] at h
  rcases Nat.lt_or_ge g w.heap.size with hlt | hge
  · exact hlt
  · rw [Array.getElem?_eq_none hge] at h; simp at h
theorem TabOk.alloc {w : World} (h : TabOk w) (o : Obj) : TabOk (w.alloc o) := h.below ((Below.refl _ _).alloc (Nat.le_refl _) _)
theorem itoa_any (n : Int) (h0 : -9223372036854775808 ≤ n) (h1 : n ≤ 9223372036854775807) (w : World) (ht : TabOk w) : Calls Tryz.prog 86 #[.int .i64 n] w (RetS w (B (Lib.itoa n))) := by
  refine (Tryz.strconv_Itoa n h0 h1 w ht).mono ?_
  rintro e w' ⟨rfl, k, os, rfl⟩
  exact ⟨rfl, Lib.below_grow _ w (Nat.le_refl _) k os⟩

/-! ### Show -/
/-- The digits, the lowest first. -/
def lows : Nat → Nat → List UInt8
  | 0, _ => []
  | n + 1, u => if u = 0 then [] else UInt8.ofNat (48 + u % 10) :: lows n (u / 10)
theorem lows_enough : ∀ (n m u : Nat), u ≤ n → u ≤ m → lows n u = lows m u
  | 0, 0, u, _, _ => rfl
  | 0, m + 1, u, h, _ => by
    have : u = 0 := by omega
    subst this; rfl
  | n + 1, 0, u, _, h => by
    have : u = 0 := by omega
    subst this; rfl
  | n + 1, m + 1, u, h, h' => by
    unfold lows
    split
    · rfl
    · rw [lows_enough n m (u / 10) (by omega) (by omega)]
def low (u : Nat) : List UInt8 := lows u u
theorem low_zero : low 0 = [] := rfl
theorem low_pos {u : Nat} (h : 0 < u) : low u = UInt8.ofNat (48 + u % 10) :: low (u / 10) := by
  obtain ⟨n, rfl⟩ : ∃ n, u = n + 1 := ⟨u - 1, by omega⟩
  show lows (n + 1) (n + 1) = _
  rw [lows, if_neg (by omega), low, lows_enough n ((n + 1) / 10) ((n + 1) / 10) (by omega) (Nat.le_refl _)]
theorem low_len (k : Nat) : ∀ u : Nat, u < 10 ^ k → (low u).length ≤ k := by
  induction k with
  | zero => intro u h; have : u = 0 := by simpa using h
            subst this; simp [low_zero]
  | succ k ih =>
    intro u h
    rcases Nat.eq_zero_or_pos u with h0 | h0
    · subst h0; simp [low_zero]
    · rw [low_pos h0, List.length_cons]
      have := ih (u / 10) (by rw [Nat.div_lt_iff_lt_mul (by omega)]; rw [Nat.pow_succ] at h; exact h)
      omega
theorem dec_low : ∀ u : Nat, 0 < u → Lib.decDigits u = (low u).reverse := by
  intro u
  induction u using Nat.strongRecOn with
  | ind u ih =>
    intro h
    rw [low_pos h, List.reverse_cons]
    rw [Lib.decDigits]
    split
    · rename_i h10
      have : u / 10 = 0 := by omega
      rw [this, low_zero, Nat.mod_eq_of_lt h10]; rfl
    · rw [ih (u / 10) (by omega) (by omega)]
theorem itoa_show (n : Int) (h : n ≠ 0) : Lib.itoa n = ((low n.natAbs) ++ (if n < 0 then [45] else [])).reverse := by
  unfold Lib.itoa
  split
  · rw [dec_low n.natAbs (by omega)]; simp
  · rw [dec_low n.toNat (by omega)]
    have : n.toNat = n.natAbs := by omega
    rw [this]; simp
theorem digit_byte (x : Nat) : ((UInt8.ofNat (48 + x % 10)).toNat : Int) = 48 + ((x % 10 : Nat) : Int) := by
  have : (UInt8.ofNat (48 + x % 10)).toNat = 48 + x % 10 := by
    rw [UInt8.toNat_ofNat']
    omega
  omega

set_option maxHeartbeats 4000000 in
theorem show_pos (n : Int) (w : World) (h0 : 0 < n) (h1 : n ≤ 9223372036854775807) :
    Calls Tryz.prog 107 #[.int .i64 n] w (RetS w (B (Lib.itoa n))) := by
  have hz : n ≠ 0 := by omega
  have hz1 : (n == 0) = false := by rw [beq_eq_false_iff_ne]; exact hz
  have hfin := itoa_show n hz
  have HF := Lib.hid hfin
  have hlen : (low n.natAbs).length ≤ 20 := low_len 20 _ (by omega)
  have hneg : decide (n < 0) = false := decide_eq_false (by omega)
  clear hfin hz
  have hneg' : ¬ n < 0 := of_decide_eq_false hneg
  obtain ⟨u, hu⟩ : ∃ u : Nat, n = (u : Int) := ⟨n.toNat, by omega⟩
  subst hu
  rw [Int.natAbs_natCast] at hlen HF
  have hfin := HF.out
  rw [if_neg hneg', List.append_nil] at hfin
  have HF := Lib.hid hfin
  clear hfin
  go_enter Tryz.func107, Tryz.ntmps107
  go_wp2
  go_loopw [0, 3, 5] (fun v o _ wr => ∃ (x m : Nat) (ds : List UInt8) (A : Option Addr) (c : Nat), v = .int .i64 x ∧ o = .slice A m c ∧ m = ds.length ∧ x ≤ u ∧ low u = ds ++ low x ∧ Row wr w.heap.size 5 1 A m c (bcells ds) ∧ Below w.heap.size w wr) (fun v _ _ _ => (intOf v).toNat)
  case atStart => exact ⟨u, 0, [], _, 0, rfl, rfl, rfl, Nat.le_refl _, rfl, Row.empty _ _ _ _ _, (Below.refl _ _).alloc (Nat.le_refl _) _⟩
  case round =>
    obtain ⟨x, m, ds, A, c, rfl, rfl, hm, hxu, hlow, hrow, hbel⟩ := hrel
    have hml : m ≤ 20 := by rw [hlow, List.length_append] at hlen; omega
    have HM := Lib.hid hm
    have HLO := Lib.hid hlow
    clear hm hlow
    by_cases hx : 0 < x
    · have hxi : (0 : Int) < (x : Int) := by omega
      have hxne : ((x : Int) != 0) = true := by rw [bne_iff_ne]; omega
      have hm0 : (0 : Int) ≤ (x : Int) % 10 := by omega
      have hm1 : (x : Int) % 10 < 10 := by omega
      have hnews : ∀ w : World, Rd (w.alloc (.cells #[.int .u8 (48 + (x : Int) % 10)] 5)) (some ⟨w.heap.size, 0, none⟩) 1 1 (bcells [UInt8.ofNat (48 + x % 10)]) := fun w => by
        have := newB w (UInt8.ofNat (48 + x % 10))
        rw [digit_byte] at this
        exact this
      have HNW := Lib.hid hnews
      clear hnews
      go_wp2_with (at_builtin; refine appB _ rfl (.tmp 21) (.tmp 25) rfl w.heap.size A m c _ rfl (hrow.alloc _) _ 1 1 [UInt8.ofNat (48 + x % 10)] rfl (HNW.out _) (by omega) (by have := hbel.size; simp; omega) ?_; intro A1 c1 w1 hr1 ha1)
      go_roundw
      case rel =>
        refine ⟨x / 10, m + 1, _, A1, c1, by go_num, rfl, by rw [HM.out]; simp, by omega, ?_, hr1, ?_⟩
        · rw [HLO.out, low_pos hx, List.append_assoc]; rfl
        · exact (hbel.alloc hbel.size _).trans (ha1.below (hrow.alloc _) (by have := hbel.size; simp; omega))
      case measure => simp [intOf]; omega
    · have hx0 : x = 0 := by omega
      obtain ⟨z, hz⟩ : ∃ z : Int, z = (x : Int) := ⟨_, rfl⟩
      rw [← hz]
      have hzne : (z != 0) = false := by rw [hz, hx0]; rfl
      clear hz
      have hall : low u = ds := by rw [HLO.out, hx0, low_zero, List.append_nil]
      rw [hall] at HF
      obtain ⟨all, hal⟩ : ∃ all, all = ds := ⟨_, rfl⟩
      obtain ⟨N0, hN0⟩ : ∃ N0, N0 = m := ⟨_, rfl⟩
      rw [← hal] at hrow HF HM
      rw [← hN0] at hrow HM hml ⊢
      have HALL := HM
      have hrdA := hrow.rd
      clear hall hal hN0 hrow HLO HM hx0 hx hxu
      go_wp2
      go_loopw [6, 7] (fun o i wr => ∃ (j q : Nat) (O : Option Addr) (oc : Nat), j ≤ N0 ∧ i = .int .i64 ((j : Int) - 1) ∧ o = .slice O q oc ∧ q = N0 - j ∧ Row wr w.heap.size 5 1 O q oc (bcells (all.drop j).reverse) ∧ Rd wr A N0 1 (bcells all) ∧ Sep O oc A N0 ∧ Below w.heap.size w wr) (fun _ i _ => (intOf i + 1).toNat)
      case atStart => exact ⟨N0, 0, _, 0, Nat.le_refl _, rfl, rfl, by omega, by rw [List.drop_of_length_le (by rw [← HALL.out]; exact Nat.le_refl _)]; exact Row.empty _ _ _ _ _, hrdA.alloc _, Sep.none_ _ _ _, hbel.alloc hbel.size _⟩
      case round =>
        clear hrdA hbel
        obtain ⟨j, q, O, oc, hj, rfl, rfl, hq, hro, hrd, hsep, hbel⟩ := hrel
        have hq30 : q ≤ 30 := by omega
        have HQ := Lib.hid hq
        clear hq
        by_cases hj0 : 0 < j
        · obtain ⟨i, rfl⟩ : ∃ i, j = i + 1 := ⟨j - 1, by omega⟩
          have hil : i < all.length := by rw [← HALL.out]; omega
          have hiN : i < N0 := by omega
          obtain ⟨b2, o2, rfl, hb2, c2⟩ := hrd.byte (show i < N0 by omega) HALL.out.symm
          have hdr : all.drop i = all[i] :: all.drop (i + 1) := List.drop_eq_getElem_cons hil
          obtain ⟨y, hy⟩ : ∃ y, y = all[i]'hil := ⟨_, rfl⟩
          rw [← hy] at c2 hdr
          have HDR := Lib.hid hdr
          clear hy hdr
          have hi0 : (0 : Int) ≤ (i : Int) := by omega
          go_wp2_with (at_builtin; refine appB _ rfl (.tmp 41) (.tmp 46) rfl w.heap.size O q oc _ rfl (hro.alloc _) _ 1 1 [y] rfl (newB _ _) (by omega) (by have := hbel.size; simp; omega) ?_; intro A3 c3 w3 hr3 ha3)
          go_roundw
          case rel =>
            refine ⟨i, q + 1, A3, c3, by omega, by go_num, rfl, by have := HQ.out; omega, ?_, ?_, ?_, ?_⟩
            · rw [HDR.out, List.reverse_cons]; exact hr3
            · exact ha3.rd (hrd.alloc _) hsep
            · exact ha3.sep (hrd.alloc _) hsep
            · exact (hbel.alloc hbel.size _).trans (ha3.below (hro.alloc _) (by have := hbel.size; simp; omega))
          case measure => simp [intOf]
        · have hj00 : j = 0 := by omega
          subst hj00
          rw [List.drop_zero] at hro
          have hqn : q = N0 := by have := HQ.out; omega
          have hcv := conv_bs hro.rd oc
          clear HQ hqn
          go_wp2
          go_ret
          exact ⟨ret_string (by rw [HF.out]), hbel⟩

set_option maxHeartbeats 4000000 in
theorem show_neg (n : Int) (w : World) (h0 : n < 0) (h1 : -9223372036854775808 ≤ n) :
    Calls Tryz.prog 107 #[.int .i64 n] w (RetS w (B (Lib.itoa n))) := by
  have hz : n ≠ 0 := by omega
  have hz1 : (n == 0) = false := by rw [beq_eq_false_iff_ne]; exact hz
  have hfin := itoa_show n hz
  have hlen : (low n.natAbs).length ≤ 20 := low_len 20 _ (by omega)
  rw [if_pos h0] at hfin
  have HF := Lib.hid hfin
  have hneg : decide (n < 0) = true := decide_eq_true h0
  clear hfin hz
  obtain ⟨u, hu⟩ : ∃ u : Nat, u = n.natAbs := ⟨_, rfl⟩
  rw [← hu] at hlen HF
  have hun : n = -(u : Int) := by omega
  have HUN := Lib.hid hun
  clear hu hun
  go_enter Tryz.func107, Tryz.ntmps107
  go_wp2
  go_loopw [0, 3, 5] (fun v o _ wr => ∃ (z : Int) (x m : Nat) (ds : List UInt8) (A : Option Addr) (c : Nat), v = .int .i64 z ∧ z = -(x : Int) ∧ o = .slice A m c ∧ m = ds.length ∧ x ≤ u ∧ low u = ds ++ low x ∧ Row wr w.heap.size 5 1 A m c (bcells ds) ∧ Below w.heap.size w wr) (fun v _ _ _ => (intOf v).natAbs)
  case atStart => exact ⟨n, u, 0, [], _, 0, rfl, HUN.out, rfl, rfl, Nat.le_refl _, rfl, Row.empty _ _ _ _ _, (Below.refl _ _).alloc (Nat.le_refl _) _⟩
  case round =>
    obtain ⟨z, x, m, ds, A, c, rfl, hzx, rfl, hm, hxu, hlow, hrow, hbel⟩ := hrel
    have hml : m ≤ 20 := by rw [hlow, List.length_append] at hlen; omega
    have hubd : (u : Int) ≤ 9223372036854775808 := by have := HUN.out; omega
    have HM := Lib.hid hm
    have HLO := Lib.hid hlow
    have HZX := Lib.hid hzx
    clear hm hlow hzx
    by_cases hx : 0 < x
    · have hxne : (z != 0) = true := by rw [bne_iff_ne]; have := HZX.out; omega
      have hr9 : x % 10 < 10 := Nat.mod_lt _ (by omega)
      have hqb : x / 10 ≤ 922337203685477580 := by omega
      have hmod0 : z.tmod 10 = -((x % 10 : Nat) : Int) := by
        rw [HZX.out, Int.neg_tmod, Int.tmod_eq_emod_of_nonneg (by omega)]; omega
      have hdiv0 : z.tdiv 10 = -((x / 10 : Nat) : Int) := by
        rw [HZX.out, Int.neg_tdiv, Int.tdiv_eq_ediv_of_nonneg (by omega)]; omega
      have hdig := digit_byte x
      have hlx := low_pos hx
      have hmeas : x / 10 < x := by omega
      obtain ⟨r, hr⟩ : ∃ r, r = x % 10 := ⟨_, rfl⟩
      obtain ⟨q, hq⟩ : ∃ q, q = x / 10 := ⟨_, rfl⟩
      rw [← hr] at hmod0 hdig hlx hr9
      rw [← hq] at hdiv0 hlx hqb hmeas
      have hqle : q ≤ u := by omega
      have HLX := Lib.hid hlx
      have HDG := Lib.hid hdig
      clear hr hq hlx hdig
      have hzb : -9223372036854775808 ≤ z := by have := HZX.out; omega
      have hzb2 : z ≤ 0 := by have := HZX.out; omega
      have hnat : z.natAbs = x := by have := HZX.out; omega
      have HNA := Lib.hid hnat
      clear hnat
      by_cases hr0 : 0 < r
      · have hneg2 : -(r : Int) < 0 := by omega
        have hdd : decide (-(r : Int) < 0) = true := decide_eq_true hneg2
        have hr1 : (r : Int) < 10 := by omega
        have hr2 : (0 : Int) < (r : Int) := by omega
        have hnews : ∀ w : World, Rd (w.alloc (.cells #[.int .u8 (48 + (r : Int))] 5)) (some ⟨w.heap.size, 0, none⟩) 1 1 (bcells [UInt8.ofNat (48 + r)]) := fun w => by
          have := newB w (UInt8.ofNat (48 + r))
          rw [HDG.out] at this
          exact this
        have HNW := Lib.hid hnews
        clear hnews
        go_wp2_with (at_builtin; refine appB _ rfl (.tmp 21) (.tmp 25) rfl w.heap.size A m c _ rfl (hrow.alloc _) _ 1 1 [UInt8.ofNat (48 + r)] rfl (HNW.out _) (by omega) (by have := hbel.size; simp; omega) ?_; intro A1 c1 w1 hr1 ha1)
        go_roundw
        case rel =>
          refine ⟨-(q : Int), q, m + 1, _, A1, c1, rfl, rfl, rfl, by rw [HM.out]; simp, hqle, ?_, hr1, ?_⟩
          · rw [HLO.out, HLX.out, List.append_assoc]; rfl
          · exact (hbel.alloc hbel.size _).trans (ha1.below (hrow.alloc _) (by have := hbel.size; simp; omega))
        case measure => simp [intOf]; have := HNA.out; omega
      · have hr00 : r = 0 := by omega
        have hmod1 : z.tmod 10 = 0 := by rw [hmod0, hr00]; rfl
        have hnews : ∀ w : World, Rd (w.alloc (.cells #[.int .u8 48] 5)) (some ⟨w.heap.size, 0, none⟩) 1 1 (bcells [UInt8.ofNat (48 + r)]) := fun w => by
          have := newB w (UInt8.ofNat (48 + r))
          have e : ((UInt8.ofNat (48 + r)).toNat : Int) = 48 := by rw [HDG.out, hr00]; rfl
          rw [e] at this
          exact this
        have HNW := Lib.hid hnews
        clear hnews hmod0 hr00
        go_wp2_with (at_builtin; refine appB _ rfl (.tmp 21) (.tmp 25) rfl w.heap.size A m c _ rfl (hrow.alloc _) _ 1 1 [UInt8.ofNat (48 + r)] rfl (HNW.out _) (by omega) (by have := hbel.size; simp; omega) ?_; intro A1 c1 w1 hr1 ha1)
        go_roundw
        case rel =>
          refine ⟨-(q : Int), q, m + 1, _, A1, c1, rfl, rfl, rfl, by rw [HM.out]; simp, hqle, ?_, hr1, ?_⟩
          · rw [HLO.out, HLX.out, List.append_assoc]; rfl
          · exact (hbel.alloc hbel.size _).trans (ha1.below (hrow.alloc _) (by have := hbel.size; simp; omega))
        case measure => simp [intOf]; have := HNA.out; omega
    · have hx0 : x = 0 := by omega
      have hzne : (z != 0) = false := by rw [HZX.out, hx0]; rfl
      have hall : low u = ds := by rw [HLO.out, hx0, low_zero, List.append_nil]
      rw [hall] at HF
      clear hall HLO HZX hx0 hx hxu
      go_wp2_with (at_builtin; refine appB _ rfl (.tmp 30) (.tmp 31) rfl w.heap.size A m c _ rfl (hrow.alloc _) _ 1 1 [45] rfl (newB _ 45) (by omega) (by have := hbel.size; simp; omega) ?_; intro A1 c1 w1 hr1 ha1)
      have hbel1 : Below w.heap.size w w1 := (hbel.alloc hbel.size _).trans (ha1.below (hrow.alloc _) (by have := hbel.size; simp; omega))
      have hm1 : m + 1 = (ds ++ [45]).length := by rw [HM.out]; simp
      clear hbel hrow ha1
      obtain ⟨all, hal⟩ : ∃ all, all = ds ++ [45] := ⟨_, rfl⟩
      rw [← hal] at hr1 HF hm1
      have hbel := hbel1
      have hrow := hr1
      obtain ⟨N0, hN0⟩ : ∃ N0, N0 = m + 1 := ⟨_, rfl⟩
      have hml : N0 ≤ 21 := by omega
      rw [← hN0] at hrow hm1 ⊢
      have HALL := Lib.hid hm1
      have hrdA := hrow.rd
      obtain ⟨A, hA⟩ : ∃ A, A = A1 := ⟨_, rfl⟩
      rw [← hA] at hrdA ⊢
      have HN0 := Lib.hid hN0
      clear hal hN0 hrow HM hm1 hr1 hbel1 hA
      go_loopw [6, 7] (fun o i wr => ∃ (j q : Nat) (O : Option Addr) (oc : Nat), j ≤ N0 ∧ i = .int .i64 ((j : Int) - 1) ∧ o = .slice O q oc ∧ q = N0 - j ∧ Row wr w.heap.size 5 1 O q oc (bcells (all.drop j).reverse) ∧ Rd wr A N0 1 (bcells all) ∧ Sep O oc A N0 ∧ Below w.heap.size w wr) (fun _ i _ => (intOf i + 1).toNat)
      case atStart => exact ⟨N0, 0, _, 0, Nat.le_refl _, by rw [show ((N0 : Int) - 1) = (m : Int) from by have := HN0.out; omega], rfl, by omega, by rw [List.drop_of_length_le (by rw [← HALL.out]; exact Nat.le_refl _)]; exact Row.empty _ _ _ _ _, hrdA.alloc _, Sep.none_ _ _ _, hbel.alloc hbel.size _⟩
      case round =>
        clear hrdA hbel
        obtain ⟨j, q, O, oc, hj, rfl, rfl, hq, hro, hrd, hsep, hbel⟩ := hrel
        have hq30 : q ≤ 30 := by omega
        have HQ := Lib.hid hq
        clear hq
        by_cases hj0 : 0 < j
        · obtain ⟨i, rfl⟩ : ∃ i, j = i + 1 := ⟨j - 1, by omega⟩
          have hil : i < all.length := by rw [← HALL.out]; omega
          have hiN : i < N0 := by omega
          obtain ⟨b2, o2, rfl, hb2, c2⟩ := hrd.byte (show i < N0 by omega) HALL.out.symm
          have hdr : all.drop i = all[i] :: all.drop (i + 1) := List.drop_eq_getElem_cons hil
          obtain ⟨y, hy⟩ : ∃ y, y = all[i]'hil := ⟨_, rfl⟩
          rw [← hy] at c2 hdr
          have HDR := Lib.hid hdr
          clear hy hdr
          have hi0 : (0 : Int) ≤ (i : Int) := by omega
          go_wp2_with (at_builtin; refine appB _ rfl (.tmp 41) (.tmp 46) rfl w.heap.size O q oc _ rfl (hro.alloc _) _ 1 1 [y] rfl (newB _ _) (by omega) (by have := hbel.size; simp; omega) ?_; intro A3 c3 w3 hr3 ha3)
          go_roundw
          case rel =>
            refine ⟨i, q + 1, A3, c3, by omega, by go_num, rfl, by have := HQ.out; omega, ?_, ?_, ?_, ?_⟩
            · rw [HDR.out, List.reverse_cons]; exact hr3
            · exact ha3.rd (hrd.alloc _) hsep
            · exact ha3.sep (hrd.alloc _) hsep
            · exact (hbel.alloc hbel.size _).trans (ha3.below (hro.alloc _) (by have := hbel.size; simp; omega))
          case measure => simp [intOf]
        · have hj00 : j = 0 := by omega
          subst hj00
          rw [List.drop_zero] at hro
          have hqn : q = N0 := by have := HQ.out; omega
          have hcv := conv_bs hro.rd oc
          clear HQ hqn
          go_wp2
          go_ret
          exact ⟨ret_string (by rw [HF.out]), hbel⟩

theorem show_zero (w : World) : Calls Tryz.prog 107 #[.int .i64 0] w (RetS w (B (Lib.itoa 0))) := by
  have hfin : B (Lib.itoa 0) = ⟨#[48]⟩ := by
    unfold Lib.itoa
    rw [if_neg (by omega)]
    show B (Lib.decDigits 0) = _
    rw [Lib.decDigits_one (by omega)]; rfl
  rw [hfin]
  go_enter Tryz.func107, Tryz.ntmps107
  go_wp2
  go_ret
  exact ⟨rfl, Below.refl _ _⟩
theorem show_any (n : Int) (w : World) (h0 : -9223372036854775808 ≤ n) (h1 : n ≤ 9223372036854775807) : Calls Tryz.prog 107 #[.int .i64 n] w (RetS w (B (Lib.itoa n))) := by
  rcases Int.lt_trichotomy n 0 with h | h | h
  · exact show_neg n w h h0
  · subst h; exact show_zero w
  · exact show_pos n w h h1
end Go.Proofs.YtcdbppoohlabnaaGreatDoor
