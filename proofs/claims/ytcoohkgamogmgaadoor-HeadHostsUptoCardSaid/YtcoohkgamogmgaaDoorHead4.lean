/- The walk of head.cut. Conditions: a row of at most 2^31 bytes; internal/bytealg.MaxLen holds some number. -/
import Derived.Test.YtcoohkgamogmgaaDoorHead3
import Derived.Deep.DeepCutAuto
namespace Go.Proofs.YtcoohkgamogmgaaDoor
open Go.RowKit

namespace P
theorem hText_facts (bs : List UInt8) (k : Nat) (h : 0 ≤ hIdx bs k) : ∃ i j : Nat, hIdx bs k = i ∧ k + i + 4 ≤ bs.length ∧ Lib.index (hText bs k) crlf = j ∧ j ≤ i ∧ (hText bs k).length = i + 2 := by
  unfold hIdx at h
  rcases Lib.index_spec (bs.drop k) crlf2 with ⟨h1, _⟩ | ⟨i, h1, h2, h3, _⟩
  · omega
  · have hroom := Lib.index_room (bs.drop k) crlf2 h
    have hl4 : crlf2.length = 4 := rfl
    rw [h1, hl4, List.length_drop] at hroom
    have hi : hIdx bs k = i := h1
    have hlen : (hText bs k).length = i + 2 := by
      unfold hText
      rw [hi, List.length_take, List.length_drop]
      omega
    unfold Lib.occAt at h3
    rw [List.isPrefixOf_iff_prefix] at h3
    obtain ⟨t, ht⟩ := h3
    have hd : (hText bs k).drop i = crlf := by
      unfold hText
      rw [hi, List.drop_take, ← ht]
      have : ((i : Int) + 2).toNat - i = 2 := by omega
      rw [this]
      rfl
    rcases Lib.index_spec (hText bs k) crlf with ⟨g1, g2⟩ | ⟨j, g1, g2, g3, g4⟩
    · have := g2 i (by omega)
      unfold Lib.occAt at this
      rw [hd] at this
      exact absurd this (by decide)
    · refine ⟨i, j, hi, by omega, g1, ?_, hlen⟩
      rcases Nat.lt_or_ge i j with hij | hij
      · have := g4 i hij
        unfold Lib.occAt at this
        rw [hd] at this
        exact absurd this (by decide)
      · exact hij
end P

theorem bindex_any (A B0 : Option Addr) (n c m d : Nat) (xs ys : List UInt8) (w : World) (hnc : n ≤ c) (hn : n ≤ 2147483648) (hm0 : 1 < m) (hm : m ≤ 2147483648) (hA : A = none → n = 0 ∧ c = 0) (hx : Rd w A n 1 (bcells xs)) (hy : Rd w B0 m 1 (bcells ys)) (ht : LibOk w) :
    Calls Tryd.prog 105 #[.slice A n c, .slice B0 m d] w (RetI w (Lib.index xs ys)) := by
  obtain ⟨_, q, hq⟩ := ht
  cases A with
  | none =>
    obtain ⟨rfl, rfl⟩ := hA rfl
    refine (Tryd.bytes_Index_nil B0 m d w (by omega) (fun h => absurd h (by omega))).mono ?_
    rintro e w' ⟨rfl, rfl⟩
    rw [if_neg (by omega)]
    have hxn : xs = [] := List.eq_nil_of_length_eq_zero (rd_len hx)
    have hyn := rd_len hy
    subst hxn
    cases ys with
    | nil => simp at hyn; omega
    | cons y ys => exact ⟨rfl, Below.refl _ _⟩
  | some a =>
    obtain ⟨b2, o2, rfl, _, hc2⟩ := hy.2 (by omega)
    have hcell : ∀ (p : Addr) (l : List UInt8) (m : Nat), l.length = m → (∀ ad, some p = some ad → 0 < m → ∀ j u, (bcells l)[j]? = some u → w.cell? (ad.add j) = some u) → ∀ i, i < m → w.cell? (p.add i) = some (.int .u8 ((ints l).getD i 0)) := fun p l m hl h i hi => by
      have hi' : i < l.length := by omega
      rw [h p rfl (by omega) i (.int .u8 (l[i]'hi').toNat) (by simp [bcells, hi'])]
      simp [ints, List.getD, hi']
    refine (Tryd.bytes_Index_at a ⟨b2, o2, none⟩ n c m d (ints xs) (ints ys) q w (by rw [ints_len]; exact rd_len hx) (by rw [ints_len]; exact rd_len hy) (ints_range _) (ints_range _) (hcell a xs n (rd_len hx) hx.cells) (hcell _ ys m (rd_len hy) hy.cells) hnc (by omega) (by omega) hq).mono ?_
    rintro e w' ⟨rfl, r, rfl⟩
    rw [bytesOf_ints, bytesOf_ints]
    exact ⟨rfl, below_drewN (Below.refl _ _) r⟩
theorem bcut_any (A B0 : Option Addr) (n c m d : Nat) (xs ys : List UInt8) (w : World) (hnc : n ≤ c) (hn : n ≤ 2147483648) (hm : m ≤ 2147483648) (hA : A = none → c = 0) (hx : Rd w A n 1 (bcells xs)) (hy : Rd w B0 m 1 (bcells ys)) (ht : LibOk w) :
    Calls Tryd.prog 106 #[.slice A n c, .slice B0 m d] w fun e w' => e = .returned (Lib.cutV A n c m (Lib.index xs ys)) ∧ Below w.heap.size w w' := by
  obtain ⟨_, q, hq⟩ := ht
  refine (Tryd.bytes_Cut_all A B0 n c m d (ints xs) (ints ys) q w (by rw [ints_len]; exact rd_len hx) (by rw [ints_len]; exact rd_len hy) (ints_range _) (ints_range _) (ints_in hx) (ints_in hy) hA hnc (by omega) (by omega) hq).mono ?_
  rintro e w' ⟨rfl, r, rfl⟩
  rw [bytesOf_ints, bytesOf_ints]
  exact ⟨rfl, below_drewN (Below.refl _ _) r⟩

/-- A head's first line and its fields' bytes, answered. -/
def RetCut (w : World) (bs : List UInt8) (k c : Nat) (e : Ending) (w' : World) : Prop :=
  ∃ (ln : ByteArray) (A2 : Option Addr) (n2 c2 : Nat), e = .returned (.tuple #[.string ln, .slice A2 n2 c2, .int .i64 (P.hN bs k), .int .i64 (P.hE bs k)]) ∧ Below w.heap.size w w' ∧ (P.hE bs k = 0 → P.hN bs k ≠ 0 → ln = B (P.hLine bs k) ∧ Rd w A2 n2 1 (bcells (P.hBlock bs k)) ∧ n2 ≤ c2 ∧ c2 ≤ c ∧ n2 ≤ bs.length)

set_option maxRecDepth 100000 in
set_option maxHeartbeats 4000000 in
theorem hcut_any (A : Option Addr) (n c k : Nat) (bs : List UInt8) (w : World) (hnm : n ≤ 1073741824) (hnc : n ≤ c) (hkn : k ≤ n) (hA : A = none → n = 0 ∧ c = 0) (hpl : ∀ a, A = some a → a.spot = none) (hx : Rd w A n 1 (bcells bs)) (ht : LibOk w) :
    Calls Tryd.prog 72 #[.slice A n c, .int .i64 k] w (RetCut w bs k c) := by
  have hll := rd_len hx
  have HX := Lib.hid hx
  have HT := Lib.hid (fun (u : World) (hu : Below w.heap.size w u) => ht.below hu)
  have HIX : Hid (∀ A' n' c', n' ≤ c' → n' ≤ n → (A' = none → n' = 0 ∧ c' = 0) → Rd w A' n' 1 (bcells (bs.drop k)) → Calls Tryd.prog 105 #[.slice A' n' c', .slice (some ⟨w.heap.size, 0, none⟩) 4 4] (w.alloc (.cells #[.int .u8 13, .int .u8 10, .int .u8 13, .int .u8 10] 5 (4, 5))) (RetI (w.alloc (.cells #[.int .u8 13, .int .u8 10, .int .u8 13, .int .u8 10] 5 (4, 5))) (P.hIdx bs k))) := Lib.hid (fun A' n' c' h1 h2 h3 h4 =>
    bindex_any A' (some ⟨w.heap.size, 0, none⟩) n' c' 4 4 (bs.drop k) P.crlf2 _ h1 (by omega) (by omega) (by omega) h3 (h4.alloc _) (Rd.newRowM w 5 #[.int .u8 13, .int .u8 10, .int .u8 13, .int .u8 10] (4, 5) 4 1 rfl) (ht.below ((Below.refl _ _).alloc (Nat.le_refl _) _)))
  have hcc := Lib.run_convert_bytes_const (P := Tryd.prog) w 29 5 #[.int .u8 13, .int .u8 10, .int .u8 13, .int .u8 10] 4 4 Tryd.underlying29 Tryd.underlying5
  have hge : -1 ≤ P.hIdx bs k := Lib.index_ge _ _
  have HF := Lib.hid (P.hText_facts bs k)
  have hem : (bs.drop k).length = 0 → P.hIdx bs k < 0 := fun h => by
    rcases (by omega : P.hIdx bs k < 0 ∨ 0 ≤ P.hIdx bs k) with h0 | h0
    · exact h0
    · obtain ⟨i, j, h1, h2, _⟩ := P.hText_facts bs k h0
      rw [List.length_drop] at h
      omega
  obtain ⟨ix, hix⟩ : ∃ ix, P.hIdx bs k = ix := ⟨_, rfl⟩
  have hNE : (P.hN bs k = if ix < 0 ∨ 8192 < k + ix + 4 then 0 else k + ix + 4) ∧ P.hE bs k = if ix < 0 then (if bs.length < 8192 then 0 else 51) else if 8192 < k + ix + 4 then 51 else 0 := by
    unfold P.hN P.hE
    rw [hix]
    exact ⟨rfl, rfl⟩
  have HNE := Lib.hid hNE
  rw [hix] at HIX hge hem HF
  have HB0 := Lib.hid ((Below.refl w.heap.size w).alloc (Nat.le_refl _) (.cells #[.int .u8 13, .int .u8 10, .int .u8 13, .int .u8 10] 5 (4, 5)))
  have HHX := Lib.hid hix
  clear hNE hx ht hix
  rw [List.length_drop, hll] at hem
  cases A with
  | none =>
    obtain ⟨rfl, rfl⟩ := hA rfl
    obtain rfl : k = 0 := by omega
    clear hA hpl
    have hlt0 : ix < 0 := hem rfl
    clear hem
    go_enter Tryd.func72, Tryd.ntmps72
    go_wp2_with fail
    refine (HIX.out none 0 0 (Nat.le_refl _) (Nat.le_refl _) (fun _ => ⟨rfl, rfl⟩) (by simpa using HX.out)).mono ?_
    rintro e w1 ⟨rfl, hb1⟩
    have HB1 := Lib.hid (below_then HB0.out.size HB0.out hb1)
    clear hb1 HIX HB0 hcc
    have hneg : ix = -1 := by omega
    subst hneg
    by_cases hn8 : bs.length < 8192
    · have HN : Hid (P.hN bs 0 = 0 ∧ P.hE bs 0 = 0) := Lib.hid ⟨HNE.out.1.trans (if_pos (.inl (by decide))), HNE.out.2.trans ((if_pos (by decide)).trans (if_pos hn8))⟩
      have hn8i : (0 : Int) < 8192 := by omega
      go_wp2
      refine bodyPost_ret (v := .tuple #[.string ⟨#[]⟩, .slice none 0 0, .int .i64 0, .int .i64 0]) (by simp [results, Tryd.results72, go_sem]) rfl ?_
      exact ⟨⟨#[]⟩, none, 0, 0, by rw [HN.out.1, HN.out.2], HB1.out, fun _ h => absurd HN.out.1 h⟩
    · exact absurd (by omega) hn8
  | some a =>
    obtain ⟨b, o, p⟩ := a
    obtain rfl : p = none := hpl _ rfl
    clear hpl hA
    by_cases hkc : k = c
    · obtain rfl : k = n := by omega
      subst hkc
      have hlt0 : ix < 0 := hem (Nat.sub_self _)
      clear hem
      go_enter Tryd.func72, Tryd.ntmps72
      go_wp2_with fail
      refine (HIX.out (some ⟨b, o, none⟩) 0 0 (Nat.le_refl _) (Nat.zero_le _) (fun h => by cases h) (by have := HX.out.from_ (Nat.le_refl k); rw [Nat.sub_self] at this; exact ⟨this.1, fun h => absurd h (by omega)⟩)).mono ?_
      rintro e w1 ⟨rfl, hb1⟩
      have HB1 := Lib.hid (below_then HB0.out.size HB0.out hb1)
      clear hb1 HIX HB0 hcc
      have hneg : ix = -1 := by omega
      subst hneg
      by_cases hn8 : bs.length < 8192
      · have HN : Hid (P.hN bs k = 0 ∧ P.hE bs k = 0) := Lib.hid ⟨HNE.out.1.trans (if_pos (.inl (by decide))), HNE.out.2.trans ((if_pos (by decide)).trans (if_pos hn8))⟩
        have hn8i : (k : Int) < 8192 := by omega
        go_wp2
        refine bodyPost_ret (v := .tuple #[.string ⟨#[]⟩, .slice none 0 0, .int .i64 0, .int .i64 0]) (by simp [results, Tryd.results72, go_sem]) rfl ?_
        exact ⟨⟨#[]⟩, none, 0, 0, by rw [HN.out.1, HN.out.2], HB1.out, fun _ h => absurd HN.out.1 h⟩
      · have HN : Hid (P.hN bs k = 0 ∧ P.hE bs k = 51) := Lib.hid ⟨HNE.out.1.trans (if_pos (.inl (by decide))), HNE.out.2.trans ((if_pos (by decide)).trans (if_neg hn8))⟩
        have hn8i : ¬ (k : Int) < 8192 := by omega
        go_wp2
        refine bodyPost_ret (v := .tuple #[.string ⟨#[]⟩, .slice none 0 0, .int .i64 0, .int .i64 51]) (by simp [results, Tryd.results72, go_sem]) rfl ?_
        exact ⟨⟨#[]⟩, none, 0, 0, by rw [HN.out.1, HN.out.2], HB1.out, fun _ h => absurd HN.out.1 h⟩
    · have hkci : (k : Int) < (c : Int) := by omega
      have hkci2 : ¬ (k : Int) = (c : Int) := by omega
      have hknc : k < c := by omega
      clear hem
      go_enter Tryd.func72, Tryd.ntmps72
      go_wp2_with fail
      refine (HIX.out (some ⟨b, o + k, none⟩) (n - k) (c - k) (by omega) (by omega) (fun h => by cases h) (HX.out.from_ hkn)).mono ?_
      rintro e w1 ⟨rfl, hb1⟩
      have HB1 := Lib.hid (below_then HB0.out.size HB0.out hb1)
      clear hb1 HIX HB0 hcc
      by_cases hpos : 0 ≤ ix
      · skip
        obtain ⟨i, j, hi, hroom, hj, hji, hlen⟩ := HF.out hpos
        subst hi
        rw [hll] at hroom
        by_cases h8 : 8192 < k + i + 4
        · have HN : Hid (P.hN bs k = 0 ∧ P.hE bs k = 51) := Lib.hid ⟨HNE.out.1.trans (if_pos (.inr (by omega))), HNE.out.2.trans ((if_neg (by omega)).trans (if_pos (by omega)))⟩
          have h8i : (8192 : Int) < (k : Int) + (i : Int) + 4 := by omega
          have h0i : ¬ (i : Int) < 0 := by omega
          go_wp2
          refine bodyPost_ret (v := .tuple #[.string ⟨#[]⟩, .slice none 0 0, .int .i64 0, .int .i64 51]) (by simp [results, Tryd.results72, go_sem]) rfl ?_
          exact ⟨⟨#[]⟩, none, 0, 0, by rw [HN.out.1, HN.out.2], HB1.out, fun _ h => absurd HN.out.1 h⟩
        · have HN : Hid (P.hN bs k = (k : Int) + (i : Int) + 4 ∧ P.hE bs k = 0) := Lib.hid ⟨HNE.out.1.trans (if_neg (by omega)), HNE.out.2.trans ((if_neg (by omega)).trans (if_neg (by omega)))⟩
          have h8i : ¬ (8192 : Int) < (k : Int) + (i : Int) + 4 := by omega
          have h0i : ¬ (i : Int) < 0 := by omega
          have hroomi : (k : Int) + (i : Int) + 4 ≤ (c : Int) := by omega
          have hcc1 := Lib.run_convert_bytes_const (P := Tryd.prog) w1 29 5 #[.int .u8 13, .int .u8 10] 2 2 Tryd.underlying29 Tryd.underlying5
          have HB2 := Lib.hid (HB1.out.alloc HB1.out.size (.cells #[.int .u8 13, .int .u8 10] 5 (2, 3)))
          have hhx := HHX.out
          have HTX : Hid (P.hText bs k = (bs.drop k).take (i + 2)) := Lib.hid (by unfold P.hText; rw [hhx]; congr 1)
          clear hhx
          have hrdk := HX.out.from_ hkn
          have hrdt := hrdk.upto (show i + 2 ≤ n - k by omega)
          rw [← HTX.out] at hrdt
          have HRT := Lib.hid hrdt
          have HCU := Lib.hid (bcut_any (some ⟨b, o + k, none⟩) (some ⟨w1.heap.size, 0, none⟩) (i + 2) (c - k) 2 2 (P.hText bs k) P.crlf (w1.alloc (.cells #[.int .u8 13, .int .u8 10] 5 (2, 3))) (by omega) (by omega) (by omega) (fun h => by cases h) (hrdt.below HB2.out) (Rd.newRowM w1 5 #[.int .u8 13, .int .u8 10] (2, 3) 2 1 rfl) (HT.out _ HB2.out))
          rw [hj] at HCU
          have hcv : Lib.cutV (some ⟨b, o + k, none⟩) (i + 2) (c - k) 2 (j : Int) = .tuple #[.slice (some ⟨b, o + k, none⟩) j (c - k), .slice (some ⟨b, o + k + (j + 2), none⟩) (i + 2 - (j + 2)) (c - k - (j + 2)), .bool true] := by
            unfold Lib.cutV Lib.fromV
            rw [if_pos (by omega), Int.toNat_natCast, if_neg (by omega)]
            have : (⟨b, o + k, none⟩ : Addr).add (j + 2) = ⟨b, o + k + (j + 2), none⟩ := by unfold Addr.add; split <;> simp_all
            simp only [Option.map_some, this]
          rw [hcv] at HCU
          clear hcv hrdk hrdt
          have HJ := Lib.hid hj
          have HLEN := Lib.hid hlen
          clear hj hlen
          go_upto_region 7 with fail
          obtain ⟨x6, hx6⟩ : ∃ x6 : Int, x6 = (k : Int) + (i : Int) + 4 := ⟨_, rfl⟩
          rw [← hx6]
          obtain ⟨M, hM⟩ : ∃ M : Nat, M = k + i + 2 := ⟨_, rfl⟩
          have e6 : x6 - 2 = (M : Int) := by omega
          have hx6b : x6 ≤ 9000000000 := by omega
          have hx6a : 2 ≤ x6 := by omega
          have hkM : (k : Int) ≤ (M : Int) := by omega
          have hMc : (M : Int) ≤ (c : Int) := by omega
          have hMk : i + 2 = M - k := by omega
          have hMn : M ≤ n := by omega
          have HX6 := Lib.hid hx6
          have HM := Lib.hid hM
          rw [hMk] at HCU
          clear hx6 hM hroomi h8i h8 hpos hroom h0i hMk
          go_wp2_with fail
          clear hcc1
          generalize w1.alloc (.cells #[.int .u8 13, .int .u8 10] 5 (2, 3)) = w2 at *
          refine HCU.out.mono ?_
          rintro e w3 ⟨rfl, hb3⟩
          have HB3 := Lib.hid (below_then HB2.out.size HB2.out hb3)
          clear hb3 HCU HB2 HB1
          have hcv2 := conv_bs ((HRT.out.below HB3.out).upto (show j ≤ i + 2 by omega)) (c - k)
          go_wp2
          refine bodyPost_ret (v := .tuple #[.string (B ((P.hText bs k).take j)), .slice (some ⟨b, o + k + (j + 2), none⟩) (M - k - (j + 2)) (c - k - (j + 2)), .int .i64 x6, .int .i64 0]) (by simp [results, Tryd.results72, go_sem]) rfl ?_
          have hM := HM.out
          have hjt : ((j : Int)).toNat = j := Int.toNat_natCast j
          have hfr := HRT.out.from_ (show j + 2 ≤ i + 2 by omega)
          refine ⟨_, _, _, _, by rw [HN.out.1, HN.out.2, HX6.out], HB3.out, fun _ _ => ⟨?_, ?_, by omega, by omega, by omega⟩⟩
          · unfold P.hLine
            rw [HJ.out, hjt]
          · unfold P.hBlock
            rw [HJ.out, hjt, show M - k - (j + 2) = i + 2 - (j + 2) by omega]
            exact hfr
      · skip
        have hneg : ix = -1 := by omega
        subst hneg
        by_cases hn8 : bs.length < 8192
        · have HN : Hid (P.hN bs k = 0 ∧ P.hE bs k = 0) := Lib.hid ⟨HNE.out.1.trans (if_pos (.inl (by decide))), HNE.out.2.trans ((if_pos (by decide)).trans (if_pos hn8))⟩
          have hn8i : (n : Int) < 8192 := by omega
          go_wp2
          refine bodyPost_ret (v := .tuple #[.string ⟨#[]⟩, .slice none 0 0, .int .i64 0, .int .i64 0]) (by simp [results, Tryd.results72, go_sem]) rfl ?_
          exact ⟨⟨#[]⟩, none, 0, 0, by rw [HN.out.1, HN.out.2], HB1.out, fun _ h => absurd HN.out.1 h⟩
        · have HN : Hid (P.hN bs k = 0 ∧ P.hE bs k = 51) := Lib.hid ⟨HNE.out.1.trans (if_pos (.inl (by decide))), HNE.out.2.trans ((if_pos (by decide)).trans (if_neg hn8))⟩
          have hn8i : ¬ (n : Int) < 8192 := by omega
          go_wp2
          refine bodyPost_ret (v := .tuple #[.string ⟨#[]⟩, .slice none 0 0, .int .i64 0, .int .i64 51]) (by simp [results, Tryd.results72, go_sem]) rfl ?_
          exact ⟨⟨#[]⟩, none, 0, 0, by rw [HN.out.1, HN.out.2], HB1.out, fun _ h => absurd HN.out.1 h⟩
end Go.Proofs.YtcoohkgamogmgaaDoor
