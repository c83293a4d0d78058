/- The walk of the document's Without. -/
import Derived.Test.YtcoohkgamogmgaaDoorDelete
import Derived.Deep.RegionHeld3
namespace Go.Proofs.YtcoohkgamogmgaaDoor
open Go.RowKit

/-- The inner loop's mark: is none of the first j names the field's? -/
theorem among_snoc (ns : List ByteArray) (f : FD) (j : Nat) (h : j < ns.length) : among (ns.take (j + 1)) f = (among (ns.take j) f || F.is f ns[j]) := any_take_snoc _ ns j h

/-- What a region reads, behind one of its calls. -/
theorem two_step {W0 w w1 : World} {p q : Addr} {x y : Value} (h : w.cell? p = some x ∧ w.cell? q = some y ∧ Below W0.heap.size W0 w) (hb : Below w.heap.size w w1) : w1.cell? p = some x ∧ w1.cell? q = some y ∧ Below W0.heap.size W0 w1 :=
  ⟨(hb.cell (p := p) (cell_lt h.1)).trans h.1, (hb.cell (p := q) (cell_lt h.2.1)).trans h.2.1, below_then h.2.2.size h.2.2 hb⟩

theorem three_of {W0 w : World} {p q : Addr} {x y : Value} (h : w.cell? p = some x ∧ w.cell? q = some y ∧ Below W0.heap.size W0 w) : Below W0.heap.size W0 w := h.2.2

set_option maxHeartbeats 2000000 in
theorem refWithout_any (A : Option Addr) (n c : Nat) (fs : List FD) (X : Option Addr) (m d : Nat) (ns : List ByteArray) (w : World) (hn : n ≤ 1099511627776) (hl : fs.length = n) (hf : FSmall fs) (hx : Rd w A n 2 (fcells fs))
    (hm : m ≤ 1099511627776) (hml : ns.length = m) (hns : NSmall ns) (hX : Rd w X m 1 (scells ns)) :
    Calls Tryd.prog 47 #[.slice A n c, .slice X m d] w (RetRow w 67 2 (F.without fs ns).length (fcells (F.without fs ns))) := by
  have HL := Lib.hid hl; clear hl
  have HM := Lib.hid hml; clear hml
  go_enter Tryd.func47, Tryd.ntmps47
  go_wp2
  go_loopw [5, 6, 7, 8] (fun out i _ _ wr => ∃ (k q : Nat) (O : Option Addr) (oc : Nat), k ≤ n ∧ q ≤ k ∧ i = .int .i64 k ∧ out = .slice O q oc ∧ q = (F.without (fs.take k) ns).length ∧ Row wr w.heap.size 67 2 O q oc (fcells (F.without (fs.take k) ns)) ∧ Below w.heap.size w wr) (fun _ i _ _ _ => n - (intOf i).toNat)
  case atStart => exact ⟨0, 0, _, 0, Nat.zero_le _, Nat.le_refl _, rfl, rfl, rfl, Row.empty _ _ _ _ _, (Below.refl _ _).alloc (Nat.le_refl _) _⟩
  case round =>
    obtain ⟨k, q, O, oc, hk, hqk, rfl, rfl, hq, hrow, hbel⟩ := hrel
    have HQ := Lib.hid hq; clear hq
    by_cases hlt : k < n
    · have hkl : k < fs.length := by rw [HL.out]; exact hlt
      have hsn := kept_snoc (among ns) fs k hkl
      obtain ⟨b, o, rfl, hb, c1, c2⟩ := (hx.below hbel).field hlt HL.out
      have hfs := hf _ (List.getElem_mem hkl)
      obtain ⟨f, hfk⟩ : ∃ f, f = fs[k]'hkl := ⟨_, rfl⟩
      rw [← hfk] at c1 c2 hfs hsn
      have HSN := Lib.hid hsn
      have HK := Lib.hid hfk
      clear hfk hsn
      have hXr := hX.below hbel
      obtain ⟨wo, rfl⟩ : ∃ wo : World, wo = wr := ⟨_, rfl⟩
      go_wp2
      go_loopw [7, 8] (fun keep j wi => ∃ e : Nat, e ≤ m ∧ j = .int .i64 e ∧ keep = .bool (!(among (ns.take e) f)) ∧ Below wo.heap.size wo wi) (fun _ j _ => m - (intOf j).toNat)
      case atStart => exact ⟨0, Nat.zero_le _, rfl, by simp [among], Below.refl _ _⟩
      case round =>
        obtain ⟨e, hem, rfl, rfl, hbi⟩ := hrel
        by_cases hlt2 : e < m
        · have hel : e < ns.length := by rw [HM.out]; exact hlt2
          obtain ⟨b2, o2, rfl, hb2, cx⟩ := (hXr.below hbi).str hlt2 HM.out
          have hsx := hns _ (List.getElem_mem hel)
          have has := among_snoc ns f e hel
          obtain ⟨x, hxk⟩ : ∃ x, x = ns[e]'hel := ⟨_, rfl⟩
          rw [← hxk] at cx hsx has
          have HAS := Lib.hid has
          clear hxk has
          have d1 := (hbi.cell (p := ⟨b, o + k * 2, none⟩) hb).trans c1
          generalize hkb : (!(among (ns.take e) f)) = kb
          have HKB := Lib.hid hkb
          clear hkb
          go_wp2
          have hs1 := hfs.1
          rcases tf (F.is f x) with his | his
          · have e1 : ((B (T.fold (L f.1))).toList == (B (T.fold (L x))).toList) = true := by rw [beq_bytes, of_decide_eq_true his]; simp
            have HN2 : Hid (false = !(among (ns.take (e + 1)) f)) := by have := HAS.out; rw [his, Bool.or_true] at this; rw [this]; rfl
            clear his HAS
            go_wp2
            go_region_held3 (fun w' => w'.cell? ⟨b, o + k * 2, none⟩ = some (.string f.1) ∧ w'.cell? ⟨b2, o2 + e, none⟩ = some (.string x) ∧ Below wr.heap.size wr w') (first | exact ⟨d1, cx, (Below.refl _ _).drew⟩ | exact two_step (by assumption) (by assumption)) (first | (go_at_call 91; refine (lower_any _ _ (by assumption)).mono ?_; rintro e1 w1 ⟨rfl, hb1⟩))
            have hB := three_of ‹w1.cell? _ = some (.string f.1) ∧ w1.cell? _ = some (.string x) ∧ Below wr.heap.size wr w1›
            clear d1 cx
            go_wp2
            go_roundw
            case rel => exact ⟨e + 1, by omega, by go_num, by rw [HN2.out], below_then hbi.size hbi hB⟩
            case measure => simp [intOf]; omega
          · have e1 : ((B (T.fold (L f.1))).toList == (B (T.fold (L x))).toList) = false := by rw [beq_bytes, decide_eq_false]; exact fun h => of_decide_eq_false his (B_inj h)
            have HN2 : Hid (kb = !(among (ns.take (e + 1)) f)) := by have := HAS.out; rw [his, Bool.or_false] at this; rw [this]; exact HKB.out.symm
            clear his HAS
            go_wp2
            go_region_held3 (fun w' => w'.cell? ⟨b, o + k * 2, none⟩ = some (.string f.1) ∧ w'.cell? ⟨b2, o2 + e, none⟩ = some (.string x) ∧ Below wr.heap.size wr w') (first | exact ⟨d1, cx, (Below.refl _ _).drew⟩ | exact two_step (by assumption) (by assumption)) (first | (go_at_call 91; refine (lower_any _ _ (by assumption)).mono ?_; rintro e1 w1 ⟨rfl, hb1⟩))
            have hB := three_of ‹w1.cell? _ = some (.string f.1) ∧ w1.cell? _ = some (.string x) ∧ Below wr.heap.size wr w1›
            clear d1 cx
            go_wp2
            go_roundw
            case rel => exact ⟨e + 1, by omega, by go_num, by rw [HN2.out], below_then hbi.size hbi hB⟩
            case measure => simp [intOf]; omega
        · have ht : ns.take e = ns := List.take_of_length_le (by rw [HM.out]; omega)
          rw [ht]
          have hrow2 := hrow.below hbi
          have hB2 := below_then hbel.size hbel hbi
          have hz1 := hbel.size
          have hz2 := hbi.size
          have d1 := (hbi.cell (p := ⟨b, o + k * 2, none⟩) hb).trans c1
          have d2 := (hbi.cell (p := ⟨b, o + k * 2 + 1, none⟩) hb).trans c2
          clear ht hrow hbel hbi c1 c2 hX hXr
          rcases tf (among ns f) with ha | ha
          · have HS : Hid (F.without (fs.take (k + 1)) ns = F.without (fs.take k) ns) := by have := HSN.out; rw [if_pos ha, List.append_nil] at this; exact this
            rw [ha]
            clear ha HSN
            go_wp2
            go_roundw
            case rel => exact ⟨k + 1, q, O, oc, by omega, by omega, by go_num, rfl, by rw [HS.out, HQ.out], by rw [HS.out]; exact hrow2, hB2⟩
            case measure => simp [intOf]; omega
          · have HS : Hid (F.without (fs.take (k + 1)) ns = F.without (fs.take k) ns ++ [f]) := by have := HSN.out; rw [if_neg (by simp [ha])] at this; exact this
            rw [ha]
            clear ha HSN
            go_wp2_with (at_builtin; refine appF _ rfl (.tmp 35) (.tmp 40) rfl w.heap.size O q oc _ rfl (hrow2.alloc _) _ 1 1 [f] rfl (newF _ _) (by omega) (by simp; omega) ?_; intro A1 c1 w3 hr3 ha3)
            go_roundw
            case rel =>
              refine ⟨k + 1, q + 1, A1, c1, by omega, by omega, by go_num, rfl, ?_, ?_, ?_⟩
              · rw [HS.out, List.length_append, ← HQ.out]; rfl
              · rw [HS.out]; exact hr3
              · exact (hB2.alloc (by omega) _).trans (ha3.below (hrow2.alloc _) (by simp; omega))
            case measure => simp [intOf]; omega
    · have ht : fs.take k = fs := List.take_of_length_le (by rw [HL.out]; omega)
      rw [ht] at hrow
      have HQ2 : Hid (q = (F.without fs ns).length) := by have := HQ.out; rw [ht] at this; exact this
      clear ht HQ
      go_wp2
      go_ret
      refine ⟨O, oc, ?_, ?_, hbel⟩
      · rw [← HQ2.out]; rfl
      · rw [← HQ2.out]; exact hrow
end Go.Proofs.YtcoohkgamogmgaaDoor
