/- The walk of the law InboxBoxes (printed by gen/boxes.py). Conditions: at most 2^20 bytes and pieces; the library's two tables of UTF-8; internal/bytealg.MaxLen; strconv's two error variables. -/
import Derived.Test.YteehjkfmlcfffaaGreatDoorBoxI
import Derived.Test.YteehjkfmlcfffaaGreatDoorOpen5
import Derived.Test.YteehjkfmlcfffaaGreatDoorMsgX
namespace Go.Proofs.YteehjkfmlcfffaaGreatDoor
open Go.RowKit

theorem M.pair_ways (l : List UInt8) : M.pair l = ⟨0, 0, 0⟩ ∨ M.pair l = ⟨0, 0, 80⟩ ∨ ∃ v, M.pair l = ⟨v, 2, 0⟩ ∧ 2 ≤ l.length := by
  match l with
  | [] => exact .inl rfl
  | [_] => exact .inl rfl
  | x :: y :: r =>
    by_cases h : x = 255 ∧ y = 255
    · exact .inr (.inl (if_pos h))
    · exact .inr (.inr ⟨_, if_neg h, by simp⟩)
theorem ORow.crow0 {w : World} {base n c g : Nat} {bs : List UInt8} (h : ORow w base (some ⟨g, 0, none⟩) n c bs) : CRow w base (some ⟨g, 0, none⟩) n c bs := by
  obtain ⟨h1, h2, h3⟩ := h
  refine ⟨h1, h2, ?_⟩
  rcases h3 with h3 | ⟨g', o, hA, hB, hg, hf, hc⟩
  · exact .inl h3
  · cases hA
    exact .inr ⟨g, rfl, hB, hg, fun j hj => by have := hf j hj; rwa [Nat.zero_add] at this, fun j u hu => by have := hc j u hu; rwa [Nat.zero_add] at this⟩
/-- What the walk holds between two steps: the box and the law's own list hold the same bytes. -/
structure BxS (w5 : World) (b : Nat) (H : List UInt8) (bad : Bool) (hA : Option Addr) (hc : Nat) (u : World) : Prop where
  box : ∃ BA bc, BoxI w5.heap.size b (.func (.func 28) #[] #[]) H (if bad then 80 else 0) BA bc u ∧ ∀ k, ownB hA hc = some k → ownB BA bc ≠ some k
  row : ORow u w5.heap.size hA H.length hc H
  kept : KeptB w5.heap.size b w5 u
theorem BxS.below {w5 u v : World} {b hc : Nat} {H : List UInt8} {bad : Bool} {hA : Option Addr} (h : BxS w5 b H bad hA hc u) (hb : Below u.heap.size u v) : BxS w5 b H bad hA hc v :=
  ⟨by obtain ⟨BA, bc, h1, h2⟩ := h.box; exact ⟨BA, bc, h1.below hb, h2⟩, h.row.below hb, h.kept.trans (KeptB.of_below hb h.kept.size)⟩

set_option maxRecDepth 100000 in
set_option maxHeartbeats 8000000 in
theorem inboxBoxes_any (X : Option Addr) (n c : Nat) (l : List PQ) (w : World) (hl : l.length = n) (hx : Rd w X n 1 (pcells l)) (hp : ∀ y ∈ l, PRd w y) (hsum : (l.map (·.2.2)).flatten.length ≤ 1048576) (hn : l.length ≤ 1048576) (ht : LibOk w) (he : ErrOk w) :
    Calls Tryz.prog 5 #[.slice X n c] w (RetB w true) := by
  subst hl
  have HA := Lib.hid (fun (u : World) (hb : Below w.heap.size w u) => inboxAlive_any u (ht.below hb) (he.below hb))
  have HNW := Lib.hid (fun (u : World) => newI_any 28 u)
  have HX := Lib.hid hx
  have HPP := Lib.hid hp
  clear hx hp ht he
  go_enter Tryz.func5, Tryz.ntmps5
  go_wp2_with fail
  refine (HA.out _ (Below.refl _ _)).mono ?_
  rintro e w1 ⟨rfl, hb1⟩
  have HB1 := Lib.hid hb1
  clear hb1 HA
  go_wp2_with fail
  refine (HNW.out w1).mono ?_
  rintro e w2 ⟨rfl, rfl⟩
  have HB2 := Lib.hid (HB1.out.alloc HB1.out.size (.cells #[(.func (.func 28) #[] #[]), .slice none 0 0, .int .i64 0] 146))
  have HX2 := Lib.hid (Blk.new w1 #[(.func (.func 28) #[] #[]), .slice none 0 0, .int .i64 0] 146)
  have hz1 := HB1.out.size
  clear HB1 HNW
  generalize hbd : w1.heap.size = b at *
  have hzb : b < (w1.alloc (.cells #[(.func (.func 28) #[] #[]), .slice none 0 0, .int .i64 0] 146)).heap.size := by rw [World.size_alloc]; omega
  generalize w1.alloc (.cells #[(.func (.func 28) #[] #[]), .slice none 0 0, .int .i64 0] 146) = w2 at *
  clear hbd
  go_upto_region 7 with fail
  have HX3 := Lib.hid (HX2.out.below ((Below.refl _ _).alloc (Nat.le_refl _) (.cells #[] 5)))
  have HB3 := Lib.hid (HB2.out.alloc HB2.out.size (.cells #[] 5))
  have hz3 : b < (w2.alloc (.cells #[] 5)).heap.size := by rw [World.size_alloc]; omega
  clear HX2 HB2
  generalize w2.heap.size = g0 at *
  generalize w2.alloc (.cells #[] 5) = w5 at *
  have hww : w.heap.size ≤ w5.heap.size := HB3.out.size
  have HS5 : Hid (BxS w5 b [] false (some ⟨g0, 0, none⟩) 0 w5) := Lib.hid ⟨⟨none, 0, ⟨HX3.out, ORow.none_ _ _, hz3, Nat.le_refl _⟩, fun k hk => by cases hk⟩, ⟨rfl, Nat.le_refl _, .inl rfl⟩, KeptB.refl _ _ _⟩
  have HLOW := Lib.hid (fun (u : World) (h : KeptB w5.heap.size b w5 u) => h.low HB3.out (by omega) (by omega))
  -- what was handed in reads as before
  have HRDW := Lib.hid (fun (u : World) (h : KeptB w5.heap.size b w5 u) (A : Option Addr) (m s : Nat) (xs : List Value) (hr : Rd w A m s xs) => hr.below ((h.low HB3.out (by omega) (by omega)).mono (Nat.le_refl _)))
  clear HX3
  go_wp2
  go_loopw [4, 5, 6] (fun hs bd i wr => ∃ (k : Nat) (H : List UInt8) (bad : Bool) (hA : Option Addr) (hc : Nat), k ≤ l.length ∧ i = .int .i64 k ∧ hs = .slice hA H.length hc ∧ bd = .bool bad ∧ BxS w5 b H bad hA hc wr ∧ H.length + (later l k).length ≤ 1048576) (fun _ _ i _ => l.length - (intOf i).toNat)
  case atStart => exact ⟨0, [], false, _, _, Nat.zero_le _, rfl, rfl, rfl, HS5.out, by rw [later_zero]; simpa using hsum⟩
  case round =>
    clear HS5
    obtain ⟨wo, rfl⟩ : ∃ wo : World, wo = wr := ⟨_, rfl⟩
    obtain ⟨k, H, bad, hA, hc, hk, rfl, rfl, rfl, hbs, hlen⟩ := hrel
    have HBS := Lib.hid hbs
    clear hbs
    by_cases hlt : k < l.length
    · have hlat := later_next hlt
      have hpr := HPP.out _ (List.getElem_mem hlt)
      have hrdx := HRDW.out wo HBS.out.kept _ _ _ _ HX.out
      obtain ⟨sb, so, u0, rfl, hsb, hu0, hcell⟩ := hrdx.at1 hlt
      have hu1 : (pcells l)[k]? = some (pq (l[k]'hlt)) := by
        unfold pcells
        rw [List.getElem?_map, List.getElem?_eq_getElem hlt]
        rfl
      rw [hu1] at hu0
      obtain rfl : u0 = pq (l[k]'hlt) := (Option.some.inj hu0).symm
      clear hu0 hu1 hrdx
      generalize l[k]'hlt = x at *
      obtain ⟨xa, xc, ps⟩ := x
      replace hcell : wo.cell? ⟨sb, so + k, none⟩ = some (.slice xa ps.length xc) := hcell
      replace hlat : later l k = ps ++ later l (k + 1) := hlat
      replace hpr : Rd w xa ps.length 1 (bcells ps) := hpr.1
      have HPR := Lib.hid hpr
      have hsw : sb < w.heap.size := by
        obtain ⟨b2, o2, e2, h2, _⟩ := HX.out.2 (by omega)
        cases e2
        exact h2
      have HSC := Lib.hid (fun (u : World) (h : KeptB w5.heap.size b w5 u) => show u.cell? ⟨sb, so + k, none⟩ = some (.slice xa ps.length xc) from by
        obtain ⟨b2, o2, e2, h2, h3⟩ := (HRDW.out u h _ _ _ _ HX.out).2 (by omega)
        cases e2
        obtain ⟨b4, o4, e4, h4, h5⟩ := (HRDW.out wo HBS.out.kept _ _ _ _ HX.out).2 (by omega)
        cases e4
        have hk2 : k < (pcells l).length := by unfold pcells; rw [List.length_map]; exact hlt
        have e6 := h3 k _ (List.getElem?_eq_getElem hk2)
        have e7 := h5 k _ (List.getElem?_eq_getElem hk2)
        rw [hcell] at e7
        rw [e6, e7])
      rw [hlat, List.length_append] at hlen
      clear hpr hcell hlat
      have hcell := HSC.out wo HBS.out.kept
      by_cases hp0 : ps.length = 0
      · have hps := List.length_eq_zero_iff.1 hp0
        subst hps
        obtain ⟨BA, bc, hbox, _⟩ := HBS.out.box
        have HRS := Lib.hid (restI_any w5.heap.size b 28 H _ BA bc wo hbox (by omega))
        clear hbox
        go_wp2_with fail
        refine HRS.out.mono ?_
        rintro e w6 ⟨A6, c6, rfl, hr6, hb6⟩
        have HS6 := Lib.hid (HBS.out.below hb6)
        have HR6 := Lib.hid hr6.rd
        clear hr6 hb6 HBS HRS hcell
        go_wp2_with fail
        refine (sameBC A6 hA H.length c6 hc H w6 (by omega) rfl HR6.out HS6.out.row.rd).mono ?_
        rintro e w7 ⟨rfl, hb7⟩
        have HS7 := Lib.hid (HS6.out.below hb7)
        clear hb7 HS6 HR6
        go_wp2
        go_roundw
        case rel => exact ⟨k + 1, H, bad, hA, hc, by omega, by go_num, rfl, rfl, HS7.out, by simpa using hlen⟩
        case measure => simp [intOf]; omega
      · have hpi : ¬ (ps.length : Int) = 0 := by omega
        have hpb : ((ps.length : Int) == 0) = false := beq_eq_false_iff_ne.2 hpi
        have HCB := Lib.hid (copyBytes_any xa xc ps wo (by omega) (HRDW.out wo HBS.out.kept _ _ _ _ HPR.out))
        go_wp2_with fail
        refine HCB.out.mono ?_
        rintro e w6 ⟨OA, oc, rfl, hr6, hb6⟩
        have hoc : ps.length ≤ oc := hr6.2.1
        obtain ⟨og, rfl, hog1, hog2⟩ : ∃ og, OA = some ⟨og, 0, none⟩ ∧ wo.heap.size ≤ og ∧ og < w6.heap.size := by
          rcases hr6.2.2 with h | ⟨g, h1, h2, h3, _⟩
          · omega
          · exact ⟨g, h1, h2, h3⟩
        obtain ⟨BA, bc, hbox, hsep⟩ := HBS.out.box
        have hblt : ∀ k, ownB BA bc = some k → k ≠ og := fun k hk e => by
          have := (hbox.row.lt k hk).2
          omega
        have hhlt : ∀ k, ownB hA hc = some k → k ≠ og := fun k hk e => by
          have := (HBS.out.row.lt k hk).2
          omega
        have HK6 := Lib.hid (HBS.out.kept.trans (KeptB.of_below hb6 HBS.out.kept.size))
        have HH6 := Lib.hid (HBS.out.row.below hb6)
        have HO6 := Lib.hid hr6
        have HFD := Lib.hid (feedI_any w5.heap.size b 28 H ps (if bad then 80 else 0) BA bc (some ⟨og, 0, none⟩) oc w6 (hbox.below hb6) (by omega) hr6.rd)
        have hbase := HBS.out.kept.size
        clear hb6 hr6 hbox HBS HCB hcell
        go_wp2_with fail
        refine HFD.out.mono ?_
        rintro e w7 ⟨rfl, ⟨A7, c7, hbox7, hmv⟩, hk7, hfr7⟩
        have hH7 : (if (if bad then (80 : Int) else 0) = 0 then H ++ ps else H) = (if bad then H else H ++ ps) := by cases bad <;> rfl
        rw [hH7] at hbox7
        have hb7 : ∀ k, ownB A7 c7 = some k → k ≠ og ∧ ownB hA hc ≠ some k := fun k hk => by
          rcases hmv with ⟨rfl, rfl⟩ | ⟨g, rfl, hg⟩
          · exact ⟨hblt k hk, fun e => hsep k e hk⟩
          · unfold ownB at hk
            split at hk
            · cases hk
            · have : g = k := by simpa using hk
              subst this
              exact ⟨by omega, fun e => by have := (HH6.out.lt _ e).2; omega⟩
        have hbgt := hbox7.lt
        have HH7 := Lib.hid (hfr7 _ _ _ _ _ HH6.out (fun k hk => ⟨fun e => hsep k hk e, by have := (HH6.out.lt k hk).1; omega⟩))
        have HO7 := Lib.hid (hfr7 _ _ _ _ _ HO6.out.orow (fun k hk => by
          have hkk : og = k := by
            unfold ownB at hk
            split at hk
            · cases hk
            · simpa using hk
          subst hkk
          exact ⟨fun e => hblt _ e rfl, by omega⟩))
        have HK7 := Lib.hid (HK6.out.trans hk7)
        have HX7 := Lib.hid hbox7
        have HS7 := Lib.hid hb7
        clear hk7 hfr7 hbox7 hmv hb7 HH6 HO6 HK6 HFD hblt hsep
        generalize hG7 : (if bad then H else H ++ ps) = G7 at *
        have HG7 := Lib.hid hG7
        clear hG7 hH7
        have hogB : w5.heap.size ≤ og := by omega
        go_wp2
        go_loopw [8] (fun j wi => ∃ (q : Nat) (os : List UInt8), q ≤ ps.length ∧ j = .int .i64 q ∧ ORow wi wo.heap.size (some ⟨og, 0, none⟩) ps.length oc os ∧ BoxI w5.heap.size b (.func (.func 28) #[] #[]) G7 (if bad then 80 else 0) A7 c7 wi ∧ ORow wi w5.heap.size hA H.length hc H ∧ KeptB w5.heap.size b w5 wi) (fun j _ => ps.length - (intOf j).toNat)
        case atStart => exact ⟨0, ps, Nat.zero_le _, rfl, HO7.out, HX7.out, HH7.out, HK7.out⟩
        case round =>
          clear HO7 HX7 HH7 HK7
          obtain ⟨q, os, hq, rfl, ho, hbx, hhr, hkp⟩ := hrel
          by_cases hqn : q < ps.length
          · have hcell : (wr.cell? ⟨og, q, none⟩).isSome = true ∧ wr.frozen? ⟨og, q, none⟩ = false := by
              rcases ho.2.2 with h0 | ⟨g, o, hg, _, _, hf, _⟩
              · omega
              · cases hg
                have := hf q (by omega)
                rw [Nat.zero_add] at this
                exact this
            obtain ⟨v0, hv0⟩ := Option.isSome_iff_exists.1 hcell.1
            have hfz := hcell.2
            have HON := Lib.hid (show ORow (wr.setCell ⟨og, q, none⟩ (.int .u8 7)) wo.heap.size (some ⟨og, 0, none⟩) ps.length oc (os.set q 7) from (ho.crow0.set hqn 7).orow)
            have HBN : Hid (BoxI w5.heap.size b (.func (.func 28) #[] #[]) G7 (if bad then 80 else 0) A7 c7 (wr.setCell ⟨og, q, none⟩ (.int .u8 7))) := Lib.hid ⟨hbx.blk.far q _ (by have := hbx.lt; omega), hbx.row.farN (fun k hk e => (HS7.out k hk).1 e.symm) q _, hbx.lt, by rw [World.size_setCell]; exact hbx.le⟩
            have HHN := Lib.hid (hhr.farN (fun k hk e => hhlt k hk e.symm) q (.int .u8 7))
            have HKN := Lib.hid (hkp.trans ((KeptB.of_low (below_set (Below.refl w5.heap.size wr) hogB q (.int .u8 7)) (Nat.le_refl _)) : KeptB w5.heap.size b wr _))
            clear ho hbx hhr hkp hcell
            go_wp2
            go_roundw
            case rel => exact ⟨q + 1, os.set q 7, by omega, by go_num, HON.out, HBN.out, HHN.out, HKN.out⟩
            case measure => simp [intOf]; omega
          · have HX8 := Lib.hid hbx
            have HH8 := Lib.hid hhr
            have HK8 := Lib.hid hkp
            have hsep8 := fun k hk => (HS7.out k hk).2
            have HS8 := Lib.hid hsep8
            clear ho hbx hhr hkp hsep8 HS7
            cases bad
            · -- not bad yet
              simp only [Bool.false_eq_true, if_false] at HX8 HG7
              have hcell := HSC.out wr HK8.out
              have hprd := HRDW.out wr HK8.out _ _ _ _ HPR.out
              have hle8 := HX8.out.le
              go_wp2_with (at_builtin; refine appO _ rfl (.tmp 57) (.tmp 61) rfl w5.heap.size hA H.length hc H rfl HH8.out xa ps.length xc ps rfl hprd (by omega) hle8 ?_; intro hA9 hc9 w9 hr9 ha9; have HR9 := Lib.hid hr9; have HA9 := Lib.hid ha9; clear hr9 ha9 hprd)
              have hl9 : H.length + ps.length = G7.length := by rw [← HG7.out, List.length_append]
              have hr9 : ORow w9 w5.heap.size hA9 G7.length hc9 G7 := by
                have := HR9.out
                rw [hl9, HG7.out] at this
                exact this
              have hX9 : BoxI w5.heap.size b (.func (.func 28) #[] #[]) G7 0 A7 c7 w9 := ⟨HX8.out.blk.app HA9.out (fun k hk => by have := (HH8.out.lt k hk).1; have := HX8.out.lt; omega), HX8.out.row.keptG HA9.out.grown (fun k hk => HS8.out k hk), HX8.out.lt, Nat.le_trans HX8.out.le HA9.out.grown.size⟩
              have hk9 := HK8.out.grown HA9.out.grown (fun k hk => (HH8.out.lt k hk).1) HX8.out.le
              have hsep9 : ∀ k, ownB hA9 hc9 = some k → ownB A7 c7 ≠ some k := fun k hk e => by
                rcases HA9.out.moved with ⟨rfl, rfl⟩ | ⟨g, rfl, hg⟩
                · exact HS8.out k e hk
                · unfold ownB at hk
                  split at hk
                  · cases hk
                  · have : g = k := by simpa using hk
                    subst this
                    have := (HX8.out.row.lt _ e).2
                    omega
              have HNX := Lib.hid (nextI_any w5.heap.size b G7 0 A7 c7 w9 hX9 (by omega))
              have HPR9 := Lib.hid (fun (u : World) (h : ORow u w5.heap.size hA9 G7.length hc9 G7) => pair_any hA9 G7.length hc9 G7 u rfl h.rd)
              have hgl : 1 ≤ G7.length := by omega
              have hgc : G7.length ≤ hc9 := hr9.2.1
              have hgk : G7.length + (later l (k + 1)).length ≤ 1048576 := by omega
              obtain ⟨hg, ho9, rfl⟩ : ∃ (hg ho9 : Nat), hA9 = some ⟨hg, ho9, none⟩ := by
                rcases hr9.2.2 with h | ⟨g, o, h, _⟩
                · omega
                · exact ⟨g, o, h⟩
              have HR9' := Lib.hid hr9
              have HK9 := Lib.hid hk9
              have HS9 := Lib.hid hsep9
              have hle9 := hX9.le
              clear hr9 hX9 hk9 hsep9 HR9 HA9 HX8 HH8 HK8 HS8 hcell HSC hle8 hhlt
              rw [hl9]
              rcases M.pair_ways G7 with hp | hp | ⟨v, hp, hv2⟩
              · have hnx : M.nextI G7 0 = ⟨0, false, 0, G7, 0⟩ := by unfold M.nextI; rw [hp]; rfl
                rw [hnx] at HNX
                rw [hp] at HPR9
                go_wp2_with fail
                refine HNX.out.mono ?_
                rintro e w10 ⟨rfl, ⟨A10, c10, hbx10, hsub⟩, hk10⟩
                replace hbx10 : BoxI w5.heap.size b (.func (.func 28) #[] #[]) G7 (if false then 80 else 0) A10 c10 w10 := hbx10
                have HR10 := Lib.hid (HR9'.out.keptL hk10 (by have := hbx10.lt; omega) (Nat.le_refl _))
                have HK10 := Lib.hid (HK9.out.trans (hk10.mono hle9))
                have HX10 : Hid (∃ BA bc, BoxI w5.heap.size b (.func (.func 28) #[] #[]) G7 (if false then 80 else 0) BA bc w10 ∧ ∀ k, ownB (some ⟨hg, ho9, none⟩) hc9 = some k → ownB BA bc ≠ some k) := Lib.hid ⟨A10, c10, hbx10, fun k hk e => HS9.out k hk (hsub k e)⟩
                clear hbx10 hsub hk10 HNX HR9' HK9 HS9
                go_wp2_with fail
                refine (HPR9.out _ HR10.out).mono ?_
                rintro e w11 ⟨rfl, hb11⟩
                have HR11 := Lib.hid (HR10.out.below hb11)
                have HK11 := Lib.hid (HK10.out.trans (KeptB.of_below hb11 HK10.out.size))
                have HX11 : Hid (∃ BA bc, BoxI w5.heap.size b (.func (.func 28) #[] #[]) G7 (if false then 80 else 0) BA bc w11 ∧ ∀ k, ownB (some ⟨hg, ho9, none⟩) hc9 = some k → ownB BA bc ≠ some k) := Lib.hid (by obtain ⟨BA, bc, h1, h2⟩ := HX10.out; exact ⟨BA, bc, h1.below hb11, h2⟩)
                clear hb11 HX10 HR10 HK10 HPR9
                have hhc : ¬ hc9 = 0 := by omega
                go_wp2
                go_roundw
                case rel => exact ⟨k + 1, G7, false, _, _, by omega, by go_num, rfl, rfl, ⟨HX11.out, HR11.out, HK11.out⟩, hgk⟩
                case measure => simp [intOf]; omega
              · have hnx : M.nextI G7 0 = ⟨0, false, 80, G7, 80⟩ := by unfold M.nextI; rw [hp]; rfl
                rw [hnx] at HNX
                rw [hp] at HPR9
                go_wp2_with fail
                refine HNX.out.mono ?_
                rintro e w10 ⟨rfl, ⟨A10, c10, hbx10, hsub⟩, hk10⟩
                replace hbx10 : BoxI w5.heap.size b (.func (.func 28) #[] #[]) G7 (if true then 80 else 0) A10 c10 w10 := hbx10
                have HR10 := Lib.hid (HR9'.out.keptL hk10 (by have := hbx10.lt; omega) (Nat.le_refl _))
                have HK10 := Lib.hid (HK9.out.trans (hk10.mono hle9))
                have HX10 : Hid (∃ BA bc, BoxI w5.heap.size b (.func (.func 28) #[] #[]) G7 (if true then 80 else 0) BA bc w10 ∧ ∀ k, ownB (some ⟨hg, ho9, none⟩) hc9 = some k → ownB BA bc ≠ some k) := Lib.hid ⟨A10, c10, hbx10, fun k hk e => HS9.out k hk (hsub k e)⟩
                clear hbx10 hsub hk10 HNX HR9' HK9 HS9
                go_wp2_with fail
                refine (HPR9.out _ HR10.out).mono ?_
                rintro e w11 ⟨rfl, hb11⟩
                have HR11 := Lib.hid (HR10.out.below hb11)
                have HK11 := Lib.hid (HK10.out.trans (KeptB.of_below hb11 HK10.out.size))
                have HX11 : Hid (∃ BA bc, BoxI w5.heap.size b (.func (.func 28) #[] #[]) G7 (if true then 80 else 0) BA bc w11 ∧ ∀ k, ownB (some ⟨hg, ho9, none⟩) hc9 = some k → ownB BA bc ≠ some k) := Lib.hid (by obtain ⟨BA, bc, h1, h2⟩ := HX10.out; exact ⟨BA, bc, h1.below hb11, h2⟩)
                clear hb11 HX10 HR10 HK10 HPR9
                have hhc : ¬ hc9 = 0 := by omega
                go_wp2
                go_roundw
                case rel => exact ⟨k + 1, G7, true, _, _, by omega, by go_num, rfl, rfl, ⟨HX11.out, HR11.out, HK11.out⟩, hgk⟩
                case measure => simp [intOf]; omega
              · have hnx : M.nextI G7 0 = ⟨v, true, 0, G7.drop 2, 0⟩ := by unfold M.nextI; rw [hp]; rfl
                rw [hnx] at HNX
                rw [hp] at HPR9
                go_wp2_with fail
                refine HNX.out.mono ?_
                rintro e w10 ⟨rfl, ⟨A10, c10, hbx10, hsub⟩, hk10⟩
                replace hbx10 : BoxI w5.heap.size b (.func (.func 28) #[] #[]) (G7.drop 2) (if false then 80 else 0) A10 c10 w10 := hbx10
                have HR10 := Lib.hid (HR9'.out.keptL hk10 (by have := hbx10.lt; omega) (Nat.le_refl _))
                have HK10 := Lib.hid (HK9.out.trans (hk10.mono hle9))
                have HX10 : Hid (∃ BA bc, BoxI w5.heap.size b (.func (.func 28) #[] #[]) (G7.drop 2) (if false then 80 else 0) BA bc w10 ∧ ∀ k, ownB (some ⟨hg, ho9, none⟩) hc9 = some k → ownB BA bc ≠ some k) := Lib.hid ⟨A10, c10, hbx10, fun k hk e => HS9.out k hk (hsub k e)⟩
                clear hbx10 hsub hk10 HNX HR9' HK9 HS9
                go_wp2_with fail
                refine (HPR9.out _ HR10.out).mono ?_
                rintro e w11 ⟨rfl, hb11⟩
                have HR11 := Lib.hid (HR10.out.below hb11)
                have HK11 := Lib.hid (HK10.out.trans (KeptB.of_below hb11 HK10.out.size))
                have HX11 : Hid (∃ BA bc, BoxI w5.heap.size b (.func (.func 28) #[] #[]) (G7.drop 2) (if false then 80 else 0) BA bc w11 ∧ ∀ k, ownB (some ⟨hg, ho9, none⟩) hc9 = some k → ownB BA bc ≠ some k) := Lib.hid (by obtain ⟨BA, bc, h1, h2⟩ := HX10.out; exact ⟨BA, bc, h1.below hb11, h2⟩)
                clear hb11 HX10 HR10 HK10 HPR9
                have hhc : ¬ hc9 = 0 := by omega
                have hdl : (G7.drop 2).length = G7.length - 2 := List.length_drop
                have HDL := Lib.hid hdl
                have hrd := HR11.out.drop hv2
                rw [← hdl] at hrd
                have HRD := Lib.hid hrd
                have HXD : Hid (∃ BA bc, BoxI w5.heap.size b (.func (.func 28) #[] #[]) (G7.drop 2) (if false then 80 else 0) BA bc w11 ∧ ∀ k, ownB (addA (some ⟨hg, ho9, none⟩) hc9 2) (hc9 - 2) = some k → ownB BA bc ≠ some k) := Lib.hid (by obtain ⟨BA, bc, h1, h2⟩ := HX11.out; exact ⟨BA, bc, h1, fun k hk => h2 k (own_add hk)⟩)
                have hg2 : (G7.drop 2).length + (later l (k + 1)).length ≤ 1048576 := by omega
                clear hdl hrd HX11 HR11
                by_cases h2c : 2 = hc9
                · subst h2c
                  rw [addA_end] at HRD HXD
                  go_wp2
                  go_roundw
                  case rel => exact ⟨k + 1, G7.drop 2, false, _, _, by omega, by go_num, by rw [HDL.out]; congr 1 <;> omega, rfl, ⟨HXD.out, HRD.out, HK11.out⟩, hg2⟩
                  case measure => simp [intOf]; omega
                · rw [addA_in h2c] at HRD HXD
                  go_wp2
                  go_roundw
                  case rel => exact ⟨k + 1, G7.drop 2, false, _, _, by omega, by go_num, by rw [HDL.out], rfl, ⟨HXD.out, HRD.out, HK11.out⟩, hg2⟩
                  case measure => simp [intOf]; omega
            · simp only [if_true] at HX8 HG7
              obtain rfl : H = G7 := HG7.out
              clear HG7
              have hgk : H.length + (later l (k + 1)).length ≤ 1048576 := by omega
              have hnx : M.nextI H 80 = ⟨0, false, 80, H, 80⟩ := rfl
              have HNX := nextI_any w5.heap.size b H 80 A7 c7 wr HX8.out (by omega)
              rw [hnx] at HNX
              have HNX := Lib.hid HNX
              have hle8 := HX8.out.le
              have HPR9 := Lib.hid (fun (u : World) (h : ORow u w5.heap.size hA H.length hc H) => pair_any hA H.length hc H u rfl h.rd)
              clear hnx HX8 hhlt
              go_wp2_with fail
              refine HNX.out.mono ?_
              rintro e w10 ⟨rfl, ⟨A10, c10, hbx10, hsub⟩, hk10⟩
              replace hbx10 : BoxI w5.heap.size b (.func (.func 28) #[] #[]) H (if true then 80 else 0) A10 c10 w10 := hbx10
              have HR10 := Lib.hid (HH8.out.keptL hk10 (by have := hbx10.lt; omega) (Nat.le_refl _))
              have HK10 := Lib.hid (HK8.out.trans (hk10.mono hle8))
              have HX10 : Hid (∃ BA bc, BoxI w5.heap.size b (.func (.func 28) #[] #[]) H (if true then 80 else 0) BA bc w10 ∧ ∀ k, ownB hA hc = some k → ownB BA bc ≠ some k) := Lib.hid ⟨A10, c10, hbx10, fun k hk e => HS8.out k (hsub k e) hk⟩
              clear hbx10 hsub hk10 HNX HH8 HK8 HS8
              go_wp2_with fail
              refine (HPR9.out _ HR10.out).mono ?_
              rintro e w11 ⟨rfl, hb11⟩
              have HX11 := Lib.hid (BxS.below (bad := true) ⟨HX10.out, HR10.out, HK10.out⟩ hb11)
              clear hb11 HX10 HR10 HK10 HPR9
              go_wp2
              go_roundw
              case rel => exact ⟨k + 1, H, true, hA, hc, by omega, by go_num, rfl, rfl, HX11.out, hgk⟩
              case measure => simp [intOf]; omega
    · go_wp2
      go_ret
      exact ⟨rfl, HLOW.out wo HBS.out.kept⟩
end Go.Proofs.YteehjkfmlcfffaaGreatDoor
