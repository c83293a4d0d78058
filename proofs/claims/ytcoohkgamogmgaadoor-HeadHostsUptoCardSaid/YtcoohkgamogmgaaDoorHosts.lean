/- The walk of the law HeadHosts. Conditions: a row of at most 2^20 bytes; the library's two tables of UTF-8 as its text lays them; internal/bytealg.MaxLen holds some number. -/
import Derived.Test.YtcoohkgamogmgaaDoorHeads
import Derived.Test.YtcoohkgamogmgaaDoorReq
namespace Go.Proofs.YtcoohkgamogmgaaDoor
open Go.RowKit

set_option maxHeartbeats 400000 in
theorem copyBytesP_any (A : Option Addr) (c : Nat) (bs : List UInt8) (w : World) (hn : bs.length ≤ 1099511627776) (hx : Rd w A bs.length 1 (bcells bs)) :
    Calls Tryd.prog 44 #[.slice A bs.length c] w (fun e w' => ∃ g c', e = .returned (.slice (some ⟨g, 0, none⟩) bs.length c') ∧ CRow w' w.heap.size (some ⟨g, 0, none⟩) bs.length c' bs ∧ Below w.heap.size w w') := by
  have HX := Lib.hid (hx.alloc (.cells #[] 5))
  clear hx
  go_enter Tryd.func44, Tryd.ntmps44
  go_wp2_with (at_builtin; refine appC _ rfl (.tmp 5) (.tmp 6) rfl w.heap.size _ 0 0 [] rfl ⟨rfl, Nat.le_refl _, .inl rfl⟩ A bs.length c bs rfl HX.out (by omega) (by rw [World.size_alloc]; omega) ?_; intro A1 c1 w1 hr1 ha1)
  have hb := ((Below.refl w.heap.size w).alloc (Nat.le_refl _) (.cells #[] 5)).trans (ha1.belowC (⟨rfl, Nat.le_refl _, .inl rfl⟩ : CRow _ w.heap.size _ 0 0 []) (by rw [World.size_alloc]; omega))
  have e : 0 + bs.length = bs.length := Nat.zero_add _
  rw [e] at hr1
  obtain ⟨g, rfl⟩ : ∃ g, A1 = some ⟨g, 0, none⟩ := by
    rcases ha1.moved with ⟨h, _⟩ | ⟨g, h, _⟩
    · exact ⟨_, h⟩
    · exact ⟨g, h⟩
  go_ret
  exact ⟨g, c1, rfl, hr1, hb⟩

set_option maxRecDepth 100000 in
set_option maxHeartbeats 4000000 in
theorem headHosts_any (A : Option Addr) (n c : Nat) (bs : List UInt8) (w : World) (hnm : bs.length ≤ 1048576) (hl : bs.length = n) (hnc : n ≤ c) (hx : Rd w A n 1 (bcells bs)) (ht : LibOk w) :
    Calls Tryd.prog 11 #[.slice A n c] w (RetB w true) := by
  subst hl
  have HA := Lib.hid (fun (u : World) (hu : Below w.heap.size w u) => headAlive_any u (ht.below hu))
  have HCB := Lib.hid (fun (u : World) (hu : Below w.heap.size w u) => copyBytesP_any A c bs u (by omega) (hx.below hu))
  have HRQ := Lib.hid (fun (g c1 : Nat) (u : World) (hu : Below w.heap.size w u) (hr : CRow u w.heap.size (some ⟨g, 0, none⟩) bs.length c1 bs) => request_any (some ⟨g, 0, none⟩) bs.length c1 bs u (by omega) hr.2.1 (fun h => by cases h) (fun a h => by cases h; rfl) hr.rd (ht.below hu))
  obtain ⟨hfl, hbad, hgood⟩ := request_facts bs
  have hsm : FSmall (P.request bs).fs := by
    have hb : F.bulk (P.request bs).fs ≤ bs.length := by
      unfold P.request
      split
      · exact Nat.zero_le _
      · unfold P.reqOf
        repeat' split
        all_goals first | exact Nat.zero_le _ | skip
        have hp := (P.parse_facts (P.hBlock bs (P.skip bs)).length [] (P.hBlock bs (P.skip bs)) (Nat.le_refl _) (by simp)).1
        have h2 : (P.hBlock bs (P.skip bs)).length ≤ bs.length := by
          unfold P.hBlock P.hText
          rw [List.length_drop, List.length_take, List.length_drop]
          omega
        simp only [F.bulk] at hp
        show F.bulk (P.parse [] (P.hBlock bs (P.skip bs))).1 ≤ _
        omega
    exact fun f hf => by
      have h1 := F.mem_bulk hf
      omega
  have HVL := Lib.hid (fun (u : World) (A3 : Option Addr) (c3 : Nat) (hr : Rd u A3 (P.request bs).fs.length 2 (fcells (P.request bs).fs)) => values_any A3 (P.request bs).fs.length c3 (P.request bs).fs ⟨#[104, 111, 115, 116]⟩ u (by omega) rfl hsm (by decide) hr)
  obtain ⟨Q, hQ⟩ : ∃ Q, P.request bs = Q := ⟨_, rfl⟩
  rw [hQ] at HRQ HVL hfl hbad hgood
  obtain ⟨m, t, v, fs, N, E⟩ := Q
  replace hfl : fs.length ≤ 100 := hfl
  have HBAD : Hid (E ≠ 0 ∨ N = 0 → N = 0 ∧ fs = []) := Lib.hid hbad
  have HGOOD : Hid (E = 0 → N ≠ 0 → N ≤ 8192 ∧ N ≤ bs.length ∧ m ≠ ⟨#[]⟩ ∧ t ≠ ⟨#[]⟩ ∧ P.hostsOf fs ≤ 1 ∧ (P.hostsOf fs = 1 ∨ v = 0) ∧ (v = 0 ∨ v = 1)) := Lib.hid hgood
  have hhl : P.hostsOf fs = ((F.values fs ⟨#[104, 111, 115, 116]⟩).length : Int) := by
    unfold P.hostsOf F.values
    congr 2
  rw [hhl] at HGOOD
  replace HVL : Hid (∀ (u : World) (A3 : Option Addr) (c3 : Nat), Rd u A3 fs.length 2 (fcells fs) → Calls Tryd.prog 33 #[.slice A3 fs.length c3, .string ⟨#[104, 111, 115, 116]⟩] u (RetRow u 9 1 (F.values fs ⟨#[104, 111, 115, 116]⟩).length (scells (F.values fs ⟨#[104, 111, 115, 116]⟩)))) := HVL
  clear hx ht hQ hbad hgood hhl hsm
  generalize (F.values fs ⟨#[104, 111, 115, 116]⟩).length = HN at *
  go_enter Tryd.func11, Tryd.ntmps11
  go_wp2_with fail
  refine (HA.out _ (Below.refl _ _)).mono ?_
  rintro e w1 ⟨rfl, hb1⟩
  have HB1 := Lib.hid hb1
  clear hb1 HA
  go_wp2_with fail
  refine (HCB.out _ HB1.out).mono ?_
  rintro e w2 ⟨g, c2, rfl, hr2, hb2⟩
  have HR2 := Lib.hid (hr2.mono HB1.out.size)
  have HB2 := Lib.hid (below_then HB1.out.size HB1.out hb2)
  have HB2' := Lib.hid HB2.out.size
  clear hr2 hb2 HCB HB1
  go_wp2_with fail
  refine (HRQ.out g c2 _ HB2.out HR2.out).mono ?_
  rintro e w3 ⟨A3, c3, rfl, hr3, hb3⟩
  have HB3' := Lib.hid (below_then HB2.out.size HB2.out hb3)
  have HB3 := Lib.hid (HB3'.out.alloc HB3'.out.size (.cells #[.string m, .string t, .int .i64 v, .slice A3 fs.length c3] 50))
  have HK3 := Lib.hid (Blk.new w3 #[.string m, .string t, .int .i64 v, .slice A3 fs.length c3] 50)
  have HR3 := Lib.hid (hr3.rd.alloc (.cells #[.string m, .string t, .int .i64 v, .slice A3 fs.length c3] 50))
  clear hb3 hr3 HRQ HR2 HB2 HB3' HB2'
  by_cases hbad : E ≠ 0 ∨ N = 0
  · obtain ⟨hN0, hf0⟩ := HBAD.out hbad
    subst hN0 hf0
    clear HBAD HGOOD
    obtain ⟨x0, x1, x2, x3⟩ := HK3.out.cells4
    by_cases hE : E = 0
    · subst hE
      go_wp2
      go_ret
      exact ⟨rfl, HB3.out⟩
    · have hEb : (E != 0) = true := by simpa using hE
      go_wp2
      go_ret
      exact ⟨rfl, HB3.out⟩
  · have hE0 : E = 0 := by
      rcases (by omega : E = 0 ∨ E ≠ 0) with h | h
      · exact h
      · exact absurd (.inl h) hbad
    have hN0 : ¬ N = 0 := fun h => hbad (.inr h)
    subst hE0
    obtain ⟨h1, h2, h3, h4, h5, h6, h7⟩ := HGOOD.out rfl hN0
    clear HBAD HGOOD hbad
    have hNz : ¬ N = 0 := by omega
    have hN8 : N ≤ 8192 := by omega
    have hNl : N ≤ (bs.length : Int) := by omega
    have hm1 : ¬ m.toList = [] := fun h => h3 (toList_inj.1 (h.trans (by simp)))
    have hm2 : m.toList.isEmpty = false := by cases h : m.toList <;> simp_all
    have ht1 : ¬ t.toList = [] := fun h => h4 (toList_inj.1 (h.trans (by simp)))
    have ht2 : t.toList.isEmpty = false := by cases h : t.toList <;> simp_all
    have hF1 : (fs.length : Int) ≤ 100 := by omega
    clear h3 h4
    obtain ⟨x0, x1, x2, x3⟩ := HK3.out.cells4
    go_wp2_with fail
    clear x0 x1 x2 x3
    refine (HVL.out _ A3 c3 HR3.out).mono ?_
    rintro e w4 ⟨A4, c4, rfl, hr4, hb4⟩
    have HB4 := Lib.hid (below_then HB3.out.size HB3.out hb4)
    have HK4 := Lib.hid (HK3.out.below hb4)
    clear hr4 hb4 HB3 HK3 HR3 HVL
    obtain ⟨x0, x1, x2, x3⟩ := HK4.out.cells4
    rcases (by omega : (HN : Int) = 1 ∨ ¬ (HN : Int) = 1 ∧ v = 0) with hv | ⟨hv, rfl⟩
    · rcases h7 with rfl | rfl
      · go_wp2
        go_ret
        exact ⟨rfl, HB4.out⟩
      · go_wp2
        go_ret
        exact ⟨rfl, HB4.out⟩
    · go_wp2
      go_ret
      exact ⟨rfl, HB4.out⟩
end Go.Proofs.YtcoohkgamogmgaaDoor
