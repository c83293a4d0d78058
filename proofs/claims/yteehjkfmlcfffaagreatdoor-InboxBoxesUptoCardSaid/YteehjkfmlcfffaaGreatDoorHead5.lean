/- The walk of head.Request. Conditions: a row of at most 2^30 bytes; the library's two tables of UTF-8 as its text lays them; internal/bytealg.MaxLen holds some number. -/
import Derived.Test.YteehjkfmlcfffaaGreatDoorHeadB
import Derived.Test.YteehjkfmlcfffaaGreatDoorHeadA
import Derived.Test.YteehjkfmlcfffaaGreatDoorFldA
import Derived.Deep.CutBlock
namespace Go.Proofs.YteehjkfmlcfffaaGreatDoor
open Go.RowKit

namespace P
theorem skip_step {l : List UInt8} (h : ([13, 10] : List UInt8).isPrefixOf l = true) : skip l = skip (l.drop 2) + 2 ∧ 2 ≤ l.length := by
  rw [List.isPrefixOf_iff_prefix] at h
  obtain ⟨r, rfl⟩ := h
  refine ⟨?_, by simp⟩
  show skip (13 :: 10 :: r) = skip r + 2
  rw [skip]
theorem skip_stop {l : List UInt8} (h : ([13, 10] : List UInt8).isPrefixOf l = false) : skip l = 0 := by
  unfold skip
  split
  · rename_i r
    have : ([13, 10] : List UInt8).isPrefixOf (13 :: 10 :: r) = true := by simp
    rw [this] at h
    cases h
  · rfl
theorem skip_le : ∀ (k : Nat) (l : List UInt8), l.length ≤ k → skip l ≤ l.length
  | 0, l, h => by
    have : l = [] := List.eq_nil_of_length_eq_zero (by omega)
    subst this
    exact Nat.le_refl _
  | k + 1, l, h => by
    rcases tf (([13, 10] : List UInt8).isPrefixOf l) with hp | hp
    · obtain ⟨h1, h2⟩ := skip_step hp
      have := skip_le k (l.drop 2) (by rw [List.length_drop]; omega)
      rw [List.length_drop] at this
      omega
    · rw [skip_stop hp]; exact Nat.zero_le _
theorem upto_le (p : UInt8 → Bool) (l : List UInt8) : (upto p l).length ≤ l.length := by have := upto_len p l; omega
theorem methodOf_le (l : List UInt8) : (methodOf l).length ≤ l.length := upto_le _ _
theorem behind_le (l : List UInt8) : (behind l).length ≤ l.length := by
  unfold behind
  rw [List.length_drop]
  have := upto_len sp l
  omega
theorem hLine_le (b : List UInt8) (s : Nat) : (hLine b s).length ≤ b.length := by
  unfold hLine hText
  rw [List.length_take, List.length_take, List.length_drop]
  omega
end P

/-- A request's head, its length and an error, answered. -/
def RetReq (w : World) (r : P.RQ) (e : Ending) (w' : World) : Prop :=
  ∃ A c, e = .returned (.tuple #[.agg #[.string r.m, .string r.t, .int .i64 r.v, .slice A r.fs.length c], .int .i64 r.n, .int .i64 r.e]) ∧ Row w' w.heap.size 148 2 A r.fs.length c (fcells r.fs) ∧ Below w.heap.size w w'
theorem RetReq.bad {w w' : World} {r : P.RQ} {code : Int} (hb : Below w.heap.size w w') (h : r = .bad code) : RetReq w r (.returned (.tuple #[.agg #[.string ⟨#[]⟩, .string ⟨#[]⟩, .int .i64 0, .slice none 0 0], .int .i64 0, .int .i64 code])) w' := by
  subst h
  exact ⟨none, 0, rfl, Row.empty _ _ _ _ _, hb⟩

set_option maxRecDepth 100000 in
set_option maxHeartbeats 4000000 in
theorem request_any (A : Option Addr) (n c : Nat) (bs : List UInt8) (w : World) (hnm : n ≤ 1073741824) (hnc : n ≤ c) (hA : A = none → n = 0 ∧ c = 0) (hpl : ∀ a, A = some a → a.spot = none ∨ c = 0) (hx : Rd w A n 1 (bcells bs)) (ht : LibOk w) :
    Calls Tryz.prog 73 #[.slice A n c] w (RetReq w (P.request bs)) := by
  have hll := rd_len hx
  have hsk := P.skip_le bs.length bs (Nat.le_refl _)
  rw [hll] at hsk
  have HX := Lib.hid hx
  have HT := Lib.hid (fun (u : World) (hu : Below w.heap.size w u) => ht.below hu)
  have HCT := Lib.hid (fun (u : World) (hu : Below w.heap.size w u) => hcut_any A n c (P.skip bs) bs u hnm hnc hsk hA hpl (hx.below hu) (ht.below hu))
  have HK0 := Lib.hid (Blk.new w #[.string ⟨#[]⟩, .string ⟨#[]⟩, .int .i64 0, .slice none 0 0] 25)
  have HB0 := Lib.hid ((Below.refl w.heap.size w).alloc (Nat.le_refl _) (.cells #[.string ⟨#[]⟩, .string ⟨#[]⟩, .int .i64 0, .slice none 0 0] 25))
  obtain ⟨Q, hQ⟩ : ∃ Q, P.request bs = Q := ⟨_, rfl⟩
  rw [hQ]
  have HQ : Hid (Q = if P.hE bs (P.skip bs) ≠ 0 ∨ P.hN bs (P.skip bs) = 0 then P.RQ.bad (P.hE bs (P.skip bs)) else P.reqOf (P.hLine bs (P.skip bs)) (P.hBlock bs (P.skip bs)) (P.hN bs (P.skip bs))) := Lib.hid (by rw [← hQ]; rfl)
  have HLLE := Lib.hid (P.hLine_le bs (P.skip bs))
  have HLL := Lib.hid hll
  clear hQ hx ht hll
  go_enter Tryz.func73, Tryz.ntmps73
  go_upto_block 0 with fail
  generalize w.alloc (.cells #[.string ⟨#[]⟩, .string ⟨#[]⟩, .int .i64 0, .slice none 0 0] 25) = w0 at *
  go_cut [5] (fun s5 wx => s5 = .int .i64 (P.skip bs) ∧ Blk wx w.heap.size #[.string ⟨#[]⟩, .string ⟨#[]⟩, .int .i64 0, .slice none 0 0] 25 ∧ Below w.heap.size w wx)
  case first =>
    clear HCT HQ HLLE
    have HCC := Lib.hid (fun (w1 : World) => Lib.run_convert_bytes_const (P := Tryz.prog) w1 22 5 #[.int .u8 13, .int .u8 10] 2 2 Tryz.underlying22 Tryz.underlying5)
    have HN0 := Lib.hid (fun (w1 : World) => Rd.newRowM w1 5 #[.int .u8 13, .int .u8 10] (2, 3) 2 1 rfl)
    go_wp2_with fail
    go_loopw [5] (fun i wr => ∃ k : Nat, k ≤ n ∧ i = .int .i64 k ∧ k + P.skip (bs.drop k) = P.skip bs ∧ Blk wr w.heap.size #[.string ⟨#[]⟩, .string ⟨#[]⟩, .int .i64 0, .slice none 0 0] 25 ∧ Below w.heap.size w wr) (fun i _ => n - (intOf i).toNat)
    case atStart => exact ⟨0, Nat.zero_le _, rfl, by simp, HK0.out, HB0.out⟩
    case round =>
      obtain ⟨k, hk, rfl, hsp, hkb, hbel⟩ := hrel
      have HSP := Lib.hid hsp
      have HK := Lib.hid ((hkb.alloc (.cells #[.int .u8 13, .int .u8 10] 5 (2, 3))))
      have HB := Lib.hid (hbel.alloc hbel.size (.cells #[.int .u8 13, .int .u8 10] 5 (2, 3)))
      have hcc := HCC.out wr
      clear hsp hkb hbel HCC HK0 HB0
      cases A with
      | none =>
        obtain ⟨rfl, rfl⟩ := hA rfl
        obtain rfl : k = 0 := by omega
        have hnil : bs = [] := List.eq_nil_of_length_eq_zero HLL.out
        have HPX := Lib.hid (bprefix_any none (some ⟨wr.heap.size, 0, none⟩) 0 0 2 2 [] [13, 10] (wr.alloc (.cells #[.int .u8 13, .int .u8 10] 5 (2, 3))) (Nat.le_refl _) (Rd.nil _ _ _) (HN0.out wr))
        have HZ : Hid (P.skip bs = 0) := by rw [hnil]; exact Lib.hid rfl
        clear hnil hA hpl HSP HN0
        go_wp2_with fail
        refine HPX.out.mono ?_
        rintro e w' ⟨rfl, rfl⟩
        go_wp2_with fail
        go_meet
        exact ⟨by rw [HZ.out]; rfl, HK.out, HB.out⟩
      | some a =>
        obtain ⟨b, o, p⟩ := a
        clear hA
        by_cases hkc : k = c
        · obtain rfl : k = n := by omega
          subst hkc
          clear hpl
          have HPX := Lib.hid (bprefix_any (some ⟨b, o, p⟩) (some ⟨wr.heap.size, 0, none⟩) 0 0 2 2 [] [13, 10] (wr.alloc (.cells #[.int .u8 13, .int .u8 10] 5 (2, 3))) (Nat.le_refl _) (Rd.nil _ _ _) (HN0.out wr))
          have HZ : Hid (P.skip bs = k) := Lib.hid (by
            have h := HSP.out
            rw [List.drop_of_length_le (by rw [HLL.out]; exact Nat.le_refl _)] at h
            exact h.symm)
          clear HSP HN0
          go_wp2_with fail
          refine HPX.out.mono ?_
          rintro e w' ⟨rfl, rfl⟩
          go_wp2_with fail
          go_meet
          exact ⟨by rw [HZ.out], HK.out, HB.out⟩
        · obtain rfl : p = none := (hpl _ rfl).resolve_right (by omega)
          clear hpl
          have hkci : (k : Int) < (c : Int) := by omega
          have hkci2 : ¬ (k : Int) = (c : Int) := by omega
          have hknc : k < c := by omega
          have HPX := Lib.hid (bprefix_any (some ⟨b, o + k, none⟩) (some ⟨wr.heap.size, 0, none⟩) (n - k) (c - k) 2 2 (bs.drop k) [13, 10] (wr.alloc (.cells #[.int .u8 13, .int .u8 10] 5 (2, 3))) (by omega) ((HX.out.from_ hk).below HB.out) (HN0.out wr))
          rcases tf (([13, 10] : List UInt8).isPrefixOf (bs.drop k)) with hp | hp
          · obtain ⟨h1, h2⟩ := P.skip_step hp
            rw [hp] at HPX
            rw [List.length_drop, HLL.out] at h2
            rw [List.drop_drop] at h1
            have HH1 := Lib.hid h1
            clear hp h1
            go_wp2_with fail
            refine HPX.out.mono ?_
            rintro e w' ⟨rfl, rfl⟩
            go_wp2
            go_roundw
            case rel => exact ⟨k + 2, by omega, by go_num, by have h3 := HSP.out; have h4 := HH1.out; omega, HK.out, HB.out⟩
            case measure => simp [intOf]; omega
          · have HZ : Hid (P.skip bs = k) := Lib.hid (by
              have h := HSP.out
              rw [P.skip_stop hp] at h
              exact h.symm)
            rw [hp] at HPX
            clear hp HSP HN0
            go_wp2_with fail
            refine HPX.out.mono ?_
            rintro e w' ⟨rfl, rfl⟩
            go_wp2_with fail
            go_meet
            exact ⟨by rw [HZ.out], HK.out, HB.out⟩
  case rest =>
    obtain ⟨rfl, hk1, hb1⟩ := hcut
    have HK1 := Lib.hid hk1
    have HB1 := Lib.hid hb1
    clear hk1 hb1 HK0 HB0
    go_wp2_with fail
    refine (HCT.out _ HB1.out).mono ?_
    rintro e w2 ⟨ln, A2, n2, c2, rfl, hb2, hcutf⟩
    have HK2 := Lib.hid (HK1.out.below hb2)
    have HB2 := Lib.hid (below_then HB1.out.size HB1.out hb2)
    have HCF := Lib.hid hcutf
    have HW2 := Lib.hid hb2
    clear hb2 HCT HK1 HB1 hcutf
    generalize P.hE bs (P.skip bs) = E0 at *
    generalize P.hN bs (P.skip bs) = N0 at *
    generalize P.hLine bs (P.skip bs) = LN at *
    generalize P.hBlock bs (P.skip bs) = BK at *
    generalize P.skip bs = sk at *
    by_cases hbad : E0 ≠ 0 ∨ N0 = 0
    · have HBAD : Hid (Q = .bad E0) := Lib.hid (HQ.out.trans (if_pos hbad))
      by_cases hE : E0 = 0
      · have hN : N0 = 0 := hbad.resolve_left (fun h => h hE)
        subst hE
        subst hN
        clear hbad HQ HCF
        obtain ⟨x0, x1, x2, x3⟩ := HK2.out.cells4
        obtain ⟨f0, f1, f2, f3⟩ := HK2.out.free4
        go_wp2
        obtain ⟨z0, z1, z2, z3⟩ := (HK2.out.set4 (.string ⟨#[]⟩) (.string ⟨#[]⟩) (.int .i64 0) (.slice none 0 0)).cells4
        refine bodyPost_ret (v := .tuple #[.agg #[.string ⟨#[]⟩, .string ⟨#[]⟩, .int .i64 0, .slice none 0 0], .int .i64 0, .int .i64 0]) (by simp [results, Tryz.results73, go_sem, z0, z1, z2, z3]) rfl ?_
        exact RetReq.bad (below_four HB2.out (Nat.le_refl _) _ _ _ _) HBAD.out
      · have hEb : (E0 != 0) = true := by simpa using hE
        clear hbad HQ HCF
        obtain ⟨x0, x1, x2, x3⟩ := HK2.out.cells4
        obtain ⟨f0, f1, f2, f3⟩ := HK2.out.free4
        go_wp2
        obtain ⟨z0, z1, z2, z3⟩ := (HK2.out.set4 (.string ⟨#[]⟩) (.string ⟨#[]⟩) (.int .i64 0) (.slice none 0 0)).cells4
        refine bodyPost_ret (v := .tuple #[.agg #[.string ⟨#[]⟩, .string ⟨#[]⟩, .int .i64 0, .slice none 0 0], .int .i64 0, .int .i64 E0]) (by simp [results, Tryz.results73, go_sem, z0, z1, z2, z3]) rfl ?_
        exact RetReq.bad (below_four HB2.out (Nat.le_refl _) _ _ _ _) HBAD.out
    · have HQ2 := Lib.hid (HQ.out.trans (if_neg hbad))
      have hE : E0 = 0 := by
        rcases (by omega : E0 = 0 ∨ E0 ≠ 0) with h | h
        · exact h
        · exact absurd (.inl h) hbad
      have hN : ¬ N0 = 0 := fun h => hbad (.inr h)
      obtain ⟨hln, hrd2, hn2c, hc2c, hn2l⟩ := HCF.out hE hN
      subst hE
      subst hln
      have hNb : (N0 == 0) = false := by simpa using hN
      have HR := Lib.hid hrd2
      have hn2 : n2 ≤ 1073741824 := by rw [HLL.out] at hn2l; omega
      have hlle : LN.length ≤ 1073741824 := by have h1 := HLLE.out; rw [HLL.out] at h1; omega
      have s1 : (B LN).size ≤ 2147483648 := by rw [B_size]; omega
      have s2 : (B (P.behind LN)).size ≤ 2147483648 := by rw [B_size]; have := P.behind_le LN; omega
      have s3 : (B (P.methodOf LN)).size ≤ 1099511627776 := by rw [B_size]; have := P.methodOf_le LN; omega
      have s4 : (B (P.methodOf (P.behind LN))).size ≤ 1099511627776 := by rw [B_size]; have := P.methodOf_le (P.behind LN); have := P.behind_le LN; omega
      have hbulk := P.parse_facts BK.length [] BK (Nat.le_refl _) (by simp)
      have hbl := rd_len hrd2
      have HPF : Hid ((P.parse [] BK).1.length ≤ 100 ∧ FSmall (P.parse [] BK).1) := Lib.hid ⟨hbulk.2.1, fun f hf => by
        have h1 := F.mem_bulk hf
        have h2 := hbulk.1
        simp only [F.bulk] at h2
        omega⟩
      have HC1 := Lib.hid (fun u hu => cut_any (B LN) 32 u s1 (HT.out u hu))
      have HC2 := Lib.hid (fun u hu => cut_any (B (P.behind LN)) 32 u s2 (HT.out u hu))
      have HTK := Lib.hid (fun u => token_any (B (P.methodOf LN)) u s3)
      have HVS := Lib.hid (fun u => visible_any (B (P.methodOf (P.behind LN))) u s4)
      have HVR := Lib.hid (fun u => version_any (B (P.behind (P.behind LN))) u)
      have HPA := Lib.hid (fun u (hu : Below w.heap.size w u) (hr : Rd u A2 n2 1 (bcells BK)) => parse_any A2 n2 c2 BK u (by omega) hn2c hr (HT.out u hu))
      have HVL := Lib.hid (fun (u : World) A3 c3 (hr : Rd u A3 (P.parse [] BK).1.length 2 (fcells (P.parse [] BK).1)) => values_any A3 (P.parse [] BK).1.length c3 (P.parse [] BK).1 ⟨#[72, 111, 115, 116]⟩ u (by have := HPF.out.1; omega) rfl HPF.out.2 (by decide) hr)
      rw [show L (B (P.methodOf LN)) = P.methodOf LN from rfl] at HTK
      replace HC1 : Hid (∀ u, Below w.heap.size w u → Calls Tryz.prog 149 #[.string (B LN), .string ⟨#[32]⟩] u fun e w' => e = .returned (.tuple #[.string (B (P.methodOf LN)), .string (B (P.behind LN)), .bool (!(P.from_ P.sp LN).isEmpty)]) ∧ Below u.heap.size u w') := HC1
      replace HC2 : Hid (∀ u, Below w.heap.size w u → Calls Tryz.prog 149 #[.string (B (P.behind LN)), .string ⟨#[32]⟩] u fun e w' => e = .returned (.tuple #[.string (B (P.methodOf (P.behind LN))), .string (B (P.behind (P.behind LN))), .bool (!(P.from_ P.sp (P.behind LN)).isEmpty)]) ∧ Below u.heap.size u w') := HC2
      replace HVR : Hid (∀ u, Calls Tryz.prog 152 #[.string (B (P.behind (P.behind LN)))] u fun e w' => e = .returned (.tuple #[.int .i64 (P.verN (P.behind (P.behind LN))), .int .i64 (P.verE (P.behind (P.behind LN)))]) ∧ u = w') := HVR
      have HQ3 : Hid (Q = if T.token (P.methodOf LN) = false ∨ F.visible (B (P.methodOf (P.behind LN))) = false then .bad 50
        else if P.verE (P.behind (P.behind LN)) ≠ 0 then .bad (P.verE (P.behind (P.behind LN)))
        else if (P.parse [] BK).2 ≠ 0 then .bad (P.parse [] BK).2
        else if P.hostsOf (P.parse [] BK).1 > 1 ∨ P.hostsOf (P.parse [] BK).1 < P.verN (P.behind (P.behind LN)) then .bad 40
        else ⟨B (P.methodOf LN), B (P.methodOf (P.behind LN)), P.verN (P.behind (P.behind LN)), (P.parse [] BK).1, N0, 0⟩) := HQ2
      clear HQ HQ2 hbad HCF s1 s2 s3 s4 hbulk hbl hlle HLLE hrd2 hn2l HLL
      have hvn : P.verN (P.behind (P.behind LN)) = 0 ∨ P.verN (P.behind (P.behind LN)) = 1 := by
        unfold P.verN
        split
        · exact .inr rfl
        · exact .inl rfl
      generalize B LN = l0 at *
      generalize B (P.behind LN) = l1 at *
      generalize T.token (P.methodOf LN) = tk at *
      generalize B (P.methodOf LN) = mt at *
      generalize F.visible (B (P.methodOf (P.behind LN))) = vs at *
      generalize B (P.methodOf (P.behind LN)) = tg at *
      generalize B (P.behind (P.behind LN)) = pr at *
      generalize P.verE (P.behind (P.behind LN)) = VE at *
      generalize P.verN (P.behind (P.behind LN)) = VN at *
      generalize (!(P.from_ P.sp LN).isEmpty) = k1 at *
      generalize (!(P.from_ P.sp (P.behind LN)).isEmpty) = k2 at *
      go_wp2_with fail
      refine (HC1.out _ HB2.out).mono ?_
      rintro e w3 ⟨rfl, hb3⟩
      have HK3 := Lib.hid (HK2.out.below hb3)
      have HB3 := Lib.hid (below_then HB2.out.size HB2.out hb3)
      have HW3 := Lib.hid (below_then HW2.out.size HW2.out hb3)
      clear hb3 HC1 HK2 HB2 HW2
      go_wp2_with fail
      refine (HC2.out _ HB3.out).mono ?_
      rintro e w4 ⟨rfl, hb4⟩
      have HK4 := Lib.hid (HK3.out.below hb4)
      have HB4 := Lib.hid (below_then HB3.out.size HB3.out hb4)
      have HW4 := Lib.hid (below_then HW3.out.size HW3.out hb4)
      clear hb4 HC2 HK3 HB3 HW3
      go_wp2_with fail
      refine (HTK.out _).mono ?_
      rintro e w' ⟨rfl, rfl⟩
      clear HTK
      cases tk
      · have HBAD : Hid (Q = .bad 50) := Lib.hid (HQ3.out.trans (if_pos (.inl rfl)))
        obtain ⟨x0, x1, x2, x3⟩ := HK4.out.cells4
        obtain ⟨f0, f1, f2, f3⟩ := HK4.out.free4
        go_wp2
        obtain ⟨z0, z1, z2, z3⟩ := (HK4.out.set4 (.string ⟨#[]⟩) (.string ⟨#[]⟩) (.int .i64 0) (.slice none 0 0)).cells4
        refine bodyPost_ret (v := .tuple #[.agg #[.string ⟨#[]⟩, .string ⟨#[]⟩, .int .i64 0, .slice none 0 0], .int .i64 0, .int .i64 50]) (by simp [results, Tryz.results73, go_sem, z0, z1, z2, z3]) rfl ?_
        exact RetReq.bad (below_four HB4.out (Nat.le_refl _) _ _ _ _) HBAD.out
      · go_wp2_with fail
        refine (HVS.out _).mono ?_
        rintro e w' ⟨rfl, rfl⟩
        clear HVS
        cases vs
        · have HBAD : Hid (Q = .bad 50) := Lib.hid (HQ3.out.trans (if_pos (.inr rfl)))
          obtain ⟨x0, x1, x2, x3⟩ := HK4.out.cells4
          obtain ⟨f0, f1, f2, f3⟩ := HK4.out.free4
          go_wp2
          obtain ⟨z0, z1, z2, z3⟩ := (HK4.out.set4 (.string ⟨#[]⟩) (.string ⟨#[]⟩) (.int .i64 0) (.slice none 0 0)).cells4
          refine bodyPost_ret (v := .tuple #[.agg #[.string ⟨#[]⟩, .string ⟨#[]⟩, .int .i64 0, .slice none 0 0], .int .i64 0, .int .i64 50]) (by simp [results, Tryz.results73, go_sem, z0, z1, z2, z3]) rfl ?_
          exact RetReq.bad (below_four HB4.out (Nat.le_refl _) _ _ _ _) HBAD.out
        · have HQ4 := Lib.hid (HQ3.out.trans (if_neg (by simp)))
          have HK5 := Lib.hid (HK4.out.alloc (.cells #[.string mt, .string tg, .int .i64 0, .slice none 0 0] 25))
          have HB5 := Lib.hid (HB4.out.alloc HB4.out.size (.cells #[.string mt, .string tg, .int .i64 0, .slice none 0 0] 25))
          have HW5 := Lib.hid (HW4.out.alloc HW4.out.size (.cells #[.string mt, .string tg, .int .i64 0, .slice none 0 0] 25))
          have HM5 := Lib.hid (Blk.new w4 #[.string mt, .string tg, .int .i64 0, .slice none 0 0] 25)
          have HNE : Hid (w4.heap.size ≠ w.heap.size) := Lib.hid (by have := HK4.out.lt; omega)
          have HBZ : Hid (w.heap.size ≤ w4.heap.size) := Lib.hid HB4.out.size
          have HWZ : Hid (wc.heap.size ≤ w4.heap.size) := Lib.hid HW4.out.size
          clear HQ3 HK4 HB4 HW4
          go_wp2_with fail
          generalize w4.heap.size = b5 at *
          generalize w4.alloc (.cells #[.string mt, .string tg, .int .i64 0, .slice none 0 0] 25) = w5 at *
          refine (HVR.out _).mono ?_
          rintro e w' ⟨rfl, rfl⟩
          obtain ⟨y0, y1, y2, y3⟩ := HM5.out.cells4
          obtain ⟨g0, g1, g2, g3⟩ := HM5.out.free4
          have HK6 := Lib.hid (HK5.out.far 2 (.int .i64 VN) HNE.out)
          have HB6 := Lib.hid (below_set HB5.out HBZ.out 2 (.int .i64 VN))
          have HM6 := Lib.hid (HM5.out.set 2 (.int .i64 VN))
          clear HVR
          by_cases hve : VE = 0
          · subst hve
            have HQ5 := Lib.hid (HQ4.out.trans (if_neg (by decide)))
            clear HQ4
            go_wp2_with fail
            clear y0 y1 y2 y3 g0 g1 g2 g3
            have HW6 := Lib.hid (below_set HW5.out HWZ.out 2 (.int .i64 VN))
            generalize w5.setCell ⟨b5, 2, none⟩ (.int .i64 VN) = w6 at *
            refine (HPA.out _ HB6.out (HR.out.below HW6.out)).mono ?_
            rintro e w7 ⟨A3, c3, rfl, hr7, hb7⟩
            have HK7 := Lib.hid (HK6.out.below hb7)
            have HM7 := Lib.hid (HM6.out.below hb7)
            have HB7 := Lib.hid (below_then HB6.out.size HB6.out hb7)
            have HR7 := Lib.hid (hr7.mono HB6.out.size)
            clear hb7 hr7 HPA HR HW5 HW6 HK5 HB5 HM5 HK6 HB6 HM6 HWZ
            obtain ⟨FS, PE, hPP⟩ : ∃ FS PE, P.parse [] BK = (FS, PE) := ⟨_, _, rfl⟩
            rw [hPP] at HR7 HPF
            rw [show (P.parse [] BK).1 = FS by rw [hPP]] at HVL
            replace HVL : Hid (∀ (u : World) A3 c3, Rd u A3 FS.length 2 (fcells FS) → Calls Tryz.prog 86 #[.slice A3 FS.length c3, .string ⟨#[72, 111, 115, 116]⟩] u (RetRow u 9 1 (F.values FS ⟨#[72, 111, 115, 116]⟩).length (scells (F.values FS ⟨#[72, 111, 115, 116]⟩)))) := HVL
            replace HR7 : Hid (Row w7 w.heap.size 148 2 A3 FS.length c3 (fcells FS)) := HR7
            rw [show (P.parse [] BK).1 = FS by rw [hPP], show (P.parse [] BK).2 = PE by rw [hPP]]
            have HQ6 : Hid (Q = if PE ≠ 0 then .bad PE else if P.hostsOf FS > 1 ∨ P.hostsOf FS < VN then .bad 40 else ⟨mt, tg, VN, FS, N0, 0⟩) := Lib.hid (by
              have h := HQ5.out
              rw [show (P.parse [] BK).1 = FS by rw [hPP], show (P.parse [] BK).2 = PE by rw [hPP]] at h
              exact h)
            clear hPP HQ5
            obtain ⟨y0, y1, y2, y3⟩ := HM7.out.cells4
            obtain ⟨g0, g1, g2, g3⟩ := HM7.out.free4
            have HK8 := Lib.hid (HK7.out.far 3 (.slice A3 FS.length c3) HNE.out)
            have HB8 := Lib.hid (below_set HB7.out HBZ.out 3 (.slice A3 FS.length c3))
            have HM8 := Lib.hid (HM7.out.set 3 (.slice A3 FS.length c3))
            have HR8 := Lib.hid (HR7.out.farT HM7.out (by decide) 3 (.slice A3 FS.length c3))
            by_cases hpe : PE = 0
            · subst hpe
              have HQ7 := Lib.hid (HQ6.out.trans (if_neg (by decide)))
              clear HQ6 HK7 HB7 HM7 HR7
              go_wp2_with fail
              clear y0 y1 y2 y3 g0 g1 g2 g3
              generalize w7.setCell ⟨b5, 3, none⟩ (.slice A3 FS.length c3) = w8 at *
              refine (HVL.out _ A3 c3 HR8.out.rd).mono ?_
              rintro e w9 ⟨A4, c4, rfl, hr9, hb9⟩
              have HK9 := Lib.hid (HK8.out.below hb9)
              have HM9 := Lib.hid (HM8.out.below hb9)
              have HB9 := Lib.hid (below_then HB8.out.size HB8.out hb9)
              have HR9 := Lib.hid (HR8.out.below hb9)
              clear hb9 hr9 HVL HK8 HB8 HM8 HR8
              have HHO : Hid (P.hostsOf FS = ((F.values FS ⟨#[72, 111, 115, 116]⟩).length : Int)) := Lib.hid rfl
              have hvl := F.values_le FS ⟨#[72, 111, 115, 116]⟩
              have hfs100 : FS.length ≤ 100 := HPF.out.1
              rw [HHO.out] at HQ7
              generalize (F.values FS ⟨#[72, 111, 115, 116]⟩).length = HN at *
              obtain ⟨y0, y1, y2, y3⟩ := HM9.out.cells4
              obtain ⟨x0, x1, x2, x3⟩ := HK9.out.cells4
              obtain ⟨f0, f1, f2, f3⟩ := HK9.out.free4
              by_cases hh : (HN : Int) > 1 ∨ (HN : Int) < VN
              · have HBAD : Hid (Q = .bad 40) := Lib.hid (HQ7.out.trans (if_pos hh))
                by_cases hh1 : (HN : Int) > 1
                · have hh1b : decide ((HN : Int) > 1) = true := by simpa using hh1
                  clear hh
                  go_wp2
                  obtain ⟨z0, z1, z2, z3⟩ := (HK9.out.set4 (.string ⟨#[]⟩) (.string ⟨#[]⟩) (.int .i64 0) (.slice none 0 0)).cells4
                  refine bodyPost_ret (v := .tuple #[.agg #[.string ⟨#[]⟩, .string ⟨#[]⟩, .int .i64 0, .slice none 0 0], .int .i64 0, .int .i64 40]) (by simp [results, Tryz.results73, go_sem, z0, z1, z2, z3]) rfl ?_
                  exact RetReq.bad (below_four HB9.out (Nat.le_refl _) _ _ _ _) HBAD.out
                · have hh2 : (HN : Int) < VN := hh.resolve_left hh1
                  have hh1b : decide ((HN : Int) > 1) = false := by simpa using hh1
                  have hh2b : decide ((HN : Int) < VN) = true := by simpa using hh2
                  clear hh
                  go_wp2
                  obtain ⟨z0, z1, z2, z3⟩ := (HK9.out.set4 (.string ⟨#[]⟩) (.string ⟨#[]⟩) (.int .i64 0) (.slice none 0 0)).cells4
                  refine bodyPost_ret (v := .tuple #[.agg #[.string ⟨#[]⟩, .string ⟨#[]⟩, .int .i64 0, .slice none 0 0], .int .i64 0, .int .i64 40]) (by simp [results, Tryz.results73, go_sem, z0, z1, z2, z3]) rfl ?_
                  exact RetReq.bad (below_four HB9.out (Nat.le_refl _) _ _ _ _) HBAD.out
              · have hh1 : ¬ (HN : Int) > 1 := fun h => hh (.inl h)
                have hh2 : ¬ (HN : Int) < VN := fun h => hh (.inr h)
                have hh1b : decide ((HN : Int) > 1) = false := by simpa using hh1
                have hh2b : decide ((HN : Int) < VN) = false := by simpa using hh2
                have HRES := Lib.hid (HQ7.out.trans (if_neg hh))
                clear hh
                go_wp2
                obtain ⟨z0, z1, z2, z3⟩ := (HK9.out.set4 (.string mt) (.string tg) (.int .i64 VN) (.slice A3 FS.length c3)).cells4
                refine bodyPost_ret (v := .tuple #[.agg #[.string mt, .string tg, .int .i64 VN, .slice A3 FS.length c3], .int .i64 N0, .int .i64 0]) (by simp [results, Tryz.results73, go_sem, z0, z1, z2, z3]) rfl ?_
                rw [HRES.out]
                exact ⟨A3, c3, rfl, HR9.out.farT4 HK9.out (by decide) _ _ _ _, below_four HB9.out (Nat.le_refl _) _ _ _ _⟩
            · have hpeb : (PE != 0) = true := by simpa using hpe
              have HBAD : Hid (Q = .bad PE) := Lib.hid (HQ6.out.trans (if_pos hpe))
              obtain ⟨x0, x1, x2, x3⟩ := HK8.out.cells4
              obtain ⟨f0, f1, f2, f3⟩ := HK8.out.free4
              clear HK7 HB7 HR7 HM7
              go_wp2
              obtain ⟨z0, z1, z2, z3⟩ := (HK8.out.set4 (.string ⟨#[]⟩) (.string ⟨#[]⟩) (.int .i64 0) (.slice none 0 0)).cells4
              refine bodyPost_ret (v := .tuple #[.agg #[.string ⟨#[]⟩, .string ⟨#[]⟩, .int .i64 0, .slice none 0 0], .int .i64 0, .int .i64 PE]) (by simp [results, Tryz.results73, go_sem, z0, z1, z2, z3]) rfl ?_
              exact RetReq.bad (below_four HB8.out (Nat.le_refl _) _ _ _ _) HBAD.out
          · have hveb : (VE != 0) = true := by simpa using hve
            have HBAD : Hid (Q = .bad VE) := Lib.hid (HQ4.out.trans (if_pos hve))
            obtain ⟨x0, x1, x2, x3⟩ := HK6.out.cells4
            obtain ⟨f0, f1, f2, f3⟩ := HK6.out.free4
            clear HK5 HB5 HM5 HW5 HM6
            go_wp2
            obtain ⟨z0, z1, z2, z3⟩ := (HK6.out.set4 (.string ⟨#[]⟩) (.string ⟨#[]⟩) (.int .i64 0) (.slice none 0 0)).cells4
            refine bodyPost_ret (v := .tuple #[.agg #[.string ⟨#[]⟩, .string ⟨#[]⟩, .int .i64 0, .slice none 0 0], .int .i64 0, .int .i64 VE]) (by simp [results, Tryz.results73, go_sem, z0, z1, z2, z3]) rfl ?_
            exact RetReq.bad (below_four HB6.out (Nat.le_refl _) _ _ _ _) HBAD.out
end Go.Proofs.YteehjkfmlcfffaaGreatDoor
