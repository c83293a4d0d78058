/- The walk of hop.Bytes. Conditions: a list of bulk at most 2^20, texts and bodies of at most 2^20 bytes, numbers of 64 bits, the library's table of powers of ten. -/
import Derived.Test.YtecopkcogobolaaGreatDoorPResp
import Derived.Test.YtecopkcogobolaaGreatDoorCopyB
import Derived.Test.YtecopkcogobolaaGreatDoorStripA
import Derived.Deep.DeepCutAuto
namespace Go.Proofs.YtecopkcogobolaaGreatDoor
open Go.RowKit

namespace F
def bareB (s : Int) (method : ByteArray) : Bool := decide (100 ≤ s ∧ s ≤ 199) || decide (s = 204) || decide (s = 304) || (decide (L method = [67, 79, 78, 78, 69, 67, 84]) && decide (200 ≤ s ∧ s ≤ 299))
theorem bareOf_eq (s : Int) (method : ByteArray) : bareOf s method = (decide (L method = [72, 69, 65, 68]) || bareB s method) := by
  unfold bareOf bareB
  simp only [Bool.or_assoc]
end F
theorem bytes_big {s m : Int} {r : ByteArray} {fs : List FD} {b l : Bool} {body : List UInt8} (h : 65536 < body.length) : F.bytesB s r m fs b l body = [] ∧ F.bytesE s r m fs b l body.length = 71 := by
  have h1 : F.bytesE s r m fs b l body.length = 71 := if_pos h
  exact ⟨if_neg (by rw [h1]; decide), h1⟩
theorem bytes_bad {s m : Int} {r : ByteArray} {fs : List FD} {b l : Bool} {body : List UInt8} (h : ¬ 65536 < body.length) (hc : F.respE s r m (F.outF fs b l body.length) ≠ 0) : F.bytesB s r m fs b l body = [] ∧ F.bytesE s r m fs b l body.length = F.respE s r m (F.outF fs b l body.length) := by
  have h1 : F.bytesE s r m fs b l body.length = F.respE s r m (F.outF fs b l body.length) := if_neg h
  exact ⟨if_neg (by rw [h1]; exact hc), h1⟩
theorem bytes_ok {s m : Int} {r : ByteArray} {fs : List FD} {b l : Bool} {body : List UInt8} (h : ¬ 65536 < body.length) (hc : F.respE s r m (F.outF fs b l body.length) = 0) : F.bytesB s r m fs b l body = F.respB s r m (F.outF fs b l body.length) ++ (if b then [] else body) ∧ F.bytesE s r m fs b l body.length = 0 := by
  have h1 : F.bytesE s r m fs b l body.length = 0 := (if_neg h).trans hc
  exact ⟨if_pos h1, h1⟩
theorem two_small : NSmall F.two := by unfold NSmall F.two; decide
theorem clen_small : NSmall [F.clenN] := by unfold NSmall; decide

set_option maxHeartbeats 1000000 in
theorem bare_any (s : Int) (method : ByteArray) (w : World) (h0 : -9223372036854775808 ≤ s) (h1 : s ≤ 9223372036854775807) : Calls Tryz.prog 52 #[.int .i64 s, .string method] w (RetP w (.bool (F.bareB s method))) := by
  obtain ⟨d1, d2⟩ := div_hundred s
  have hb : -92233720368547758 ≤ Int.tdiv s 100 ∧ Int.tdiv s 100 ≤ 92233720368547758 := by
    rcases Int.le_total 0 s with h | h
    · rw [Int.tdiv_eq_ediv_of_nonneg h]; omega
    · have e := Int.neg_tdiv (-s) 100
      rw [Int.neg_neg] at e
      rw [e, Int.tdiv_eq_ediv_of_nonneg (by omega : 0 ≤ -s)]; omega
  have hw : wrap64 (Int.tdiv s 100) = Int.tdiv s 100 := IntWalk.wrap64_in _ (by omega)
  rw [← hw] at d1 d2
  clear hb hw h0 h1
  obtain ⟨cb, hcb, hmt⟩ : ∃ cb, cb = decide (L method = [67, 79, 78, 78, 69, 67, 84]) ∧ (method.toList == [67, 79, 78, 78, 69, 67, 84]) = cb := ⟨_, rfl, by rw [L_toList, Bool.eq_iff_iff]; simp⟩
  have he : F.bareB s method = (decide (100 ≤ s ∧ s ≤ 199) || decide (s = 204) || decide (s = 304) || (cb && decide (200 ≤ s ∧ s ≤ 299))) := by unfold F.bareB; rw [hcb]
  rw [he]
  clear he hcb
  by_cases a1 : wrap64 (Int.tdiv s 100) = 1
  · rw [decide_eq_true (d1.1 a1)]
    have b1 : (wrap64 (Int.tdiv s 100) == 1) = true := by simpa using a1
    clear d1 d2
    go_enter Tryz.func52, Tryz.ntmps52
    go_wp2
    go_ret
    exact ⟨rfl, rfl⟩
  · rw [decide_eq_false (fun h => a1 (d1.2 h))]
    have b1 : (wrap64 (Int.tdiv s 100) == 1) = false := by simpa using a1
    clear d1
    by_cases a2 : s = 204
    · have b2 : (s == 204) = true := by simpa using a2
      rw [decide_eq_true a2]
      clear d2
      go_enter Tryz.func52, Tryz.ntmps52
      go_wp2
      go_ret
      exact ⟨rfl, rfl⟩
    · have b2 : (s == 204) = false := by simpa using a2
      rw [decide_eq_false a2]
      by_cases a3 : s = 304
      · have b3 : (s == 304) = true := by simpa using a3
        rw [decide_eq_true a3]
        clear d2
        go_enter Tryz.func52, Tryz.ntmps52
        go_wp2
        go_ret
        exact ⟨rfl, rfl⟩
      · have b3 : (s == 304) = false := by simpa using a3
        rw [decide_eq_false a3]
        cases cb
        · have hmf : ¬ method.toList = [67, 79, 78, 78, 69, 67, 84] := by simpa using hmt
          clear d2
          go_enter Tryz.func52, Tryz.ntmps52
          go_wp2
          go_ret
          exact ⟨rfl, rfl⟩
        · have hmf : method.toList = [67, 79, 78, 78, 69, 67, 84] := by simpa using hmt
          by_cases a4 : wrap64 (Int.tdiv s 100) = 2
          · rw [decide_eq_true (d2.1 a4)]
            have b4 : (wrap64 (Int.tdiv s 100) == 2) = true := by simpa using a4
            clear d2
            go_enter Tryz.func52, Tryz.ntmps52
            go_wp2
            go_ret
            exact ⟨rfl, rfl⟩
          · rw [decide_eq_false (fun h => a4 (d2.2 h))]
            have b4 : (wrap64 (Int.tdiv s 100) == 2) = false := by simpa using a4
            clear d2
            go_enter Tryz.func52, Tryz.ntmps52
            go_wp2
            go_ret
            exact ⟨rfl, rfl⟩

/-- The block of a row is none of another type. -/
theorem Row.apart {u : World} {base : Nat} {e t : TypeId} {size : Nat} {A : Option Addr} {n c b : Nat} {xs : List Value} {cs : Array Value} (h : Row u base e size A n c xs) (hb : Blk u b cs t) (hne : t ≠ e) : ∀ k, ownB A c = some k → k ≠ b := by
  rintro k hk rfl
  have hb' : u.heap[k]? = some (.cells cs t (0, 0)) := hb
  unfold ownB at hk
  split at hk
  · cases hk
  · rename_i hc
    rcases h with ⟨_, h2⟩ | ⟨_, h2, _⟩
    · rcases h2 with ⟨hv, _⟩ | ⟨g, cap, cur, hv, hg, hh, r⟩
      · injection hv with _ _ h3
        exact hc h3
      · injection hv with hA
        subst hA
        simp at hk
        subst hk
        rw [hb'] at hh
        injection hh with hh
        injection hh with _ h2
        exact hne h2
    · exact hc h2

set_option maxRecDepth 100000 in
set_option maxHeartbeats 4000000 in
theorem bytes_any (s m : Int) (r : ByteArray) (A : Option Addr) (c : Nat) (fs : List FD) (B0 : Option Addr) (e0 : Nat) (body : List UInt8) (method : ByteArray) (last : Bool) (w : World) (hs0 : -9223372036854775808 ≤ s) (hs1 : s ≤ 9223372036854775807) (hrs : r.size ≤ 1048576) (hf : F.bulk fs ≤ 1048576) (hx : Rd w A fs.length 2 (fcells fs)) (hnil : A = none → fs.length = 0 ∧ c = 0)
    (hbl : body.length ≤ 1048576) (hbx : Rd w B0 body.length 1 (bcells body)) (ht : TabOk w) :
    Calls Tryz.prog 20 #[.agg #[.int .i64 s, .string r, .int .i64 m, .slice A fs.length c], .slice B0 body.length e0, .string method, .bool last] w (RetBE w (F.bytesB s r m fs (F.bareOf s method) last body) (F.bytesE s r m fs (F.bareOf s method) last body.length)) := by
  have hn : fs.length ≤ 1048576 := by have := F.len_le_bulk fs; omega
  have hn1 : (F.without fs F.two).length ≤ 1048576 := by have := F.len_le_bulk (F.without fs F.two); have := F.bulk_without fs F.two; omega
  have hn2 : (F.without (F.without fs F.two) [F.clenN]).length ≤ 1048576 := by have := F.len_le_bulk (F.without (F.without fs F.two) [F.clenN]); have := F.bulk_without (F.without fs F.two) [F.clenN]; have := F.bulk_without fs F.two; omega
  by_cases hbig : 65536 < body.length
  · have HBG := Lib.hid (bytes_big (s := s) (r := r) (m := m) (fs := fs) (b := F.bareOf s method) (l := last) (body := body) hbig)
    generalize F.bytesB s r m fs (F.bareOf s method) last body = WB at *
    generalize F.bytesE s r m fs (F.bareOf s method) last body.length = WE at *
    clear hx hbx hnil
    go_enter Tryz.func20, Tryz.ntmps20
    go_wp2
    refine bodyPost_ret (v := .tuple #[.slice none 0 0, .int .i64 71]) (by simp [results, Tryz.results20, go_sem]) rfl ?_
    exact RetBE.none_ ((Below.refl _ _).alloc (Nat.le_refl _) _) HBG.out.1 HBG.out.2
  · have HTAB := Lib.hid (fun (u : World) (hb : Below w.heap.size w u) => ht.below hb)
    have HW1 : Hid (∀ X0 u, Below w.heap.size w u → Rd u X0 2 1 (scells F.two) → Calls Tryz.prog 47 #[.slice A fs.length c, .slice X0 2 2] u (RetRow u 67 2 (F.without fs F.two).length (fcells (F.without fs F.two)))) := Lib.hid (fun X0 u hb hX => without_any A fs.length c fs X0 2 2 F.two u (by omega) rfl (small_of_bulk (by omega)) (hx.below hb) hnil (by omega) rfl two_small hX)
    have HW2 : Hid (∀ A1 c1 X0 u, Rd u A1 (F.without fs F.two).length 2 (fcells (F.without fs F.two)) → (A1 = none → (F.without fs F.two).length = 0 ∧ c1 = 0) → Rd u X0 1 1 (scells [F.clenN]) → Calls Tryz.prog 47 #[.slice A1 (F.without fs F.two).length c1, .slice X0 1 1] u (RetRow u 67 2 (F.without (F.without fs F.two) [F.clenN]).length (fcells (F.without (F.without fs F.two) [F.clenN])))) := Lib.hid (fun A1 c1 X0 u hx1 hn1 hX => without_any A1 _ c1 (F.without fs F.two) X0 1 1 [F.clenN] u (by omega) rfl (small_of_bulk (by have := F.bulk_without fs F.two; omega)) hx1 hn1 (by omega) rfl clen_small hX)
    have HBR := Lib.hid (fun u => bare_any s method u hs0 hs1)
    have hbo : F.bulk (F.outF fs (F.bareOf s method) last body.length) ≤ 1073741824 := by have := F.bulk_out fs (F.bareOf s method) last body.length (by omega); omega
    have HPR := Lib.hid (fun (u : World) A5 c5 (hb : Below w.heap.size w u) (hr : Rd u A5 (F.outF fs (F.bareOf s method) last body.length).length 2 (fcells (F.outF fs (F.bareOf s method) last body.length))) => printResponse_any s r m A5 c5 (F.outF fs (F.bareOf s method) last body.length) u (by omega) hbo hr (ht.below hb))
    have hpl := respB_len s r m (F.outF fs (F.bareOf s method) last body.length)
    have hln : (F.outF fs (F.bareOf s method) last body.length).length ≤ 1099511627776 := by have := F.len_le_bulk (F.outF fs (F.bareOf s method) last body.length); omega
    have HOK := Lib.hid (fun h => bytes_ok (s := s) (r := r) (m := m) (fs := fs) (b := F.bareOf s method) (l := last) (body := body) hbig h)
    have HBADE := Lib.hid (fun h => bytes_bad (s := s) (r := r) (m := m) (fs := fs) (b := F.bareOf s method) (l := last) (body := body) hbig h)
    have hbo2 := F.bareOf_eq s method
    rw [← L_toList] at hbo2
    generalize F.bytesB s r m fs (F.bareOf s method) last body = WB at *
    generalize F.bytesE s r m fs (F.bareOf s method) last body.length = WE at *
    generalize F.bareOf s method = bb at *
    obtain ⟨LG, hLG⟩ : ∃ LG, F.outF fs bb last body.length = LG := ⟨_, rfl⟩
    rw [hLG] at HPR hpl hln HOK HBADE
    have HLG : Hid ((if bb = true then F.without fs F.two else F.without (F.without fs F.two) [F.clenN] ++ [((F.clenN, B (Lib.itoa body.length)) : FD)]) ++ F.lastF last = LG) := Lib.hid hLG
    generalize F.respB s r m LG = PB at *
    generalize F.respE s r m LG = PE at *
    generalize F.without (F.without fs F.two) [F.clenN] = T2 at *
    generalize F.without fs F.two = T1 at *
    obtain ⟨LF, hLF⟩ : ∃ LF, LF = (if bb = true then T1 else T2 ++ [((F.clenN, B (Lib.itoa body.length)) : FD)]) := ⟨_, rfl⟩
    rw [← hLF] at HLG
    have hlf : LF.length ≤ 1099511627776 := by
      have := HLG.out
      rw [← this, List.length_append] at hln
      omega
    have HLF := Lib.hid hLF
    obtain ⟨BX, nX, cX, bX, hbX, hnX, hvX, hrX, hlX⟩ : ∃ (BX : Option Addr) (nX cX : Nat) (bX : List UInt8), bX = (if bb = true then [] else body) ∧ bX.length = nX ∧ (Value.slice BX nX cX = if bb = true then .slice none 0 0 else .slice B0 body.length e0) ∧ (∀ u, Below w.heap.size w u → Rd u BX nX 1 (bcells bX)) ∧ nX ≤ 1048576 := by
      cases bb
      · exact ⟨B0, body.length, e0, body, rfl, rfl, rfl, fun u hb => hbx.below hb, hbl⟩
      · exact ⟨none, 0, 0, [], rfl, rfl, rfl, fun u _ => Rd.nil _ _ _, Nat.zero_le _⟩
    rw [← hbX] at HOK
    have HNX := Lib.hid hnX
    have HVX := Lib.hid hvX
    have HBD := Lib.hid hrX
    have hbig2 : ¬ (65536 : Int) < (body.length : Int) := by omega
    have HBBX := Lib.hid hbo2
    clear hs0 hs1 hx hbx hbo hLG hLF hf hbig hbo2 hbX hnX hvX hrX ht hnil
    go_enter Tryz.func20, Tryz.ntmps20
    go_wp2_with fail
    have HK0 := Lib.hid ((Blk.new w #[.int .i64 s, .string r, .int .i64 m, .slice A fs.length c] 26).alloc (.cells #[.string ⟨#[67, 111, 110, 110, 101, 99, 116, 105, 111, 110]⟩, .string ⟨#[84, 114, 97, 110, 115, 102, 101, 114, 45, 69, 110, 99, 111, 100, 105, 110, 103]⟩] 9))
    have HB0 := Lib.hid (((Below.refl w.heap.size w).alloc (Nat.le_refl _) (.cells #[.int .i64 s, .string r, .int .i64 m, .slice A fs.length c] 26)).alloc (by rw [World.size_alloc]; omega) (.cells #[.string ⟨#[67, 111, 110, 110, 101, 99, 116, 105, 111, 110]⟩, .string ⟨#[84, 114, 97, 110, 115, 102, 101, 114, 45, 69, 110, 99, 111, 100, 105, 110, 103]⟩] 9))
    have HN0 := Lib.hid (Rd.newRow (w.alloc (.cells #[.int .i64 s, .string r, .int .i64 m, .slice A fs.length c] 26)) 9 #[.string ⟨#[67, 111, 110, 110, 101, 99, 116, 105, 111, 110]⟩, .string ⟨#[84, 114, 97, 110, 115, 102, 101, 114, 45, 69, 110, 99, 111, 100, 105, 110, 103]⟩] 2 1 rfl)
    rw [World.size_alloc] at HN0
    generalize (w.alloc (.cells #[.int .i64 s, .string r, .int .i64 m, .slice A fs.length c] 26)).alloc (.cells #[.string ⟨#[67, 111, 110, 110, 101, 99, 116, 105, 111, 110]⟩, .string ⟨#[84, 114, 97, 110, 115, 102, 101, 114, 45, 69, 110, 99, 111, 100, 105, 110, 103]⟩] 9) = w0 at *
    refine (HW1.out _ _ HB0.out HN0.out).mono ?_
    rintro e w1 ⟨A1, c1, rfl, hr1, hb1⟩
    have HN1 := Lib.hid (fun h => hr1.nilB h)
    have HK1 := Lib.hid (HK0.out.below hb1)
    obtain ⟨x0, x1, x2, x3⟩ := HK1.out.cells4
    obtain ⟨f0, f1, f2, f3⟩ := HK1.out.free4
    have HB1 := Lib.hid (below_then HB0.out.size HB0.out hb1)
    have HK := Lib.hid (HK1.out.set 3 (.slice A1 T1.length c1))
    have HRW := Lib.hid ((hr1.farT HK1.out (by decide) 3 (.slice A1 T1.length c1)).mono HB0.out.size)
    have HB := Lib.hid (below_set HB1.out (Nat.le_refl _) 3 (.slice A1 T1.length c1))
    clear hb1 hr1 HW1 HK0 HB0 HN0 HK1 HB1
    go_upto_region 4 with fail
    clear x0 x1 x2 x3 f0 f1 f2 f3
    generalize (w1.setCell ⟨w.heap.size, 3, none⟩ (.slice A1 T1.length c1)) = wp at *
    go_cut [27] (fun s27 wx => s27 = .bool bb ∧ wx = wp)
    case first =>
      obtain ⟨x0, x1, x2, x3⟩ := HK.out.cells4
      have hbb := HBBX.out
      clear HBBX HPR HOK HBADE HLG HLF HW2 HBD HTAB HRW HB HVX HNX
      by_cases hh : method.toList = [72, 69, 65, 68]
      · obtain rfl : bb = true := by rw [hbb, decide_eq_true hh]; rfl
        clear hbb
        go_wp2_with fail
        go_meet
        exact ⟨rfl, rfl⟩
      · rw [decide_eq_false hh, Bool.false_or] at hbb
        have hh2 : (method.toList == [72, 69, 65, 68]) = false := by simpa using hh
        rw [← hbb] at HBR
        clear hbb
        go_wp2_with fail
        refine (HBR.out _).mono ?_
        rintro e w' ⟨rfl, rfl⟩
        go_wp2_with fail
        go_meet
        exact ⟨rfl, rfl⟩
    case rest =>
      obtain ⟨rfl, rfl⟩ := hcut
      clear HBBX HBR
      go_upto_if 27 with fail
      go_cut [1] (fun s1 wx => s1 = .slice BX nX cX ∧ (fun (L : List FD) (wx : World) => ∃ A1 c1, Blk wx w.heap.size #[.int .i64 s, .string r, .int .i64 m, .slice A1 L.length c1] 26 ∧ Row wx w.heap.size 67 2 A1 L.length c1 (fcells L) ∧ (A1 = none → L.length = 0 ∧ c1 = 0) ∧ Below w.heap.size w wx) LF wx)
      case first =>
        clear HPR HOK HBADE HLG HBD
        cases bb
        · have hlf2 : T2 ++ [((F.clenN, B (Lib.itoa body.length)) : FD)] = LF := HLF.out.symm
          subst hlf2
          have hvv : Value.slice BX nX cX = .slice B0 body.length e0 := HVX.out
          have HVV := Lib.hid hvv
          clear HLF HVX HNX hvv
          obtain ⟨x0, x1, x2, x3⟩ := HK.out.cells4
          have HK2 := Lib.hid (HK.out.alloc (.cells #[.string ⟨#[67, 111, 110, 116, 101, 110, 116, 45, 76, 101, 110, 103, 116, 104]⟩] 9))
          have HB2 := Lib.hid (HB.out.alloc HB.out.size (.cells #[.string ⟨#[67, 111, 110, 116, 101, 110, 116, 45, 76, 101, 110, 103, 116, 104]⟩] 9))
          have HN2 := Lib.hid (Rd.newRow wc 9 #[.string ⟨#[67, 111, 110, 116, 101, 110, 116, 45, 76, 101, 110, 103, 116, 104]⟩] 1 1 rfl)
          have HR2 := Lib.hid (HRW.out.rd.alloc (.cells #[.string ⟨#[67, 111, 110, 116, 101, 110, 116, 45, 76, 101, 110, 103, 116, 104]⟩] 9))
          clear HK HB HRW
          go_wp2_with fail
          clear x0 x1 x2 x3
          generalize wc.alloc (.cells #[.string ⟨#[67, 111, 110, 116, 101, 110, 116, 45, 76, 101, 110, 103, 116, 104]⟩] 9) = w2 at *
          refine (HW2.out A1 c1 _ w2 HR2.out HN1.out HN2.out).mono ?_
          rintro e w3 ⟨A2, c2, rfl, hr3, hb3⟩
          have HK3 := Lib.hid (HK2.out.below hb3)
          have HB3 := Lib.hid (below_then HB2.out.size HB2.out hb3)
          have HR3 := Lib.hid hr3
          have hz3 := hb3.size
          have hz2 := HB2.out.size
          clear hb3 hr3 HK2 HB2 HN2 HR2 HW2 HN1
          go_wp2_with fail
          refine (length_any w2.heap.size A2 c2 T2 body.length _ (by omega) HR3.out hz3 (by omega) (HTAB.out _ HB3.out)).mono ?_
          rintro e w4 ⟨A4, c4, rfl, hr4, hg4⟩
          have hlt4 : ∀ q, ownB A2 c2 = some q → w2.heap.size ≤ q := fun q hq => (HR3.out.lt q hq).1
          have HK4 : Hid (Blk w4 w.heap.size #[.int .i64 s, .string r, .int .i64 m, .slice A1 T1.length c1] 26) := Lib.hid ((hg4.block _ HK3.out.lt (fun e => HR3.out.apart HK3.out (by decide) _ e.symm rfl)).trans HK3.out)
          have HB4 : Hid (Below w.heap.size w w4) := Lib.hid (HB3.out.grown hg4 HB3.out.size (fun q hq => by have := hlt4 q hq; omega))
          obtain ⟨x0, x1, x2, x3⟩ := HK4.out.cells4
          obtain ⟨f0, f1, f2, f3⟩ := HK4.out.free4
          have HR4 := Lib.hid hr4
          clear hr4 hg4 hlt4 HK3 HB3 HR3
          go_wp2_with fail
          go_meet
          refine ⟨HVV.out.symm, A4, c4, ?_, ?_, ?_, below_set HB4.out (Nat.le_refl _) 3 _⟩
          · rw [List.length_append]; exact HK4.out.set 3 _
          · rw [List.length_append]; exact (HR4.out.farT HK4.out (by decide) 3 _).mono hz2
          · intro h
            have := HR4.out.nilB h
            omega
        · have hlf2 : T1 = LF := HLF.out.symm
          subst hlf2
          have hvv : Value.slice BX nX cX = .slice none 0 0 := HVX.out
          have HVV := Lib.hid hvv
          clear HLF HVX HNX hvv
          go_wp2_with fail
          go_meet
          exact ⟨HVV.out.symm, A1, c1, HK.out, HRW.out, HN1.out, HB.out⟩
      case rest =>
        obtain ⟨rfl, A4, c4, hk4, hr4, hn4, hb4⟩ := hcut
        clear HK HRW HB HN1 HLF HVX HW2
        have HK := Lib.hid hk4
        have HR := Lib.hid hr4
        have HB := Lib.hid hb4
        have HN4 := Lib.hid hn4
        clear hk4 hr4 hb4 hn4
        go_upto_if 36 with fail
        go_cut [] (fun wx => (fun (L : List FD) (wx : World) => ∃ A1 c1, Blk wx w.heap.size #[.int .i64 s, .string r, .int .i64 m, .slice A1 L.length c1] 26 ∧ Row wx w.heap.size 67 2 A1 L.length c1 (fcells L) ∧ (A1 = none → L.length = 0 ∧ c1 = 0) ∧ Below w.heap.size w wx) LG wx)
        case first =>
          clear HPR HOK HBADE HBD
          cases last
          · have hlg : LF = LG := (List.append_nil LF).symm.trans HLG.out
            subst hlg
            clear HLG
            go_wp2_with fail
            go_meet
            exact ⟨A4, c4, HK.out, HR.out, HN4.out, HB.out⟩
          · have hlg : LF ++ [(F.connN, F.closeN)] = LG := HLG.out
            have HNEW := Lib.hid (newF wc (F.connN, F.closeN))
            have HR2 := Lib.hid (HR.out.alloc (.cells #[.string ⟨#[67, 111, 110, 110, 101, 99, 116, 105, 111, 110]⟩, .string ⟨#[99, 108, 111, 115, 101]⟩] 67))
            have HK2 := Lib.hid (HK.out.alloc (.cells #[.string ⟨#[67, 111, 110, 110, 101, 99, 116, 105, 111, 110]⟩, .string ⟨#[99, 108, 111, 115, 101]⟩] 67))
            have HB2 := Lib.hid (HB.out.alloc HB.out.size (.cells #[.string ⟨#[67, 111, 110, 110, 101, 99, 116, 105, 111, 110]⟩, .string ⟨#[99, 108, 111, 115, 101]⟩] 67))
            have hz2 := HB2.out.size
            obtain ⟨x0, x1, x2, x3⟩ := HK.out.cells4
            have hlq := HK.out.lt
            have HLG2 := Lib.hid hlg
            clear hlg HLG HK HR HB
            go_wp2_with (at_builtin; refine appF _ rfl (.tmp 38) (.tmp 40) rfl w.heap.size A4 LF.length c4 LF rfl HR2.out _ 1 1 [(F.connN, F.closeN)] rfl HNEW.out (by omega) hz2 ?_; intro A5 c5 w5 hr5 ha5; have HK5 := Lib.hid (HK2.out.app ha5 (HR2.out.apart HK2.out (by decide))); have HB5 := Lib.hid (HB2.out.trans (ha5.below HR2.out hz2)); have HR5 := Lib.hid hr5; obtain ⟨y0, y1, y2, y3⟩ := HK5.out.cells4; obtain ⟨g0, g1, g2, g3⟩ := HK5.out.free4; clear hr5 ha5 HK2 HB2 HR2 HNEW x0 x1 x2 x3)
            go_meet
            have hll : LG.length = LF.length + 1 := by rw [← HLG2.out, List.length_append]; rfl
            refine ⟨A5, c5, ?_, ?_, ?_, below_set HB5.out (Nat.le_refl _) 3 _⟩
            · rw [hll]; exact HK5.out.set 3 _
            · rw [hll, ← HLG2.out]; exact HR5.out.farT HK5.out (by decide) 3 _
            · intro h
              have := HR5.out.nilB h
              omega
        case rest =>
          obtain ⟨A5, c5, hk5, hr5, _, hb5⟩ := hcut
          clear HK HR HB HN4 HLG
          have HB := Lib.hid hb5
          have HRD := Lib.hid hr5.rd
          obtain ⟨x0, x1, x2, x3⟩ := hk5.cells4
          clear hk5 hr5 hb5
          go_wp2_with fail
          refine (HPR.out _ A5 c5 HB.out HRD.out).mono ?_
          rintro e w6 ⟨R, d, rfl, hr6, hb6⟩
          have HB6 := Lib.hid (below_then HB.out.size HB.out hb6)
          have HR6 := Lib.hid (hr6.mono HB.out.size)
          have hz6 := HB6.out.size
          clear hr6 hb6 HPR HRD x0 x1 x2 x3
          by_cases hpe : PE = 0
          · have HOK2 := Lib.hid (HOK.out hpe)
            subst hpe
            have hbd := HBD.out w6 HB6.out
            go_wp2_with (at_builtin; refine appC _ rfl (.tmp 51) (.tmp 52) rfl w.heap.size R PB.length d PB rfl HR6.out BX nX cX bX rfl hbd (by omega) hz6 ?_; intro A7 c7 w7 hr7 ha7; have HB7 := Lib.hid (HB6.out.trans (ha7.belowC HR6.out hz6)); have HR7 := Lib.hid hr7; clear hr7 ha7)
            refine bodyPost_ret (v := .tuple #[.slice A7 (PB.length + nX) c7, .int .i64 0]) (by simp [results, Tryz.results20, go_sem]) rfl ?_
            rw [HOK2.out.1, HOK2.out.2]
            have hlen : (PB ++ bX).length = PB.length + nX := by rw [List.length_append, HNX.out]
            exact ⟨A7, c7, by rw [hlen], by rw [hlen]; exact HR7.out, HB7.out⟩
          · have HBD2 := Lib.hid (HBADE.out hpe)
            have e1 : (PE != 0) = true := by simpa using hpe
            go_wp2
            refine bodyPost_ret (v := .tuple #[.slice none 0 0, .int .i64 PE]) (by simp [results, Tryz.results20, go_sem]) rfl ?_
            exact RetBE.none_ HB6.out HBD2.out.1 HBD2.out.2
end Go.Proofs.YtecopkcogobolaaGreatDoor
