/- The walk of hop.Bytes. Conditions: a list of bulk at most 2^20, texts and bodies of at most 2^20 bytes, numbers of 64 bits, the library's table of powers of ten. The walks of the document's Put and Bytes. Conditions: a list of bulk at most 2^20, texts and bodies of at most 2^20 bytes, numbers of 64 bits. The walk of the law HopBytes. Conditions: a list of bulk at most 2^20, texts and bodies of at most 2^20 bytes, numbers of 64 bits, the library's table of powers of ten. A head that is written is read as it was, whatever stands behind it, and not ahead of its last byte. No program here. What is read back of the bytes of a response and of a request, whatever stands behind them. No program here. -/
import Derived.Test.YteehjkfmlcfffaaGreatDoorPResp
import Derived.Test.YteehjkfmlcfffaaGreatDoorCopyB
import Derived.Test.YteehjkfmlcfffaaGreatDoorStripA
import Derived.Deep.DeepCutAuto
import Derived.Test.YteehjkfmlcfffaaGreatDoorResp
import Derived.Test.YteehjkfmlcfffaaGreatDoorGrow
import Derived.Test.YteehjkfmlcfffaaGreatDoorShow
import Derived.Test.YteehjkfmlcfffaaGreatDoorAskA
import Derived.Test.YteehjkfmlcfffaaGreatDoorPlainB
import Derived.Test.YteehjkfmlcfffaaGreatDoorRMsgA
namespace Go.Proofs.YteehjkfmlcfffaaGreatDoor
open Go.RowKit

namespace F
def bareB (s : Int) (method : ByteArray) : Bool := decide (100 ≤ s ∧ s ≤ 199) || decide (s = 204) || decide (s = 304) || (decide (L method = [67, 79, 78, 78, 69, 67, 84]) && decide (200 ≤ s ∧ s ≤ 299))
theorem bareOf_eq (s : Int) (method : ByteArray) : bareOf s method = (decide (L method = [72, 69, 65, 68]) || bareB s method) := by
  unfold bareOf bareB
  simp only [Bool.or_assoc]
end F
theorem bytes_big {s m : Int} {r : ByteArray} {fs : List FD} {b l : Bool} {body : List UInt8} (h : 65536 < body.length) : F.bytesB s r m fs b l body = [] ∧ F.bytesE s r m fs b l body.length = 71 := by
  have h1 : F.bytesE s r m fs b l body.length = 71 := if_pos h
  exact ⟨if_neg (by rw [h1]; decide), h1⟩
theorem bytes_bad {s m : Int} {r : ByteArray} {fs : List FD} {b l : Bool} {body : List UInt8} (h : ¬ 65536 < body.length) (hc : F.respE s r m (F.outF fs b l body.length) ≠ 0) : F.bytesB s r m fs b l body = [] ∧ F.bytesE s r m fs b l body.length = F.respE s r m (F.outF fs b l body.length) := by
  have h1 : F.bytesE s r m fs b l body.length = F.respE s r m (F.outF fs b l body.length) := if_neg h
  exact ⟨if_neg (by rw [h1]; exact hc), h1⟩
theorem bytes_ok {s m : Int} {r : ByteArray} {fs : List FD} {b l : Bool} {body : List UInt8} (h : ¬ 65536 < body.length) (hc : F.respE s r m (F.outF fs b l body.length) = 0) : F.bytesB s r m fs b l body = F.respB s r m (F.outF fs b l body.length) ++ (if b then [] else body) ∧ F.bytesE s r m fs b l body.length = 0 := by
  have h1 : F.bytesE s r m fs b l body.length = 0 := (if_neg h).trans hc
  exact ⟨if_pos h1, h1⟩
theorem two_small : NSmall F.two := by unfold NSmall F.two; decide
theorem clen_small : NSmall [F.clenN] := by unfold NSmall; decide

set_option maxHeartbeats 1000000 in
theorem bare_any (s : Int) (method : ByteArray) (w : World) (h0 : -9223372036854775808 ≤ s) (h1 : s ≤ 9223372036854775807) : Calls Tryz.prog 82 #[.int .i64 s, .string method] w (RetP w (.bool (F.bareB s method))) := by
  obtain ⟨d1, d2⟩ := div_hundred s
  have hb : -92233720368547758 ≤ Int.tdiv s 100 ∧ Int.tdiv s 100 ≤ 92233720368547758 := by
    rcases Int.le_total 0 s with h | h
    · rw [Int.tdiv_eq_ediv_of_nonneg h]; omega
    · have e := Int.neg_tdiv (-s) 100
      rw [Int.neg_neg] at e
      rw [e, Int.tdiv_eq_ediv_of_nonneg (by omega : 0 ≤ -s)]; omega
  have hw : wrap64 (Int.tdiv s 100) = Int.tdiv s 100 := IntWalk.wrap64_in _ (by omega)
  rw [← hw] at d1 d2
  clear hb hw h0 h1
  obtain ⟨cb, hcb, hmt⟩ : ∃ cb, cb = decide (L method = [67, 79, 78, 78, 69, 67, 84]) ∧ (method.toList == [67, 79, 78, 78, 69, 67, 84]) = cb := ⟨_, rfl, by rw [L_toList, Bool.eq_iff_iff]; simp⟩
  have he : F.bareB s method = (decide (100 ≤ s ∧ s ≤ 199) || decide (s = 204) || decide (s = 304) || (cb && decide (200 ≤ s ∧ s ≤ 299))) := by unfold F.bareB; rw [hcb]
  rw [he]
  clear he hcb
  by_cases a1 : wrap64 (Int.tdiv s 100) = 1
  · rw [decide_eq_true (d1.1 a1)]
    have b1 : (wrap64 (Int.tdiv s 100) == 1) = true := by simpa using a1
    clear d1 d2
    go_enter Tryz.func82, Tryz.ntmps82
    go_wp2
    go_ret
    exact ⟨rfl, rfl⟩
  · rw [decide_eq_false (fun h => a1 (d1.2 h))]
    have b1 : (wrap64 (Int.tdiv s 100) == 1) = false := by simpa using a1
    clear d1
    by_cases a2 : s = 204
    · have b2 : (s == 204) = true := by simpa using a2
      rw [decide_eq_true a2]
      clear d2
      go_enter Tryz.func82, Tryz.ntmps82
      go_wp2
      go_ret
      exact ⟨rfl, rfl⟩
    · have b2 : (s == 204) = false := by simpa using a2
      rw [decide_eq_false a2]
      by_cases a3 : s = 304
      · have b3 : (s == 304) = true := by simpa using a3
        rw [decide_eq_true a3]
        clear d2
        go_enter Tryz.func82, Tryz.ntmps82
        go_wp2
        go_ret
        exact ⟨rfl, rfl⟩
      · have b3 : (s == 304) = false := by simpa using a3
        rw [decide_eq_false a3]
        cases cb
        · have hmf : ¬ method.toList = [67, 79, 78, 78, 69, 67, 84] := by simpa using hmt
          clear d2
          go_enter Tryz.func82, Tryz.ntmps82
          go_wp2
          go_ret
          exact ⟨rfl, rfl⟩
        · have hmf : method.toList = [67, 79, 78, 78, 69, 67, 84] := by simpa using hmt
          by_cases a4 : wrap64 (Int.tdiv s 100) = 2
          · rw [decide_eq_true (d2.1 a4)]
            have b4 : (wrap64 (Int.tdiv s 100) == 2) = true := by simpa using a4
            clear d2
            go_enter Tryz.func82, Tryz.ntmps82
            go_wp2
            go_ret
            exact ⟨rfl, rfl⟩
          · rw [decide_eq_false (fun h => a4 (d2.2 h))]
            have b4 : (wrap64 (Int.tdiv s 100) == 2) = false := by simpa using a4
            clear d2
            go_enter Tryz.func82, Tryz.ntmps82
            go_wp2
            go_ret
            exact ⟨rfl, rfl⟩

/-- The block of a row is none of another type. -/
theorem Row.apart {u : World} {base : Nat} {e t : TypeId} {size : Nat} {A : Option Addr} {n c b : Nat} {xs : List Value} {cs : Array Value} (h : Row u base e size A n c xs) (hb : Blk u b cs t) (hne : t ≠ e) : ∀ k, ownB A c = some k → k ≠ b := by
  rintro k hk rfl
  have hb' : u.heap[k]? = some (.cells cs t (0, 0)) := hb
  unfold ownB at hk
  split at hk
  · cases hk
  · rename_i hc
    rcases h with ⟨_, h2⟩ | ⟨_, h2, _⟩
    · rcases h2 with ⟨hv, _⟩ | ⟨g, cap, cur, hv, hg, hh, r⟩
      · injection hv with _ _ h3
        exact hc h3
      · injection hv with hA
        subst hA
        simp at hk
        subst hk
        rw [hb'] at hh
        injection hh with hh
        injection hh with _ h2
        exact hne h2
    · exact hc h2

set_option maxRecDepth 100000 in
set_option maxHeartbeats 4000000 in
theorem bytes_any (s m : Int) (r : ByteArray) (A : Option Addr) (c : Nat) (fs : List FD) (B0 : Option Addr) (e0 : Nat) (body : List UInt8) (method : ByteArray) (last : Bool) (w : World) (hs0 : -9223372036854775808 ≤ s) (hs1 : s ≤ 9223372036854775807) (hrs : r.size ≤ 1048576) (hf : F.bulk fs ≤ 1048576) (hx : Rd w A fs.length 2 (fcells fs)) (hnil : A = none → fs.length = 0 ∧ c = 0)
    (hbl : body.length ≤ 1048576) (hbx : Rd w B0 body.length 1 (bcells body)) (ht : TabOk w) :
    Calls Tryz.prog 36 #[.agg #[.int .i64 s, .string r, .int .i64 m, .slice A fs.length c], .slice B0 body.length e0, .string method, .bool last] w (RetBE w (F.bytesB s r m fs (F.bareOf s method) last body) (F.bytesE s r m fs (F.bareOf s method) last body.length)) := by
  have hn : fs.length ≤ 1048576 := by have := F.len_le_bulk fs; omega
  have hn1 : (F.without fs F.two).length ≤ 1048576 := by have := F.len_le_bulk (F.without fs F.two); have := F.bulk_without fs F.two; omega
  have hn2 : (F.without (F.without fs F.two) [F.clenN]).length ≤ 1048576 := by have := F.len_le_bulk (F.without (F.without fs F.two) [F.clenN]); have := F.bulk_without (F.without fs F.two) [F.clenN]; have := F.bulk_without fs F.two; omega
  by_cases hbig : 65536 < body.length
  · have HBG := Lib.hid (bytes_big (s := s) (r := r) (m := m) (fs := fs) (b := F.bareOf s method) (l := last) (body := body) hbig)
    generalize F.bytesB s r m fs (F.bareOf s method) last body = WB at *
    generalize F.bytesE s r m fs (F.bareOf s method) last body.length = WE at *
    clear hx hbx hnil
    go_enter Tryz.func36, Tryz.ntmps36
    go_wp2
    refine bodyPost_ret (v := .tuple #[.slice none 0 0, .int .i64 71]) (by simp [results, Tryz.results36, go_sem]) rfl ?_
    exact RetBE.none_ ((Below.refl _ _).alloc (Nat.le_refl _) _) HBG.out.1 HBG.out.2
  · have HTAB := Lib.hid (fun (u : World) (hb : Below w.heap.size w u) => ht.below hb)
    have HW1 : Hid (∀ X0 u, Below w.heap.size w u → Rd u X0 2 1 (scells F.two) → Calls Tryz.prog 81 #[.slice A fs.length c, .slice X0 2 2] u (RetRow u 148 2 (F.without fs F.two).length (fcells (F.without fs F.two)))) := Lib.hid (fun X0 u hb hX => without_any A fs.length c fs X0 2 2 F.two u (by omega) rfl (small_of_bulk (by omega)) (hx.below hb) hnil (by omega) rfl two_small hX)
    have HW2 : Hid (∀ A1 c1 X0 u, Rd u A1 (F.without fs F.two).length 2 (fcells (F.without fs F.two)) → (A1 = none → (F.without fs F.two).length = 0 ∧ c1 = 0) → Rd u X0 1 1 (scells [F.clenN]) → Calls Tryz.prog 81 #[.slice A1 (F.without fs F.two).length c1, .slice X0 1 1] u (RetRow u 148 2 (F.without (F.without fs F.two) [F.clenN]).length (fcells (F.without (F.without fs F.two) [F.clenN])))) := Lib.hid (fun A1 c1 X0 u hx1 hn1 hX => without_any A1 _ c1 (F.without fs F.two) X0 1 1 [F.clenN] u (by omega) rfl (small_of_bulk (by have := F.bulk_without fs F.two; omega)) hx1 hn1 (by omega) rfl clen_small hX)
    have HBR := Lib.hid (fun u => bare_any s method u hs0 hs1)
    have hbo : F.bulk (F.outF fs (F.bareOf s method) last body.length) ≤ 1073741824 := by have := F.bulk_out fs (F.bareOf s method) last body.length (by omega); omega
    have HPR := Lib.hid (fun (u : World) A5 c5 (hb : Below w.heap.size w u) (hr : Rd u A5 (F.outF fs (F.bareOf s method) last body.length).length 2 (fcells (F.outF fs (F.bareOf s method) last body.length))) => printResponse_any s r m A5 c5 (F.outF fs (F.bareOf s method) last body.length) u (by omega) hbo hr (ht.below hb))
    have hpl := respB_len s r m (F.outF fs (F.bareOf s method) last body.length)
    have hln : (F.outF fs (F.bareOf s method) last body.length).length ≤ 1099511627776 := by have := F.len_le_bulk (F.outF fs (F.bareOf s method) last body.length); omega
    have HOK := Lib.hid (fun h => bytes_ok (s := s) (r := r) (m := m) (fs := fs) (b := F.bareOf s method) (l := last) (body := body) hbig h)
    have HBADE := Lib.hid (fun h => bytes_bad (s := s) (r := r) (m := m) (fs := fs) (b := F.bareOf s method) (l := last) (body := body) hbig h)
    have hbo2 := F.bareOf_eq s method
    rw [← L_toList] at hbo2
    generalize F.bytesB s r m fs (F.bareOf s method) last body = WB at *
    generalize F.bytesE s r m fs (F.bareOf s method) last body.length = WE at *
    generalize F.bareOf s method = bb at *
    obtain ⟨LG, hLG⟩ : ∃ LG, F.outF fs bb last body.length = LG := ⟨_, rfl⟩
    rw [hLG] at HPR hpl hln HOK HBADE
    have HLG : Hid ((if bb = true then F.without fs F.two else F.without (F.without fs F.two) [F.clenN] ++ [((F.clenN, B (Lib.itoa body.length)) : FD)]) ++ F.lastF last = LG) := Lib.hid hLG
    generalize F.respB s r m LG = PB at *
    generalize F.respE s r m LG = PE at *
    generalize F.without (F.without fs F.two) [F.clenN] = T2 at *
    generalize F.without fs F.two = T1 at *
    obtain ⟨LF, hLF⟩ : ∃ LF, LF = (if bb = true then T1 else T2 ++ [((F.clenN, B (Lib.itoa body.length)) : FD)]) := ⟨_, rfl⟩
    rw [← hLF] at HLG
    have hlf : LF.length ≤ 1099511627776 := by
      have := HLG.out
      rw [← this, List.length_append] at hln
      omega
    have HLF := Lib.hid hLF
    obtain ⟨BX, nX, cX, bX, hbX, hnX, hvX, hrX, hlX⟩ : ∃ (BX : Option Addr) (nX cX : Nat) (bX : List UInt8), bX = (if bb = true then [] else body) ∧ bX.length = nX ∧ (Value.slice BX nX cX = if bb = true then .slice none 0 0 else .slice B0 body.length e0) ∧ (∀ u, Below w.heap.size w u → Rd u BX nX 1 (bcells bX)) ∧ nX ≤ 1048576 := by
      cases bb
      · exact ⟨B0, body.length, e0, body, rfl, rfl, rfl, fun u hb => hbx.below hb, hbl⟩
      · exact ⟨none, 0, 0, [], rfl, rfl, rfl, fun u _ => Rd.nil _ _ _, Nat.zero_le _⟩
    rw [← hbX] at HOK
    have HNX := Lib.hid hnX
    have HVX := Lib.hid hvX
    have HBD := Lib.hid hrX
    have hbig2 : ¬ (65536 : Int) < (body.length : Int) := by omega
    have HBBX := Lib.hid hbo2
    clear hs0 hs1 hx hbx hbo hLG hLF hf hbig hbo2 hbX hnX hvX hrX ht hnil
    go_enter Tryz.func36, Tryz.ntmps36
    go_wp2_with fail
    have HK0 := Lib.hid ((Blk.new w #[.int .i64 s, .string r, .int .i64 m, .slice A fs.length c] 27).alloc (.cells #[.string ⟨#[67, 111, 110, 110, 101, 99, 116, 105, 111, 110]⟩, .string ⟨#[84, 114, 97, 110, 115, 102, 101, 114, 45, 69, 110, 99, 111, 100, 105, 110, 103]⟩] 9))
    have HB0 := Lib.hid (((Below.refl w.heap.size w).alloc (Nat.le_refl _) (.cells #[.int .i64 s, .string r, .int .i64 m, .slice A fs.length c] 27)).alloc (by rw [World.size_alloc]; omega) (.cells #[.string ⟨#[67, 111, 110, 110, 101, 99, 116, 105, 111, 110]⟩, .string ⟨#[84, 114, 97, 110, 115, 102, 101, 114, 45, 69, 110, 99, 111, 100, 105, 110, 103]⟩] 9))
    have HN0 := Lib.hid (Rd.newRow (w.alloc (.cells #[.int .i64 s, .string r, .int .i64 m, .slice A fs.length c] 27)) 9 #[.string ⟨#[67, 111, 110, 110, 101, 99, 116, 105, 111, 110]⟩, .string ⟨#[84, 114, 97, 110, 115, 102, 101, 114, 45, 69, 110, 99, 111, 100, 105, 110, 103]⟩] 2 1 rfl)
    rw [World.size_alloc] at HN0
    generalize (w.alloc (.cells #[.int .i64 s, .string r, .int .i64 m, .slice A fs.length c] 27)).alloc (.cells #[.string ⟨#[67, 111, 110, 110, 101, 99, 116, 105, 111, 110]⟩, .string ⟨#[84, 114, 97, 110, 115, 102, 101, 114, 45, 69, 110, 99, 111, 100, 105, 110, 103]⟩] 9) = w0 at *
    refine (HW1.out _ _ HB0.out HN0.out).mono ?_
    rintro e w1 ⟨A1, c1, rfl, hr1, hb1⟩
    have HN1 := Lib.hid (fun h => hr1.nilB h)
    have HK1 := Lib.hid (HK0.out.below hb1)
    obtain ⟨x0, x1, x2, x3⟩ := HK1.out.cells4
    obtain ⟨f0, f1, f2, f3⟩ := HK1.out.free4
    have HB1 := Lib.hid (below_then HB0.out.size HB0.out hb1)
    have HK := Lib.hid (HK1.out.set 3 (.slice A1 T1.length c1))
    have HRW := Lib.hid ((hr1.farT HK1.out (by decide) 3 (.slice A1 T1.length c1)).mono HB0.out.size)
    have HB := Lib.hid (below_set HB1.out (Nat.le_refl _) 3 (.slice A1 T1.length c1))
    clear hb1 hr1 HW1 HK0 HB0 HN0 HK1 HB1
    go_upto_region 4 with fail
    clear x0 x1 x2 x3 f0 f1 f2 f3
    generalize (w1.setCell ⟨w.heap.size, 3, none⟩ (.slice A1 T1.length c1)) = wp at *
    go_cut [27] (fun s27 wx => s27 = .bool bb ∧ wx = wp)
    case first =>
      obtain ⟨x0, x1, x2, x3⟩ := HK.out.cells4
      have hbb := HBBX.out
      clear HBBX HPR HOK HBADE HLG HLF HW2 HBD HTAB HRW HB HVX HNX
      by_cases hh : method.toList = [72, 69, 65, 68]
      · obtain rfl : bb = true := by rw [hbb, decide_eq_true hh]; rfl
        clear hbb
        go_wp2_with fail
        go_meet
        exact ⟨rfl, rfl⟩
      · rw [decide_eq_false hh, Bool.false_or] at hbb
        have hh2 : (method.toList == [72, 69, 65, 68]) = false := by simpa using hh
        rw [← hbb] at HBR
        clear hbb
        go_wp2_with fail
        refine (HBR.out _).mono ?_
        rintro e w' ⟨rfl, rfl⟩
        go_wp2_with fail
        go_meet
        exact ⟨rfl, rfl⟩
    case rest =>
      obtain ⟨rfl, rfl⟩ := hcut
      clear HBBX HBR
      go_upto_if 27 with fail
      go_cut [1] (fun s1 wx => s1 = .slice BX nX cX ∧ (fun (L : List FD) (wx : World) => ∃ A1 c1, Blk wx w.heap.size #[.int .i64 s, .string r, .int .i64 m, .slice A1 L.length c1] 27 ∧ Row wx w.heap.size 148 2 A1 L.length c1 (fcells L) ∧ (A1 = none → L.length = 0 ∧ c1 = 0) ∧ Below w.heap.size w wx) LF wx)
      case first =>
        clear HPR HOK HBADE HLG HBD
        cases bb
        · have hlf2 : T2 ++ [((F.clenN, B (Lib.itoa body.length)) : FD)] = LF := HLF.out.symm
          subst hlf2
          have hvv : Value.slice BX nX cX = .slice B0 body.length e0 := HVX.out
          have HVV := Lib.hid hvv
          clear HLF HVX HNX hvv
          obtain ⟨x0, x1, x2, x3⟩ := HK.out.cells4
          have HK2 := Lib.hid (HK.out.alloc (.cells #[.string ⟨#[67, 111, 110, 116, 101, 110, 116, 45, 76, 101, 110, 103, 116, 104]⟩] 9))
          have HB2 := Lib.hid (HB.out.alloc HB.out.size (.cells #[.string ⟨#[67, 111, 110, 116, 101, 110, 116, 45, 76, 101, 110, 103, 116, 104]⟩] 9))
          have HN2 := Lib.hid (Rd.newRow wc 9 #[.string ⟨#[67, 111, 110, 116, 101, 110, 116, 45, 76, 101, 110, 103, 116, 104]⟩] 1 1 rfl)
          have HR2 := Lib.hid (HRW.out.rd.alloc (.cells #[.string ⟨#[67, 111, 110, 116, 101, 110, 116, 45, 76, 101, 110, 103, 116, 104]⟩] 9))
          clear HK HB HRW
          go_wp2_with fail
          clear x0 x1 x2 x3
          generalize wc.alloc (.cells #[.string ⟨#[67, 111, 110, 116, 101, 110, 116, 45, 76, 101, 110, 103, 116, 104]⟩] 9) = w2 at *
          refine (HW2.out A1 c1 _ w2 HR2.out HN1.out HN2.out).mono ?_
          rintro e w3 ⟨A2, c2, rfl, hr3, hb3⟩
          have HK3 := Lib.hid (HK2.out.below hb3)
          have HB3 := Lib.hid (below_then HB2.out.size HB2.out hb3)
          have HR3 := Lib.hid hr3
          have hz3 := hb3.size
          have hz2 := HB2.out.size
          clear hb3 hr3 HK2 HB2 HN2 HR2 HW2 HN1
          go_wp2_with fail
          refine (length_any w2.heap.size A2 c2 T2 body.length _ (by omega) HR3.out hz3 (by omega) (HTAB.out _ HB3.out)).mono ?_
          rintro e w4 ⟨A4, c4, rfl, hr4, hg4⟩
          have hlt4 : ∀ q, ownB A2 c2 = some q → w2.heap.size ≤ q := fun q hq => (HR3.out.lt q hq).1
          have HK4 : Hid (Blk w4 w.heap.size #[.int .i64 s, .string r, .int .i64 m, .slice A1 T1.length c1] 27) := Lib.hid ((hg4.block _ HK3.out.lt (fun e => HR3.out.apart HK3.out (by decide) _ e.symm rfl)).trans HK3.out)
          have HB4 : Hid (Below w.heap.size w w4) := Lib.hid (HB3.out.grown hg4 HB3.out.size (fun q hq => by have := hlt4 q hq; omega))
          obtain ⟨x0, x1, x2, x3⟩ := HK4.out.cells4
          obtain ⟨f0, f1, f2, f3⟩ := HK4.out.free4
          have HR4 := Lib.hid hr4
          clear hr4 hg4 hlt4 HK3 HB3 HR3
          go_wp2_with fail
          go_meet
          refine ⟨HVV.out.symm, A4, c4, ?_, ?_, ?_, below_set HB4.out (Nat.le_refl _) 3 _⟩
          · rw [List.length_append]; exact HK4.out.set 3 _
          · rw [List.length_append]; exact (HR4.out.farT HK4.out (by decide) 3 _).mono hz2
          · intro h
            have := HR4.out.nilB h
            omega
        · have hlf2 : T1 = LF := HLF.out.symm
          subst hlf2
          have hvv : Value.slice BX nX cX = .slice none 0 0 := HVX.out
          have HVV := Lib.hid hvv
          clear HLF HVX HNX hvv
          go_wp2_with fail
          go_meet
          exact ⟨HVV.out.symm, A1, c1, HK.out, HRW.out, HN1.out, HB.out⟩
      case rest =>
        obtain ⟨rfl, A4, c4, hk4, hr4, hn4, hb4⟩ := hcut
        clear HK HRW HB HN1 HLF HVX HW2
        have HK := Lib.hid hk4
        have HR := Lib.hid hr4
        have HB := Lib.hid hb4
        have HN4 := Lib.hid hn4
        clear hk4 hr4 hb4 hn4
        go_upto_if 36 with fail
        go_cut [] (fun wx => (fun (L : List FD) (wx : World) => ∃ A1 c1, Blk wx w.heap.size #[.int .i64 s, .string r, .int .i64 m, .slice A1 L.length c1] 27 ∧ Row wx w.heap.size 148 2 A1 L.length c1 (fcells L) ∧ (A1 = none → L.length = 0 ∧ c1 = 0) ∧ Below w.heap.size w wx) LG wx)
        case first =>
          clear HPR HOK HBADE HBD
          cases last
          · have hlg : LF = LG := (List.append_nil LF).symm.trans HLG.out
            subst hlg
            clear HLG
            go_wp2_with fail
            go_meet
            exact ⟨A4, c4, HK.out, HR.out, HN4.out, HB.out⟩
          · have hlg : LF ++ [(F.connN, F.closeN)] = LG := HLG.out
            have HNEW := Lib.hid (newF wc (F.connN, F.closeN))
            have HR2 := Lib.hid (HR.out.alloc (.cells #[.string ⟨#[67, 111, 110, 110, 101, 99, 116, 105, 111, 110]⟩, .string ⟨#[99, 108, 111, 115, 101]⟩] 148))
            have HK2 := Lib.hid (HK.out.alloc (.cells #[.string ⟨#[67, 111, 110, 110, 101, 99, 116, 105, 111, 110]⟩, .string ⟨#[99, 108, 111, 115, 101]⟩] 148))
            have HB2 := Lib.hid (HB.out.alloc HB.out.size (.cells #[.string ⟨#[67, 111, 110, 110, 101, 99, 116, 105, 111, 110]⟩, .string ⟨#[99, 108, 111, 115, 101]⟩] 148))
            have hz2 := HB2.out.size
            obtain ⟨x0, x1, x2, x3⟩ := HK.out.cells4
            have hlq := HK.out.lt
            have HLG2 := Lib.hid hlg
            clear hlg HLG HK HR HB
            go_wp2_with (at_builtin; refine appF _ rfl (.tmp 38) (.tmp 40) rfl w.heap.size A4 LF.length c4 LF rfl HR2.out _ 1 1 [(F.connN, F.closeN)] rfl HNEW.out (by omega) hz2 ?_; intro A5 c5 w5 hr5 ha5; have HK5 := Lib.hid (HK2.out.app ha5 (HR2.out.apart HK2.out (by decide))); have HB5 := Lib.hid (HB2.out.trans (ha5.below HR2.out hz2)); have HR5 := Lib.hid hr5; obtain ⟨y0, y1, y2, y3⟩ := HK5.out.cells4; obtain ⟨g0, g1, g2, g3⟩ := HK5.out.free4; clear hr5 ha5 HK2 HB2 HR2 HNEW x0 x1 x2 x3)
            go_meet
            have hll : LG.length = LF.length + 1 := by rw [← HLG2.out, List.length_append]; rfl
            refine ⟨A5, c5, ?_, ?_, ?_, below_set HB5.out (Nat.le_refl _) 3 _⟩
            · rw [hll]; exact HK5.out.set 3 _
            · rw [hll, ← HLG2.out]; exact HR5.out.farT HK5.out (by decide) 3 _
            · intro h
              have := HR5.out.nilB h
              omega
        case rest =>
          obtain ⟨A5, c5, hk5, hr5, _, hb5⟩ := hcut
          clear HK HR HB HN4 HLG
          have HB := Lib.hid hb5
          have HRD := Lib.hid hr5.rd
          obtain ⟨x0, x1, x2, x3⟩ := hk5.cells4
          clear hk5 hr5 hb5
          go_wp2_with fail
          refine (HPR.out _ A5 c5 HB.out HRD.out).mono ?_
          rintro e w6 ⟨R, d, rfl, hr6, hb6⟩
          have HB6 := Lib.hid (below_then HB.out.size HB.out hb6)
          have HR6 := Lib.hid (hr6.mono HB.out.size)
          have hz6 := HB6.out.size
          clear hr6 hb6 HPR HRD x0 x1 x2 x3
          by_cases hpe : PE = 0
          · have HOK2 := Lib.hid (HOK.out hpe)
            subst hpe
            have hbd := HBD.out w6 HB6.out
            go_wp2_with (at_builtin; refine appC _ rfl (.tmp 51) (.tmp 52) rfl w.heap.size R PB.length d PB rfl HR6.out BX nX cX bX rfl hbd (by omega) hz6 ?_; intro A7 c7 w7 hr7 ha7; have HB7 := Lib.hid (HB6.out.trans (ha7.belowC HR6.out hz6)); have HR7 := Lib.hid hr7; clear hr7 ha7)
            refine bodyPost_ret (v := .tuple #[.slice A7 (PB.length + nX) c7, .int .i64 0]) (by simp [results, Tryz.results36, go_sem]) rfl ?_
            rw [HOK2.out.1, HOK2.out.2]
            have hlen : (PB ++ bX).length = PB.length + nX := by rw [List.length_append, HNX.out]
            exact ⟨A7, c7, by rw [hlen], by rw [hlen]; exact HR7.out, HB7.out⟩
          · have HBD2 := Lib.hid (HBADE.out hpe)
            have e1 : (PE != 0) = true := by simpa using hpe
            go_wp2
            refine bodyPost_ret (v := .tuple #[.slice none 0 0, .int .i64 PE]) (by simp [results, Tryz.results36, go_sem]) rfl ?_
            exact RetBE.none_ HB6.out HBD2.out.1 HBD2.out.2
end Go.Proofs.YteehjkfmlcfffaaGreatDoor


namespace Go.Proofs.YteehjkfmlcfffaaGreatDoor
open Go.RowKit

theorem sameBB (A B : Option Addr) (n c d : Nat) (xs : List UInt8) (w : World) (hn : n ≤ 1099511627776) (hl : xs.length = n) (hx : Rd w A n 1 (bcells xs)) (hy : Rd w B n 1 (bcells xs)) :
    Calls Tryz.prog 17 #[.slice A n c, .slice B n d] w (RetB w true) := by
  have := sameBytes_any A B n n c d xs xs w hn hn hx hy hl hl
  simpa using this
/-- What the walk holds: the argument's block, the copy's, the copy's list, the body with its marks. -/
def BytesS (w : World) (b : Nat) (X X1 : Array Value) (A1 : Option Addr) (fs : List FD) (g : Nat) (body : List UInt8) (u : World) : Prop :=
  Blk u w.heap.size X 27 ∧ Blk u b X1 27 ∧ Rd u A1 fs.length 2 (fcells fs) ∧ Rd u (some ⟨g, 0, none⟩) (body.length + marks.length) 1 (bcells (body ++ marks)) ∧ Below w.heap.size w u
theorem BytesS.below {w u v : World} {b g : Nat} {X X1 : Array Value} {A1 : Option Addr} {fs : List FD} {body : List UInt8} (h : BytesS w b X X1 A1 fs g body u) (hb : Below u.heap.size u v) : BytesS w b X X1 A1 fs g body v :=
  ⟨h.1.below hb, h.2.1.below hb, h.2.2.1.below hb, h.2.2.2.1.below hb, below_then h.2.2.2.2.size h.2.2.2.2 hb⟩

end Go.Proofs.YteehjkfmlcfffaaGreatDoor

namespace Go.Proofs.YteehjkfmlcfffaaGreatDoor
namespace P
open T (Bs)
theorem tokB_not {c : UInt8} (h : T.tokB c = true) : c ≠ 13 ∧ c ≠ 10 ∧ c ≠ 32 ∧ c ≠ 58 ∧ c ≠ 9 :=
  ⟨fun e => by subst e; exact absurd h (by decide), fun e => by subst e; exact absurd h (by decide), fun e => by subst e; exact absurd h (by decide), fun e => by subst e; exact absurd h (by decide), fun e => by subst e; exact absurd h (by decide)⟩
theorem textB_not {c : UInt8} (h : T.textB c = true) : c ≠ 13 ∧ c ≠ 10 :=
  ⟨fun e => by subst e; exact absurd h (by decide), fun e => by subst e; exact absurd h (by decide)⟩
theorem visB_not {c : UInt8} (h : F.visB c = true) : c ≠ 13 ∧ c ≠ 10 ∧ c ≠ 32 :=
  ⟨fun e => by subst e; exact absurd h (by decide), fun e => by subst e; exact absurd h (by decide), fun e => by subst e; exact absurd h (by decide)⟩
theorem eol_no {c : UInt8} (h1 : c ≠ 13) (h2 : c ≠ 10) : eol c = false := by
  unfold eol
  rw [Bool.or_eq_false_iff, beq_eq_false_iff_ne, beq_eq_false_iff_ne]
  exact ⟨h1, h2⟩
theorem mem_tok {l : Bs} (h : T.token l = true) {x : UInt8} (hx : x ∈ l) : T.tokB x = true := by
  unfold T.token at h
  rw [Bool.and_eq_true, List.all_eq_true] at h
  exact h.1 x hx
theorem tok_ne {l : Bs} (h : T.token l = true) : l ≠ [] := by
  rintro rfl
  exact absurd h (by decide)

/-- A field's line without its end. -/
def bare (f : FD) : Bs := L f.1 ++ 58 :: 32 :: L f.2
theorem line_bare (f : FD) : F.line f = bare f ++ [13, 10] := by
  unfold F.line bare
  simp
theorem bare_ok {f : FD} (h : F.okF f = true) : (∀ y ∈ bare f, eol y = false) ∧ oneE (bare f) = 0 ∧ oneF (bare f) = f ∧ ∃ x t, bare f = x :: t ∧ x ≠ 13 := by
  unfold F.okF at h
  rw [Bool.and_eq_true] at h
  obtain ⟨h1, h2⟩ := h
  have h3 := h2
  unfold F.good at h3
  rw [Bool.and_eq_true, List.all_eq_true, decide_eq_true_eq] at h3
  obtain ⟨h3, h4⟩ := h3
  have hs := upto_app (· == 58) (L f.1) 58 (32 :: L f.2) (fun y hy => by
    have := (tokB_not (mem_tok h1 hy)).2.2.2.1
    simpa using this) (by decide)
  have hn : nameOf (bare f) = L f.1 := hs.1
  have hfr : from_ (· == 58) (bare f) = 58 :: 32 :: L f.2 := hs.2
  have hv : valOf (bare f) = L f.2 := by
    unfold valOf
    rw [hfr]
    show T.trim (32 :: L f.2) = _
    have : T.trim (32 :: L f.2) = T.trim (L f.2) := by
      unfold T.trim
      rw [List.dropWhile_cons, if_pos (by decide)]
    rw [this, h4]
  obtain ⟨x, t, hxt⟩ : ∃ x t, L f.1 = x :: t := by
    cases h5 : L f.1 with
    | nil => exact absurd h5 (tok_ne h1)
    | cons x t => exact ⟨x, t, rfl⟩
  have hx := tokB_not (mem_tok h1 (show x ∈ L f.1 by rw [hxt]; simp))
  have hcons : bare f = x :: (t ++ 58 :: 32 :: L f.2) := by
    unfold bare
    rw [hxt]; rfl
  refine ⟨?_, ?_, ?_, x, _, hcons, hx.1⟩
  · intro y hy
    unfold bare at hy
    rw [List.mem_append, List.mem_cons, List.mem_cons] at hy
    rcases hy with hy | rfl | rfl | hy
    · have := tokB_not (mem_tok h1 hy)
      exact eol_no this.1 this.2.1
    · decide
    · decide
    · have := textB_not (h3 y hy)
      exact eol_no this.1 this.2
  · unfold oneE
    rw [if_neg, if_neg]
    · rw [hfr, hn, hv, B_L, h1, h2]
      rintro (h | h | h) <;> cases h
    · rw [hcons]
      simp only [List.head?_cons, Option.some.injEq]
      rintro (h | h)
      · exact hx.2.2.1 h
      · exact hx.2.2.2.2 h
  · unfold oneF
    rw [hn, hv, B_L, B_L]
theorem lines_cons (f : FD) (fs : List FD) : F.lines (f :: fs) = bare f ++ 13 :: 10 :: F.lines fs := by
  unfold F.lines
  rw [List.flatMap_cons, line_bare]
  simp
theorem parse_lines : ∀ (fs out : List FD), fs.all F.okF = true → out.length + fs.length ≤ 100 → parse out (F.lines fs) = (out ++ fs, 0)
  | [], out, _, _ => by
    rw [show F.lines [] = [] from rfl, parse_nil, List.append_nil]
  | f :: fs, out, h, hl => by
    rw [List.all_cons, Bool.and_eq_true] at h
    obtain ⟨g1, g2, g3, x, t, hxt, _⟩ := bare_ok h.1
    have hs := upto_app eol (bare f) 13 (10 :: F.lines fs) g1 (by decide)
    rw [lines_cons, parse_step out (by rw [hxt]; simp) hs.2, hs.1, g2, g3, if_neg (fun h => h rfl)]
    simp only [List.length_cons] at hl
    rw [if_neg (by omega), parse_lines fs (out ++ [f]) h.2 (by rw [List.length_append]; simp only [List.length_cons, List.length_nil]; omega)]
    simp

/-! ### Where the empty line is -/
theorem index_cons_no {x : UInt8} {l : Bs} {sub : Bs} {i : Nat} (h : sub.isPrefixOf (x :: l) = false) (hi : Lib.index l sub = (i : Int)) : Lib.index (x :: l) sub = ((i + 1 : Nat) : Int) := by
  unfold Lib.index
  rw [h, hi]
  have : ((i : Int) == -1) = false := by rw [beq_eq_false_iff_ne]; omega
  simp [this]
theorem index_cons_yes {x : UInt8} {l : Bs} {sub : Bs} (h : sub.isPrefixOf (x :: l) = true) : Lib.index (x :: l) sub = 0 := by
  unfold Lib.index
  rw [if_pos h]
theorem pre_no {x : UInt8} {l t : Bs} (h : x ≠ 13) : (13 :: t : Bs).isPrefixOf (x :: l) = false := by
  rw [List.isPrefixOf_cons_cons, Bool.and_eq_false_iff]
  exact .inl (by rw [beq_eq_false_iff_ne]; exact fun e => h e.symm)
theorem index_past_u {t : Bs} : ∀ (u r : Bs) (i : Nat), (∀ y ∈ u, eol y = false) → Lib.index r (13 :: t) = (i : Int) → Lib.index (u ++ r) (13 :: t) = ((u.length + i : Nat) : Int)
  | [], r, i, _, hi => by simpa using hi
  | y :: u, r, i, hu, hi => by
    have hy : y ≠ 13 := ((eol_iff' y).1 (hu y (by simp))).1
    have := index_past_u u r i (fun z hz => hu z (by simp [hz])) hi
    rw [List.cons_append, index_cons_no (pre_no hy) this]
    simp only [List.length_cons]
    congr 1
    omega
where
  eol_iff' (x : UInt8) : eol x = false ↔ x ≠ 13 ∧ x ≠ 10 := by
    unfold eol
    rw [Bool.or_eq_false_iff, beq_eq_false_iff_ne, beq_eq_false_iff_ne]
theorem index_crlf (r : Bs) : Lib.index (13 :: 10 :: r) crlf = 0 := index_cons_yes (by simp [crlf])
theorem index_crlf2 (r : Bs) : Lib.index (13 :: 10 :: 13 :: 10 :: r) crlf2 = 0 := index_cons_yes (by simp [crlf2])
theorem index_two {x : UInt8} {l : Bs} {i : Nat} (hx : x ≠ 13) (hi : Lib.index (x :: l) crlf2 = (i : Int)) : Lib.index (13 :: 10 :: x :: l) crlf2 = ((i + 2 : Nat) : Int) := by
  have h1 : Lib.index (10 :: x :: l) crlf2 = ((i + 1 : Nat) : Int) := index_cons_no (pre_no (by decide)) hi
  refine index_cons_no ?_ h1
  unfold crlf2
  rw [List.isPrefixOf_cons_cons, List.isPrefixOf_cons_cons, pre_no hx]
  rfl
theorem index_head : ∀ (fs : List FD) (u rest : Bs), fs.all F.okF = true → (∀ y ∈ u, eol y = false) → Lib.index (u ++ 13 :: 10 :: (F.lines fs ++ 13 :: 10 :: rest)) crlf2 = ((u.length + (F.lines fs).length : Nat) : Int)
  | [], u, rest, _, hu => index_past_u u _ 0 hu (index_crlf2 rest)
  | f :: fs, u, rest, h, hu => by
    rw [List.all_cons, Bool.and_eq_true] at h
    obtain ⟨g1, _, _, x, t, hxt, hx⟩ := bare_ok h.1
    have ih := index_head fs (bare f) rest h.2 g1
    have e : F.lines (f :: fs) ++ 13 :: 10 :: rest = bare f ++ 13 :: 10 :: (F.lines fs ++ 13 :: 10 :: rest) := by
      rw [lines_cons]; simp
    rw [e]
    have hl : (F.lines (f :: fs)).length = (bare f).length + 2 + (F.lines fs).length := by
      rw [lines_cons]
      simp only [List.length_append, List.length_cons]
      omega
    rw [hl]
    refine index_past_u u _ _ hu ?_
    rw [hxt, List.cons_append] at ih ⊢
    refine (index_two hx ih).trans ?_
    congr 1
    omega
/-- A head: its line, its fields, the empty line. -/
def headOf (u : Bs) (fs : List FD) : Bs := u ++ [13, 10] ++ F.lines fs ++ [13, 10]
theorem headOf_app (u : Bs) (fs : List FD) (rest : Bs) : headOf u fs ++ rest = u ++ 13 :: 10 :: (F.lines fs ++ 13 :: 10 :: rest) := by
  unfold headOf
  simp
theorem headOf_len (u : Bs) (fs : List FD) : (headOf u fs).length = u.length + (F.lines fs).length + 4 := by
  unfold headOf
  simp only [List.length_append, List.length_cons, List.length_nil]
  omega
theorem head_facts (u : Bs) (fs : List FD) (rest : Bs) (h : fs.all F.okF = true) (hu : ∀ y ∈ u, eol y = false) (hl : u.length + (F.lines fs).length + 4 ≤ 8192) :
    hIdx (headOf u fs ++ rest) 0 = ((u.length + (F.lines fs).length : Nat) : Int) ∧ hE (headOf u fs ++ rest) 0 = 0 ∧ hN (headOf u fs ++ rest) 0 = ((headOf u fs).length : Int) ∧ hLine (headOf u fs ++ rest) 0 = u ∧ hBlock (headOf u fs ++ rest) 0 = F.lines fs := by
  have h0 : hIdx (headOf u fs ++ rest) 0 = ((u.length + (F.lines fs).length : Nat) : Int) := by
    unfold hIdx
    rw [List.drop_zero, headOf_app]
    exact index_head fs u rest h hu
  have ht : hText (headOf u fs ++ rest) 0 = u ++ 13 :: 10 :: F.lines fs := by
    unfold hText
    rw [h0, List.drop_zero, headOf_app]
    have e : u ++ 13 :: 10 :: (F.lines fs ++ 13 :: 10 :: rest) = (u ++ 13 :: 10 :: F.lines fs) ++ (13 :: 10 :: rest) := by simp
    rw [e]
    refine List.take_left' ?_
    simp only [List.length_append, List.length_cons]
    omega
  have hx : Lib.index (u ++ 13 :: 10 :: F.lines fs) crlf = ((u.length : Nat) : Int) := by
    have := index_past_u (t := [10]) u (13 :: 10 :: F.lines fs) 0 hu (index_crlf _)
    rw [Nat.add_zero] at this
    exact this
  refine ⟨h0, ?_, ?_, ?_, ?_⟩
  · unfold hE
    rw [h0, if_neg (by omega), if_neg (by omega)]
  · unfold hN
    rw [h0, if_neg (by omega), headOf_len]
    omega
  · unfold hLine
    rw [ht, hx, Int.toNat_natCast, List.take_left' rfl]
  · unfold hBlock
    rw [ht, hx, Int.toNat_natCast]
    have e : u ++ 13 :: 10 :: F.lines fs = (u ++ [13, 10]) ++ F.lines fs := by simp
    rw [e]
    exact List.drop_left' (by simp)
/-- Ahead of its last byte nothing is told. -/
theorem head_short (u : Bs) (fs : List FD) (h : fs.all F.okF = true) (hu : ∀ y ∈ u, eol y = false) (hl : u.length + (F.lines fs).length + 4 ≤ 8192) :
    hIdx ((headOf u fs).take ((headOf u fs).length - 1)) 0 < 0 := by
  have h0 := (head_facts u fs [] h hu hl).1
  rw [List.append_nil] at h0
  have hlen := headOf_len u fs
  rcases idx_cases ((headOf u fs).take ((headOf u fs).length - 1)) 0 with h1 | ⟨i, h1, h2⟩
  · exact h1
  · rw [List.length_take] at h2
    have := (idx_front (b := (headOf u fs).take ((headOf u fs).length - 1)) (b' := headOf u fs) (m := (headOf u fs).length - 1) (by rw [List.take_take, Nat.min_self]) h1 (by omega) (by omega)).1
    omega

/-! ### Requests and responses -/
theorem whole_ok {l : Bs} {fs : List FD} (h : F.wholeE l fs = 0) : fs.all F.okF = true ∧ fs.length ≤ 100 ∧ l.length + (F.lines fs).length + 4 ≤ 8192 ∧ F.wholeB l fs = headOf l fs := by
  refine ⟨?_, ?_, ?_, if_pos h⟩
  all_goals
    unfold F.wholeE at h
    split at h
    · rename_i h1
      unfold F.printE at h1
      split at h1
      · rename_i h2
        split at h1
        · cases h1
        · split at h
          · cases h
          · first | exact h2 | omega
      · cases h1
    · rename_i h1
      exact absurd h h1
theorem itoa01 {n : Int} (h0 : 0 ≤ n) (h1 : n ≤ 1) : (n = 0 ∧ Lib.itoa n = [48]) ∨ (n = 1 ∧ Lib.itoa n = [49]) := by
  rcases (by omega : n = 0 ∨ n = 1) with rfl | rfl
  · exact .inl ⟨rfl, by unfold Lib.itoa; rw [if_neg (by decide), show (0 : Int).toNat = 0 from rfl, Lib.decDigits]; rfl⟩
  · exact .inr ⟨rfl, by rw [itoa_show 1 (by decide)]; decide⟩
theorem skip_of {x : UInt8} {l : Bs} (h : x ≠ 13) : skip (x :: l) = 0 := skip_stop (pre_no h)

/-- A request's head, read again. -/
theorem request_round {m t : ByteArray} {v : Int} {fs : List FD} (h : F.reqE m t v fs = 0) (hh : hostsOf fs = 1 ∨ (hostsOf fs = 0 ∧ v = 0)) (rest : Bs) :
    request (F.reqB m t v fs ++ rest) = ⟨m, t, v, fs, ((F.reqB m t v fs).length : Int), 0⟩ ∧ (F.reqB m t v fs).length ≤ 8192 ∧ 0 < (F.reqB m t v fs).length ∧ request ((F.reqB m t v fs).take ((F.reqB m t v fs).length - 1)) = .bad 0 := by
  unfold F.reqE at h
  split at h
  case isFalse => cases h
  case isTrue hok =>
    have hB : F.reqB m t v fs = F.wholeB (F.reqLine m t v) fs := if_pos hok
    obtain ⟨h1, h2, h3, h4⟩ := whole_ok h
    rw [hB, h4]
    unfold F.reqOk at hok
    simp only [Bool.and_eq_true, decide_eq_true_eq] at hok
    obtain ⟨⟨⟨k1, k2⟩, k3⟩, k4⟩ := hok
    have hvis := k2
    unfold F.visible at hvis
    rw [Bool.and_eq_true, List.all_eq_true] at hvis
    obtain ⟨x, r, hxr⟩ : ∃ x r, L m = x :: r := by
      cases h5 : L m with
      | nil => exact absurd h5 (tok_ne k1)
      | cons x r => exact ⟨x, r, rfl⟩
    have hx := tokB_not (mem_tok k1 (show x ∈ L m by rw [hxr]; simp))
    obtain ⟨d, hd, hdv⟩ : ∃ d : UInt8, Lib.itoa v = [d] ∧ ((v = 0 ∧ d = 48) ∨ (v = 1 ∧ d = 49)) := by
      rcases itoa01 k3 k4 with ⟨e1, e2⟩ | ⟨e1, e2⟩
      · exact ⟨48, e2, .inl ⟨e1, rfl⟩⟩
      · exact ⟨49, e2, .inr ⟨e1, rfl⟩⟩
    have hline : F.reqLine m t v = L m ++ 32 :: (L t ++ 32 :: [72, 84, 84, 80, 47, 49, 46, d]) := by
      unfold F.reqLine F.httpT
      rw [hd]
      simp
    have hu : ∀ y ∈ F.reqLine m t v, eol y = false := by
      rw [hline]
      intro y hy
      rw [List.mem_append, List.mem_cons, List.mem_append, List.mem_cons] at hy
      rcases hy with hy | rfl | hy | rfl | hy
      · have := tokB_not (mem_tok k1 hy)
        exact eol_no this.1 this.2.1
      · decide
      · have := visB_not (hvis.1 y hy)
        exact eol_no this.1 this.2.1
      · decide
      · rcases hdv with ⟨_, rfl⟩ | ⟨_, rfl⟩
        all_goals
          revert y
          decide
    have hf := head_facts (F.reqLine m t v) fs rest h1 hu h3
    have hs0 : ∀ w : Bs, (∃ w', headOf (F.reqLine m t v) fs ++ w = x :: w') := fun w => by
      unfold headOf
      rw [hline, hxr]
      exact ⟨_, rfl⟩
    have hsk : skip (headOf (F.reqLine m t v) fs ++ rest) = 0 := by
      obtain ⟨w', e⟩ := hs0 rest
      rw [e]
      exact skip_of hx.1
    have e1 := upto_app sp (L m) 32 (L t ++ 32 :: [72, 84, 84, 80, 47, 49, 46, d]) (fun y hy => by
      have := (tokB_not (mem_tok k1 hy)).2.2.1
      unfold sp
      simpa using this) (by decide)
    have e2 := upto_app sp (L t) 32 [72, 84, 84, 80, 47, 49, 46, d] (fun y hy => by
      have := (visB_not (hvis.1 y hy)).2.2
      unfold sp
      simpa using this) (by decide)
    have m1 : methodOf (F.reqLine m t v) = L m := by rw [hline]; exact e1.1
    have m2 : behind (F.reqLine m t v) = L t ++ 32 :: [72, 84, 84, 80, 47, 49, 46, d] := by
      rw [hline]
      unfold behind
      rw [e1.2]
      rfl
    have m3 : methodOf (behind (F.reqLine m t v)) = L t := by rw [m2]; exact e2.1
    have m4 : behind (behind (F.reqLine m t v)) = [72, 84, 84, 80, 47, 49, 46, d] := by
      rw [m2]
      unfold behind
      rw [e2.2]
      rfl
    have hve : verE [72, 84, 84, 80, 47, 49, 46, d] = 0 ∧ verN [72, 84, 84, 80, 47, 49, 46, d] = v := by
      rcases hdv with ⟨rfl, rfl⟩ | ⟨rfl, rfl⟩
      · exact ⟨by decide, by decide⟩
      · exact ⟨by decide, by decide⟩
    have hp := parse_lines fs [] h1 (by simpa using h2)
    rw [List.nil_append] at hp
    have hlen := headOf_len (F.reqLine m t v) fs
    refine ⟨?_, by omega, by omega, ?_⟩
    · unfold request
      rw [hsk, hf.2.1, hf.2.2.1, hf.2.2.2.1, hf.2.2.2.2, if_neg (by omega)]
      unfold reqOf
      rw [m1, m3, m4, B_L, B_L, k1, k2, hve.1, hve.2, hp, if_neg (by simp), if_neg (by decide), if_neg (fun h => h rfl), if_neg]
      show ¬ (hostsOf fs > 1 ∨ hostsOf fs < v)
      rcases hh with hh | ⟨hh, hv⟩
      · omega
      · omega
    · have hsh := head_short (F.reqLine m t v) fs h1 hu h3
      have hsk2 : skip ((headOf (F.reqLine m t v) fs).take ((headOf (F.reqLine m t v) fs).length - 1)) = 0 := by
        obtain ⟨w', e⟩ := hs0 []
        rw [List.append_nil] at e
        have hl2 : (headOf (F.reqLine m t v) fs).length - 1 = (w'.length - 1) + 1 := by
          have := congrArg List.length e
          simp only [List.length_cons] at this
          omega
        rw [hl2, e, List.take_succ_cons]
        exact skip_of hx.1
      have := request_no (b := (headOf (F.reqLine m t v) fs).take ((headOf (F.reqLine m t v) fs).length - 1)) (by rw [hsk2]; exact hsh)
      rw [this, hsk2, hE_no hsh, if_pos (by rw [List.length_take]; omega)]

/-- The three digits of a status. -/
theorem status_digits : ∀ k : Fin 500, code3 (low (k.1 + 100)).reverse = true ∧ stat (low (k.1 + 100)).reverse = ((k.1 + 100 : Nat) : Int) := by decide +kernel
theorem status_itoa {s : Int} (h0 : 100 ≤ s) (h1 : s ≤ 599) : code3 (Lib.itoa s) = true ∧ stat (Lib.itoa s) = s := by
  have h := status_digits ⟨(s - 100).toNat, by omega⟩
  have e : (s - 100).toNat + 100 = s.natAbs := by omega
  simp only [e] at h
  rw [itoa_show s (by omega), if_neg (by omega), List.append_nil]
  exact ⟨h.1, h.2.trans (by omega)⟩
theorem dig_not {c : UInt8} (h : dig c = true) : c ≠ 13 ∧ c ≠ 10 ∧ c ≠ 32 :=
  ⟨fun e => by subst e; exact absurd h (by decide), fun e => by subst e; exact absurd h (by decide), fun e => by subst e; exact absurd h (by decide)⟩
/-- A response's head, read again. -/
theorem response_round {s : Int} {r : ByteArray} {v : Int} {fs : List FD} (h : F.respE s r v fs = 0) (rest : Bs) :
    response (F.respB s r v fs ++ rest) = ⟨s, r, v, fs, ((F.respB s r v fs).length : Int), 0⟩ ∧ (F.respB s r v fs).length ≤ 8192 ∧ 0 < (F.respB s r v fs).length ∧ response ((F.respB s r v fs).take ((F.respB s r v fs).length - 1)) = .bad 0 := by
  have hB0 : F.respB s r v fs = F.wholeB (F.respLine s r v) fs := if_pos h
  rw [hB0]
  unfold F.respE at h
  split at h
  case isTrue => cases h
  case isFalse hok =>
    split at h
    case isTrue => cases h
    case isFalse hst =>
      obtain ⟨h1, h2, h3, h4⟩ := whole_ok h
      rw [h4]
      have htx : F.text r = true := by
        cases ht : F.text r with
        | true => rfl
        | false => exact absurd (.inr (.inr ht)) hok
      have k3 : 0 ≤ v := by
        rcases (by omega : v < 0 ∨ 0 ≤ v) with h | h
        · exact absurd (.inl h) hok
        · exact h
      have k4 : v ≤ 1 := by
        rcases (by omega : 1 < v ∨ v ≤ 1) with h | h
        · exact absurd (.inr (.inl h)) hok
        · exact h
      obtain ⟨c1, c2⟩ := status_itoa (s := s) (by omega) (by omega)
      obtain ⟨d, hd, hdv⟩ : ∃ d : UInt8, Lib.itoa v = [d] ∧ ((v = 0 ∧ d = 48) ∨ (v = 1 ∧ d = 49)) := by
        rcases itoa01 k3 k4 with ⟨e1, e2⟩ | ⟨e1, e2⟩
        · exact ⟨48, e2, .inl ⟨e1, rfl⟩⟩
        · exact ⟨49, e2, .inr ⟨e1, rfl⟩⟩
      have hline : F.respLine s r v = [72, 84, 84, 80, 47, 49, 46, d] ++ 32 :: (Lib.itoa s ++ 32 :: L r) := by
        unfold F.respLine
        rw [hd]
        simp
      generalize Lib.itoa s = cd at *
      have hcd : ∀ y ∈ cd, dig y = true := by
        have := c1
        unfold code3 at this
        rw [Bool.and_eq_true, List.all_eq_true] at this
        exact this.2
      have htr : ∀ y ∈ L r, T.textB y = true := by
        have := htx
        unfold F.text at this
        rwa [List.all_eq_true] at this
      have hpr : ∀ y ∈ ([72, 84, 84, 80, 47, 49, 46, d] : Bs), eol y = false ∧ sp y = false := by
        rcases hdv with ⟨_, rfl⟩ | ⟨_, rfl⟩
        · decide
        · decide
      have hu : ∀ y ∈ F.respLine s r v, eol y = false := by
        rw [hline]
        intro y hy
        have hy2 : y ∈ ([72, 84, 84, 80, 47, 49, 46, d] : Bs) ∨ y = 32 ∨ y ∈ cd ∨ y = 32 ∨ y ∈ L r := by
          rcases List.mem_append.1 hy with h | h
          · exact .inl h
          · rcases List.mem_cons.1 h with h | h
            · exact .inr (.inl h)
            · rcases List.mem_append.1 h with h | h
              · exact .inr (.inr (.inl h))
              · rcases List.mem_cons.1 h with h | h
                · exact .inr (.inr (.inr (.inl h)))
                · exact .inr (.inr (.inr (.inr h)))
        rcases hy2 with hy | rfl | hy | rfl | hy
        · exact (hpr y hy).1
        · decide
        · have := dig_not (hcd y hy)
          exact eol_no this.1 this.2.1
        · decide
        · have := textB_not (htr y hy)
          exact eol_no this.1 this.2
      have hf := head_facts (F.respLine s r v) fs rest h1 hu h3
      have e1 := upto_app sp [72, 84, 84, 80, 47, 49, 46, d] 32 (cd ++ 32 :: L r) (fun y hy => (hpr y hy).2) (by decide)
      have e2 := upto_app sp cd 32 (L r) (fun y hy => by
        have := (dig_not (hcd y hy)).2.2
        unfold sp
        simpa using this) (by decide)
      have m1 : methodOf (F.respLine s r v) = [72, 84, 84, 80, 47, 49, 46, d] := by rw [hline]; exact e1.1
      have m2 : behind (F.respLine s r v) = cd ++ 32 :: L r := by
        rw [hline]
        unfold behind
        rw [e1.2]
        rfl
      have m3 : methodOf (behind (F.respLine s r v)) = cd := by rw [m2]; exact e2.1
      have m4 : behind (behind (F.respLine s r v)) = L r := by
        rw [m2]
        unfold behind
        rw [e2.2]
        rfl
      have hve : verE [72, 84, 84, 80, 47, 49, 46, d] = 0 ∧ verN [72, 84, 84, 80, 47, 49, 46, d] = v := by
        rcases hdv with ⟨rfl, rfl⟩ | ⟨rfl, rfl⟩
        · exact ⟨by decide, by decide⟩
        · exact ⟨by decide, by decide⟩
      have hp := parse_lines fs [] h1 (by simpa using h2)
      rw [List.nil_append] at hp
      have hlen := headOf_len (F.respLine s r v) fs
      refine ⟨?_, by omega, by omega, ?_⟩
      · unfold response
        rw [hf.2.1, hf.2.2.1, hf.2.2.2.1, hf.2.2.2.2, if_neg (by omega)]
        unfold respOf
        rw [m1, m3, m4, B_L, c1, c2, htx, hve.1, hve.2, hp, if_neg (by simp), if_neg (by omega), if_neg (by decide), if_neg (fun h => h rfl)]
      · have hsh := head_short (F.respLine s r v) fs h1 hu h3
        rw [response_no hsh, hE_no hsh, if_pos (by rw [List.length_take]; omega)]
end P
end Go.Proofs.YteehjkfmlcfffaaGreatDoor

namespace Go.Proofs.YteehjkfmlcfffaaGreatDoor

namespace F
theorem decFrom_snoc : ∀ (l : List UInt8) (acc n : Nat) (x : UInt8) (d : Nat), Lib.decFrom acc l = some n → Lib.digitVal x = some d → Lib.decFrom acc (l ++ [x]) = some (n * 10 + d)
  | [], acc, n, x, d, h, hx => by
    simp only [Lib.decFrom, Option.some.injEq] at h
    subst h
    simp only [List.nil_append, Lib.decFrom, hx]
  | y :: r, acc, n, x, d, h, hx => by
    simp only [Lib.decFrom] at h
    simp only [List.cons_append, Lib.decFrom]
    cases hy : Lib.digitVal y with
    | none => rw [hy] at h; cases h
    | some e =>
      rw [hy] at h
      exact decFrom_snoc r _ n x d h hx
theorem digit_ten {d : Nat} (h : d < 10) : d = 0 ∨ d = 1 ∨ d = 2 ∨ d = 3 ∨ d = 4 ∨ d = 5 ∨ d = 6 ∨ d = 7 ∨ d = 8 ∨ d = 9 := by omega
theorem digitVal_digit {d : Nat} (h : d < 10) : Lib.digitVal (UInt8.ofNat (48 + d)) = some d := by
  rcases digit_ten h with rfl | rfl | rfl | rfl | rfl | rfl | rfl | rfl | rfl | rfl <;> rfl
/-- A byte that is no blank, no comma, no quote. -/
def wordB (x : UInt8) : Bool := decide (x ≠ 34) && decide (x ≠ 44) && !T.blank x
theorem wordB_digit {d : Nat} (h : d < 10) : wordB (UInt8.ofNat (48 + d)) = true := by
  rcases digit_ten h with rfl | rfl | rfl | rfl | rfl | rfl | rfl | rfl | rfl | rfl <;> decide
theorem dec_digits : ∀ (n u : Nat), u ≤ n → Lib.decFrom 0 (Lib.decDigits u) = some u ∧ (Lib.decDigits u).all wordB = true ∧ Lib.decDigits u ≠ []
  | n, u, h => by
    by_cases h10 : u < 10
    · have e : Lib.decDigits u = [UInt8.ofNat (48 + u)] := by rw [Lib.decDigits, dif_pos h10]
      rw [e]
      refine ⟨?_, ?_, by simp⟩
      · have := decFrom_snoc [] 0 0 (UInt8.ofNat (48 + u)) u rfl (digitVal_digit h10)
        simpa using this
      · simp only [List.all_cons, List.all_nil, Bool.and_true]
        exact wordB_digit h10
    · have e : Lib.decDigits u = Lib.decDigits (u / 10) ++ [UInt8.ofNat (48 + u % 10)] := by rw [Lib.decDigits, dif_neg h10]
      cases n with
      | zero => omega
      | succ n =>
        obtain ⟨h1, h2, h3⟩ := dec_digits n (u / 10) (by omega)
        rw [e]
        refine ⟨?_, ?_, by simp⟩
        · have := decFrom_snoc (Lib.decDigits (u / 10)) 0 (u / 10) (UInt8.ofNat (48 + u % 10)) (u % 10) h1 (digitVal_digit (Nat.mod_lt _ (by decide)))
          rw [this]
          congr 1
          omega
        · rw [List.all_append, h2]
          simp only [List.all_cons, List.all_nil, Bool.and_true, Bool.true_and]
          exact wordB_digit (Nat.mod_lt _ (by decide))
theorem itoa_nat (k : Nat) : Lib.itoa (k : Int) = Lib.decDigits k := by
  unfold Lib.itoa
  rw [if_neg (by omega)]
  simp
theorem nDigits_le : ∀ (d u : Nat), u < 10 ^ (d + 1) → Lib.nDigits u ≤ d + 1
  | 0, u, h => by
    rw [Lib.nDigits_small (show u < 10 by omega)]
    exact Nat.le_refl _
  | d + 1, u, h => by
    by_cases h10 : u < 10
    · rw [Lib.nDigits_small h10]
      omega
    · rw [Lib.nDigits_big h10]
      have := nDigits_le d (u / 10) (by rw [Nat.pow_succ] at h; omega)
      omega
theorem num_itoa {k : Nat} (hk : k ≤ 65536) : num (B (Lib.itoa k)) = k := by
  refine num_ok ?_ ?_
  · have h1 : (Lib.itoa (k : Int)).length ≤ 18 := by
      rw [itoa_nat, Lib.decDigits_length]
      exact Nat.le_trans (nDigits_le 4 k (Nat.lt_of_le_of_lt hk (by decide))) (by decide)
    rw [B_size]
    exact h1
  · rw [L_B, itoa_nat]
    obtain ⟨h1, _, h3⟩ := dec_digits k k (Nat.le_refl _)
    unfold Lib.decNat
    cases h : Lib.decDigits k with
    | nil => exact absurd h h3
    | cons x r => rw [← h]; simp only [h1]; rw [h]; rfl
theorem pieces_word : ∀ (l cur : List UInt8), l.all wordB = true → T.pieces 44 false cur l = [cur ++ l]
  | [], cur, _ => by simp [T.pieces]
  | x :: r, cur, h => by
    rw [List.all_cons, Bool.and_eq_true] at h
    have hx := h.1
    unfold wordB at hx
    simp only [Bool.and_eq_true, decide_eq_true_eq] at hx
    rw [T.pieces_cons, if_neg (by rintro ⟨h1, _⟩; cases h1), if_neg hx.1.1, if_neg (by rintro ⟨_, h2⟩; exact hx.1.2 h2), pieces_word r (cur ++ [x]) h.2]
    simp
theorem drop_word : ∀ l : List UInt8, l.all wordB = true → l.dropWhile T.blank = l
  | [], _ => rfl
  | x :: r, h => by
    rw [List.all_cons, Bool.and_eq_true] at h
    have hx := h.1
    unfold wordB at hx
    simp only [Bool.and_eq_true, Bool.not_eq_true'] at hx
    rw [List.dropWhile_cons, if_neg (by rw [hx.2]; decide)]
theorem trim_word {l : List UInt8} (h : l.all wordB = true) : T.trim l = l := by
  unfold T.trim T.trimR
  rw [drop_word l h, drop_word l.reverse (by rw [List.all_reverse]; exact h), List.reverse_reverse]
theorem list_word {l : List UInt8} (h : l.all wordB = true) (h0 : l ≠ []) : list (B l) = [B l] := by
  unfold list split
  rw [L_B, pieces_word l [] h]
  simp only [List.nil_append, List.map_cons, List.map_nil, trim_word h]
  rw [List.filter_cons, if_pos]
  · rfl
  · rw [L_B]
    cases l with
    | nil => exact absurd rfl h0
    | cons => rfl
theorem els_itoa (k : Nat) : els [B (Lib.itoa k)] = [B (Lib.itoa k)] := by
  unfold els
  rw [List.flatMap_cons, List.flatMap_nil, List.append_nil, itoa_nat]
  obtain ⟨_, h2, h3⟩ := dec_digits k k (Nat.le_refl _)
  exact list_word h2 h3
theorem lens_itoa {k : Nat} (hk : k ≤ 65536) : lens (els [B (Lib.itoa k)]) = ((k : Int), 0) := by
  have hn := num_itoa hk
  have hb : lensB [B (Lib.itoa k)] = false := by
    unfold lensB
    simp only [List.any_cons, List.any_nil, Bool.or_false, List.headD_cons]
    exact decide_eq_false (by omega)
  rw [els_itoa]
  unfold lens
  rw [if_neg (by rintro (h | h); cases h; rw [hb] at h; cases h), List.headD_cons, hn, if_neg (by omega)]
theorem frame_told {m : Int} {fs : List FD} {other : Int} {k : Nat} (hk : k ≤ 65536) (h1 : values fs teN = []) (h2 : values fs clN = [B (Lib.itoa k)]) : frame m fs other = ⟨1, k, 0⟩ := by
  unfold frame
  rw [h1, h2, lens_itoa hk, if_neg (fun h => h.1 rfl), if_neg (fun h => h rfl), if_neg (by simp), if_neg (fun h => h rfl)]
theorem frame_untold {m : Int} {fs : List FD} {other : Int} (h1 : values fs teN = []) (h2 : values fs clN = []) : frame m fs other = ⟨other, 0, 0⟩ := by
  unfold frame
  rw [h1, h2, if_neg (fun h => h.1 rfl), if_neg (fun h => h rfl), if_pos rfl]
/-- The fields of a response's bytes. -/
theorem out_te (fs : List FD) (bare last : Bool) (k : Nat) : values (outF fs bare last k) teN = [] := by
  have h0 : values (without fs two) teN = [] := values_none _ _ _ (List.mem_of_getElem? (i := 1) rfl)
  unfold outF
  rw [values_append]
  have h1 : values (lastF last) teN = [] := by cases last <;> decide
  rw [h1, List.append_nil]
  split
  · exact h0
  · unfold put
    rw [values_append, values_sub _ _ _ h0]
    have : values [(clenN, B (Lib.itoa k))] teN = [] := by
      rw [values_cons, if_neg (by unfold is; exact fun h => absurd (show T.fold (L clenN) = T.fold (L teN) from of_decide_eq_true h) (by decide))]
      rfl
    rw [this, List.append_nil]
theorem out_cl (fs : List FD) (last : Bool) (k : Nat) : values (outF fs false last k) clN = [B (Lib.itoa k)] := by
  unfold outF
  rw [values_append]
  have h1 : values (lastF last) clN = [] := by cases last <;> decide
  rw [h1, List.append_nil]
  exact values_put _ _ _
theorem out_conn (fs : List FD) (bare last : Bool) (k : Nat) : tokens (outF fs bare last k) connN = if last then [closeN] else [] := by
  have h0 : values (without fs two) connN = [] := values_none _ _ _ (List.mem_of_getElem? (i := 0) rfl)
  have h2 : values (outF fs bare last k) connN = values (lastF last) connN := by
    unfold outF
    rw [values_append]
    have : values (if bare = true then without fs two else put (without fs two) clenN (B (Lib.itoa k))) connN = [] := by
      split
      · exact h0
      · unfold put
        rw [values_append, values_sub _ _ _ h0]
        rw [values_cons, if_neg (by unfold is; exact fun h => absurd (show T.fold (L clenN) = T.fold (L connN) from of_decide_eq_true h) (by decide))]
        rfl
    rw [this, List.nil_append]
  rw [tokens_eq, h2]
  cases last
  · rfl
  · have h3 : values (lastF true) connN = [closeN] := by decide
    rw [h3, if_pos rfl]
    unfold toks
    rw [List.flatMap_cons, List.flatMap_nil, List.append_nil, show list closeN = [closeN] from list_word (l := [99, 108, 111, 115, 101]) (by decide) (by decide)]
    decide
theorem bare_same (s : Int) (method : ByteArray) : bareR s method = bareOf s method := by
  unfold bareR bareOf
  rw [Bool.eq_iff_iff]
  simp only [decide_eq_true_eq, Bool.or_eq_true, Bool.and_eq_true]
  show L method = [72, 69, 65, 68] ∨ s = 204 ∨ s = 304 ∨ (100 ≤ s ∧ s ≤ 199) ∨ (L method = [67, 79, 78, 78, 69, 67, 84] ∧ 200 ≤ s ∧ s ≤ 299) ↔ _
  constructor
  · rintro (h | h | h | h | h)
    · exact .inl (.inl (.inl (.inl h)))
    · exact .inl (.inl (.inr h))
    · exact .inl (.inr h)
    · exact .inl (.inl (.inl (.inr h)))
    · exact .inr ⟨h.1, h.2⟩
  · rintro ((((h | h) | h) | h) | h)
    · exact .inl h
    · exact .inr (.inr (.inr (.inl h)))
    · exact .inr (.inl h)
    · exact .inr (.inr (.inl h))
    · exact .inr (.inr (.inr (.inr ⟨h.1, h.2⟩)))
/-- The fields of a request's bytes. -/
theorem ask_te (s : ByteArray) (fs : List FD) (m : Int) (via host : ByteArray) (port : Int) (k : Nat) : values (askF s (sent fs m via host port) k) teN = [] := by
  have h0 : values (sent fs m via host port) teN = [] := clean_ten fs m via host port _ (List.mem_of_getElem? (i := 6) rfl)
  unfold askF
  split
  · exact h0
  · rw [values_append, h0, List.nil_append, values_cons, if_neg (by unfold is; exact fun h => absurd (show T.fold (L clT) = T.fold (L teN) from of_decide_eq_true h) (by decide))]
    rfl
theorem ask_cl (s : ByteArray) (fs : List FD) (m : Int) (via host : ByteArray) (port : Int) (k : Nat) : values (askF s (sent fs m via host port) k) clN = if plain s && decide (k = 0) then [] else [B (Lib.itoa k)] := by
  have h0 : values (sent fs m via host port) clN = [] := clean_ten fs m via host port _ (List.mem_of_getElem? (i := 8) rfl)
  unfold askF
  split
  · exact h0
  · rw [values_append, h0, List.nil_append, values_cons, if_pos (by unfold is; exact decide_eq_true rfl)]
    rfl
theorem ask_host (s : ByteArray) (fs : List FD) (m : Int) (via host : ByteArray) (port : Int) (k : Nat) : P.hostsOf (askF s (sent fs m via host port) k) = 1 := by
  have h0 : values (sent fs m via host port) hostN = [hostOf host port] := values_sent_host fs m via host port
  unfold P.hostsOf
  rw [show (⟨#[72, 111, 115, 116]⟩ : ByteArray) = hostN from rfl]
  unfold askF
  split
  · rw [h0]; rfl
  · rw [values_append, h0, values_cons, if_neg (by unfold is; exact fun h => absurd (show T.fold (L clT) = T.fold (L hostN) from of_decide_eq_true h) (by decide))]
    rfl
end F
namespace M
theorem drop_front (a b : List UInt8) : (a ++ b).drop a.length = b := by simp
/-- A response's bytes, read back. -/
theorem out_round {s : Int} {r : ByteArray} {v : Int} {fs : List FD} {last : Bool} {bd : List UInt8} {method : ByteArray} (h : F.bytesE s r v fs (F.bareOf s method) last bd.length = 0) (rest : List UInt8) :
    response (F.bytesB s r v fs (F.bareOf s method) last bd ++ rest) method false = ⟨s, r, v, F.outF fs (F.bareOf s method) last bd.length, if F.bareOf s method then [] else bd, [], ((F.bytesB s r v fs (F.bareOf s method) last bd).length : Int), 0⟩ ∧ 100 ≤ s ∧ (F.bytesB s r v fs (F.bareOf s method) last bd) ≠ [] := by
  have hk : bd.length ≤ 65536 := by
    by_cases hk : 65536 < bd.length
    · unfold F.bytesE at h
      rw [if_pos hk] at h
      cases h
    · omega
  have hE : F.respE s r v (F.outF fs (F.bareOf s method) last bd.length) = 0 := by
    unfold F.bytesE at h
    rwa [if_neg (by omega)] at h
  have hs : 100 ≤ s := by
    unfold F.respE at hE
    split at hE
    · cases hE
    · split at hE
      · cases hE
      · omega
  have hB : F.bytesB s r v fs (F.bareOf s method) last bd = F.respB s r v (F.outF fs (F.bareOf s method) last bd.length) ++ (if F.bareOf s method then [] else bd) := by
    unfold F.bytesB
    rw [if_pos h]
  obtain ⟨h1, _, h3, _⟩ := P.response_round hE ((if F.bareOf s method then [] else bd) ++ rest)
  rw [hB, List.append_assoc]
  generalize hX : F.respB s r v (F.outF fs (F.bareOf s method) last bd.length) = X at h1 h3 ⊢
  refine ⟨?_, hs, fun e => ?_⟩
  · unfold response
    rw [h1]
    dsimp only
    rw [if_neg (fun h => h rfl), if_neg (by omega)]
    unfold F.frameR
    rw [F.bare_same]
    unfold framedR
    by_cases hb : F.bareOf s method = true
    · rw [if_pos hb]
      dsimp only
      rw [if_neg (fun h => h rfl), if_neg (by decide), body_none]
      unfold wholeR
      rw [if_neg (fun h => h rfl)]
      dsimp only
      rw [if_neg (by omega), hb]
      simp
    · rw [Bool.not_eq_true] at hb
      rw [hb]
      simp only [Bool.false_eq_true, if_false]
      rw [F.frame_told hk (F.out_te fs false last _) (F.out_cl fs last _)]
      dsimp only
      rw [if_neg (fun h => h rfl), if_neg (by decide), Int.toNat_natCast, body_len (by simp only [List.length_append]; omega)]
      unfold wholeR
      rw [if_neg (fun h => h rfl)]
      dsimp only
      rw [if_neg (by omega), drop_front]
      simp only [Int.toNat_natCast, List.take_left', List.length_append]
      congr 1
  · have := congrArg List.length e
    rw [List.length_append, List.length_nil] at this
    omega
/-- A request's bytes, read back. -/
theorem ask_round {s t : ByteArray} {fs : List FD} {m : Int} {via host : ByteArray} {port : Int} {bd : List UInt8} (h : F.askE s t 1 (F.sent fs m via host port) bd.length = 0) (rest : List UInt8) :
    request (F.askB s t 1 (F.sent fs m via host port) bd ++ rest) = ⟨s, t, 1, F.askF s (F.sent fs m via host port) bd.length, bd, [], ((F.askB s t 1 (F.sent fs m via host port) bd).length : Int), 0⟩ ∧ (F.askB s t 1 (F.sent fs m via host port) bd) ≠ [] := by
  have hk : bd.length ≤ 65536 := by
    by_cases hk : 65536 < bd.length
    · unfold F.askE at h
      rw [if_pos hk] at h
      cases h
    · omega
  have hE : F.reqE s t 1 (F.askF s (F.sent fs m via host port) bd.length) = 0 := by
    unfold F.askE at h
    rwa [if_neg (by omega)] at h
  have hB : F.askB s t 1 (F.sent fs m via host port) bd = F.reqB s t 1 (F.askF s (F.sent fs m via host port) bd.length) ++ bd := by
    unfold F.askB
    rw [if_pos h]
  obtain ⟨h1, _, h3, _⟩ := P.request_round hE (.inl (F.ask_host s fs m via host port _)) (bd ++ rest)
  have hte := F.ask_te s fs m via host port bd.length
  have hcl := F.ask_cl s fs m via host port bd.length
  rw [hB, List.append_assoc]
  generalize hX : F.reqB s t 1 (F.askF s (F.sent fs m via host port) bd.length) = X at h1 h3 ⊢
  generalize F.askF s (F.sent fs m via host port) bd.length = gs at *
  refine ⟨?_, fun e => ?_⟩
  · unfold request
    rw [h1]
    dsimp only
    rw [if_neg (by rintro (h | h); exact h rfl; omega)]
    unfold framed
    by_cases hb : (F.plain s && decide (bd.length = 0)) = true
    · rw [if_pos hb] at hcl
      rw [F.frame_untold hte hcl]
      dsimp only
      rw [if_neg (fun h => h rfl), body_none]
      unfold whole
      rw [if_neg (by rintro (h | h); exact h rfl; dsimp only at h; omega)]
      have h0 : bd.length = 0 := by
        rw [Bool.and_eq_true, decide_eq_true_eq] at hb
        exact hb.2
      have h00 := List.length_eq_zero_iff.1 h0
      subst h00
      simp
    · rw [if_neg hb] at hcl
      rw [F.frame_told hk hte hcl]
      dsimp only
      rw [if_neg (fun h => h rfl), Int.toNat_natCast, body_len (by simp only [List.length_append]; omega)]
      unfold whole
      rw [if_neg (by rintro (h | h); exact h rfl; dsimp only at h; omega), drop_front]
      simp only [Int.toNat_natCast, List.take_left', List.length_append]
      congr 1
  · have := congrArg List.length e
    rw [List.length_append, List.length_nil] at this
    omega
end M
end Go.Proofs.YteehjkfmlcfffaaGreatDoor
