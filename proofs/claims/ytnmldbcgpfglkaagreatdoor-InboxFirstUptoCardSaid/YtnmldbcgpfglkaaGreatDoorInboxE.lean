/- The walks of inbox.Expects and of the document's. Conditions: a row of at most 2^28 bytes; the library's two tables of UTF-8; internal/bytealg.MaxLen. -/
import Derived.Test.YtnmldbcgpfglkaaGreatDoorFrame2
import Derived.Test.YtnmldbcgpfglkaaGreatDoorHeadR4
import Derived.Test.YtnmldbcgpfglkaaGreatDoorHead5
import Derived.Test.YtnmldbcgpfglkaaGreatDoorRowA
namespace Go.Proofs.YtnmldbcgpfglkaaGreatDoor
open Go.RowKit

theorem CRow.nilE {w : World} {base : Nat} {A : Option Addr} {n c : Nat} {bs : List UInt8} (h : CRow w base A n c bs) (hA : A = none) : n = 0 ∧ c = 0 := by
  rcases h.2.2 with h0 | ⟨g, hg, _⟩
  · have := h.2.1; omega
  · rw [hA] at hg; cases hg
theorem CRow.spotE {w : World} {base : Nat} {A : Option Addr} {n c : Nat} {bs : List UInt8} (h : CRow w base A n c bs) (a : Addr) (ha : A = some a) : a.spot = none ∨ c = 0 := by
  rcases h.2.2 with h0 | ⟨g, hg, _⟩
  · exact .inr h0
  · rw [hg] at ha; cases ha; exact .inl rfl
/-- Is a text among others? -/
def hasW (l : List ByteArray) (x : ByteArray) : Bool := l.any fun t => decide (t = x)
theorem hasW_iff {l : List ByteArray} {x : ByteArray} : hasW l x = true ↔ x ∈ l := by
  unfold hasW
  rw [List.any_eq_true]
  constructor
  · rintro ⟨t, ht, h⟩
    rw [← of_decide_eq_true h]
    exact ht
  · exact fun h => ⟨x, h, decide_eq_true rfl⟩
theorem hasW_no {l : List ByteArray} {x : ByteArray} (h : ¬ x ∈ l) : hasW l x = false := by
  rw [← Bool.not_eq_true, hasW_iff]
  exact h
namespace P
open T (Bs)
def exN : ByteArray := ⟨#[69, 120, 112, 101, 99, 116]⟩
def exL : ByteArray := ⟨#[101, 120, 112, 101, 99, 116]⟩
def exW : ByteArray := ⟨#[49, 48, 48, 45, 99, 111, 110, 116, 105, 110, 117, 101]⟩
/-- Does a request wait for a word to go on? -/
def expR (q : RQ) : Bool := decide (q.e = 0 ∧ q.n ≠ 0 ∧ q.v = 1) && (decide ((F.frame q.v q.fs 0).e = 0) && decide ((F.frame q.v q.fs 0).k ≠ 0) && hasW (F.tokens q.fs exN) exW)
theorem block_len (bs : Bs) (s : Nat) : (hBlock bs s).length ≤ bs.length := by
  unfold hBlock hText
  rw [List.length_drop, List.length_take, List.length_drop]
  omega
theorem request_bulk (bs : Bs) : F.bulk (request bs).fs ≤ bs.length := by
  have hp := (parse_facts _ [] (hBlock bs (skip bs)) (Nat.le_refl _) (Nat.zero_le _)).1
  have hb := block_len bs (skip bs)
  have h0 : F.bulk [] = 0 := rfl
  have hz : ∀ e : Int, F.bulk (RQ.bad e).fs ≤ bs.length := fun e => Nat.zero_le _
  unfold request
  split
  · exact hz _
  · unfold reqOf
    split
    · exact hz _
    · split
      · exact hz _
      · split
        · exact hz _
        · split
          · exact hz _
          · show F.bulk (parse [] (hBlock bs (skip bs))).1 ≤ _
            omega
theorem frame_kinds (m : Int) (fs : List FD) : (F.frame m fs 0).k = 0 ∨ (F.frame m fs 0).k = 1 ∨ (F.frame m fs 0).k = 2 := by
  unfold F.frame
  repeat' split
  all_goals first | exact .inl rfl | exact .inr (.inl rfl) | exact .inr (.inr rfl)
end P
theorem contains_any (A : Option Addr) (n c : Nat) (xs : List ByteArray) (x : ByteArray) (w : World) (hn : n ≤ 1099511627776) (hl : xs.length = n) (hx : Rd w A n 1 (scells xs)) :
    Calls Tryz.prog 70 #[.slice A n c, .string x] w (RetB w (hasW xs x)) := by
  rcases Nat.eq_zero_or_pos n with h0 | h0
  · subst h0
    have : xs = [] := List.eq_nil_of_length_eq_zero hl
    subst this
    refine (Tryz.slices_Contains_string_empty A c x w).mono ?_
    rintro e w' ⟨rfl, rfl⟩
    exact ⟨rfl, Below.refl _ _⟩
  · obtain ⟨b, o, rfl, _, _⟩ := hx.2 h0
    refine (Tryz.slices_Contains_string b o n c xs x w (by omega) (by omega) (fun j hj => ?_)).mono ?_
    · obtain ⟨b', o', e, _, hc⟩ := hx.str (k := j) (by omega) hl
      cases e
      rw [hc]
      simp [List.getD, hj]
    rintro e w' ⟨rfl, rfl⟩
    refine ⟨?_, Below.refl _ _⟩
    rw [List.take_of_length_le (by omega)]
    congr 2
    rw [Bool.eq_iff_iff, Lib.containsS_iff, hasW_iff]
set_option maxHeartbeats 1000000 in
set_option maxRecDepth 100000 in
theorem refHas_any (A : Option Addr) (c : Nat) (fs : List FD) (name word : ByteArray) (w : World) (hf : F.bulk fs ≤ 1073741824) (h2 : name.size ≤ 1099511627776) (hx : Rd w A fs.length 2 (fcells fs)) :
    Calls Tryz.prog 73 #[.slice A fs.length c, .string name, .string word] w (RetB w (hasW (F.tokens fs name) word)) := by
  have hlb := F.len_le_bulk fs
  have htk := toks_sum fs name
  have HT := Lib.hid (refTokens_any A fs.length c fs name w (by omega) rfl (small_of_bulk hf) h2 (by omega) hx)
  obtain ⟨TK, hTK⟩ : ∃ TK, F.tokens fs name = TK := ⟨_, rfl⟩
  rw [hTK] at HT htk ⊢
  obtain ⟨N, hN⟩ : ∃ N, TK.length = N := ⟨_, rfl⟩
  rw [hN] at HT htk
  have HN := Lib.hid hN
  have HYES := Lib.hid (fun (h : word ∈ TK) => hasW_iff.2 h)
  have HNO := Lib.hid (fun (h : ¬ word ∈ TK) => hasW_no h)
  obtain ⟨R, hR⟩ : ∃ R, hasW TK word = R := ⟨_, rfl⟩
  rw [hR]
  have HR := Lib.hid hR
  clear hx hTK hN hR
  go_enter Tryz.func73, Tryz.ntmps73
  go_wp2_with fail
  refine HT.out.mono ?_
  rintro e w1 ⟨A1, c1, rfl, hr1, hb1⟩
  have HB1 := Lib.hid hb1
  have HR1 := Lib.hid hr1.rd
  clear hr1 hb1 HT
  go_wp2_with fail
  go_loop [8] (fun vi => ∃ k : Nat, k ≤ N ∧ vi = .int .i64 k ∧ Hid (∀ t (ht : t < TK.length), t < k → ¬ TK[t] = word)) (fun vi => N - (intOf vi).toNat)
  case atStart => exact ⟨0, Nat.zero_le _, rfl, Lib.hid (fun t ht h => absurd h (Nat.not_lt_zero _))⟩
  case round =>
    obtain ⟨k, hk, rfl, HG⟩ := hrel
    by_cases hkN : k < N
    · have hki : (k : Int) < (N : Int) := by omega
      have hkl : k < TK.length := by rw [HN.out]; exact hkN
      obtain ⟨b, o, rfl, _, q0⟩ := HR1.out.str hkN HN.out
      have HM := Lib.hid (List.getElem_mem hkl)
      have HNX := Lib.hid (fun (h : ¬ TK[k]'hkl = word) => show ∀ t (ht : t < TK.length), t < k + 1 → ¬ TK[t] = word from fun t ht h2 => by
        by_cases e : t = k
        · subst e; exact h
        · exact HG.out t ht (by omega))
      obtain ⟨y, hy⟩ : ∃ y, TK[k]'hkl = y := ⟨_, rfl⟩
      rw [hy] at q0 HM HNX
      clear hy
      by_cases hyw : y = word
      · have HF : Hid (R = true) := Lib.hid (by rw [← HR.out]; exact HYES.out (by rw [← hyw]; exact HM.out))
        subst hyw
        clear HM HNX HG
        go_wp2
        go_ret
        exact ⟨by rw [HF.out]; rfl, HB1.out⟩
      · have hyl : ¬ y.toList = word.toList := fun h => hyw (toList_inj.1 h)
        have hylb : (y.toList == word.toList) = false := beq_eq_false_iff_ne.2 hyl
        have HGN := Lib.hid (HNX.out hyw)
        clear HNX HG HM hyw
        go_wp2
        go_round
        case rel => exact ⟨k + 1, by omega, by go_num, HGN⟩
        case measure => simp [intOf]; omega
    · have hki : ¬ (k : Int) < (N : Int) := by omega
      have HF : Hid (R = false) := Lib.hid (by
        rw [← HR.out]
        refine HNO.out (fun h => ?_)
        obtain ⟨t, ht, e⟩ := List.mem_iff_getElem.1 h
        exact HG.out t ht (by have := HN.out; omega) e)
      go_wp2
      go_ret
      exact ⟨by rw [HF.out]; rfl, HB1.out⟩
set_option maxHeartbeats 4000000 in
set_option maxRecDepth 100000 in
theorem expects_any (A : Option Addr) (n c : Nat) (bs : List UInt8) (w : World) (hnm : n ≤ 268435456) (hnc : n ≤ c) (hA : A = none → n = 0 ∧ c = 0) (hpl : ∀ a, A = some a → a.spot = none ∨ c = 0) (hx : Rd w A n 1 (bcells bs)) (ht : LibOk w) :
    Calls Tryz.prog 34 #[.slice A n c] w (RetB w (P.expR (P.request bs))) := by
  have hll := rd_len hx
  have HQ := Lib.hid (request_any A n c bs w (by omega) hnc hA hpl hx ht)
  have hfb := P.request_bulk bs
  obtain ⟨Q, hQ⟩ : ∃ Q, P.request bs = Q := ⟨_, rfl⟩
  rw [hQ] at HQ hfb ⊢
  obtain ⟨s, t, v, fs, N, E⟩ := Q
  have hfb2 : F.bulk fs ≤ 1073741824 := by
    have : F.bulk fs ≤ bs.length := hfb
    omega
  have hlb := F.len_le_bulk fs
  have HFR := Lib.hid (fun (A1 : Option Addr) (c1 : Nat) (u : World) (hr : Rd u A1 fs.length 2 (fcells fs)) => ofRequest_any s t v A1 c1 fs u hfb2 hr)
  have HTK := Lib.hid (fun (A1 : Option Addr) (c1 : Nat) (u : World) (hr : Rd u A1 fs.length 2 (fcells fs)) => tokens_any A1 fs.length c1 fs P.exN u (by omega) rfl (small_of_bulk hfb2) (by decide) (by have := toks_sum fs P.exN; omega) hr)
  have hkd := P.frame_kinds v fs
  have htk := toks_sum fs P.exN
  obtain ⟨G, hG⟩ : ∃ G, G = P.expR ⟨s, t, v, fs, N, E⟩ := ⟨_, rfl⟩
  have HG : Hid (G = (decide (E = 0 ∧ N ≠ 0 ∧ v = 1) && (decide ((F.frame v fs 0).e = 0) && decide ((F.frame v fs 0).k ≠ 0) && hasW (F.tokens fs P.exN) P.exW))) := Lib.hid hG
  rw [← hG]
  obtain ⟨FR, hFR⟩ : ∃ FR, F.frame v fs 0 = FR := ⟨_, rfl⟩
  rw [hFR] at HFR HG hkd
  obtain ⟨fk, fn, fe⟩ := FR
  obtain ⟨TK, hTK⟩ : ∃ TK, F.tokens fs P.exN = TK := ⟨_, rfl⟩
  rw [hTK] at HTK HG htk
  unfold P.exN at HTK
  clear hTK
  clear hx hQ hG hFR hfb ht
  go_enter Tryz.func34, Tryz.ntmps34
  go_wp2_with fail
  refine HQ.out.mono ?_
  rintro e w1 ⟨A1, c1, rfl, hr1, hb1⟩
  have HB1 := Lib.hid (hb1.alloc hb1.size (.cells #[.string s, .string t, .int .i64 v, .slice A1 fs.length c1] 55))
  have HK1 := Lib.hid (Blk.new w1 #[.string s, .string t, .int .i64 v, .slice A1 fs.length c1] 55)
  have HR1 := Lib.hid (hr1.rd.alloc (.cells #[.string s, .string t, .int .i64 v, .slice A1 fs.length c1] 55))
  have hz1 : w.heap.size ≤ w1.heap.size := hb1.size
  clear hb1 hr1 HQ
  by_cases hE : E = 0
  · by_cases hN : N = 0
    · have HF : Hid (G = false) := Lib.hid (by rw [HG.out, decide_eq_false (fun h => h.2.1 hN)]; rfl)
      subst hE hN
      clear HG HFR HTK
      obtain ⟨x0, x1, x2, x3⟩ := HK1.out.cells4
      go_wp2
      go_ret
      exact ⟨by rw [HF.out]; rfl, HB1.out⟩
    · have hNb : (N == 0) = false := beq_eq_false_iff_ne.2 hN
      by_cases hv : v = 1
      · subst hE hv
        have HG2 : Hid (G = (decide (fe = 0) && decide (fk ≠ 0) && hasW TK P.exW)) := Lib.hid (by rw [HG.out, decide_eq_true (⟨rfl, hN, rfl⟩ : (0 : Int) = 0 ∧ N ≠ 0 ∧ (1 : Int) = 1)]; rfl)
        clear HG
        obtain ⟨x0, x1, x2, x3⟩ := HK1.out.cells4
        go_wp2_with fail
        clear x0 x1 x2 x3
        refine (HFR.out A1 c1 _ HR1.out).mono ?_
        rintro e w3 ⟨rfl, hb3⟩
        have hB3 := below_then HB1.out.size HB1.out hb3
        have HB3 := Lib.hid (hB3.alloc hB3.size (.cells #[.int .i64 fk, .int .i64 fn] 100))
        have HK3 := Lib.hid ((HK1.out.below hb3).alloc (.cells #[.int .i64 fk, .int .i64 fn] 100))
        have HF3 := Lib.hid (Blk.new w3 #[.int .i64 fk, .int .i64 fn] 100)
        have HR3 := Lib.hid ((HR1.out.below hb3).alloc (.cells #[.int .i64 fk, .int .i64 fn] 100))
        clear hb3 hB3 HB1 HK1 HR1 HFR
        obtain ⟨x0, x1, x2, x3⟩ := HK3.out.cells4
        obtain ⟨y0, y1⟩ := HF3.out.cells2
        by_cases he : fe = 0
        · by_cases hk : fk = 0
          · have HF : Hid (G = false) := Lib.hid (by rw [HG2.out, decide_eq_true he, decide_eq_false (show ¬ fk ≠ 0 from fun h => h hk)]; rfl)
            subst he hk
            clear HG2 HTK
            go_wp2
            go_ret
            exact ⟨by rw [HF.out]; rfl, HB3.out⟩
          · have HF : Hid (G = hasW TK P.exW) := Lib.hid (by rw [HG2.out, decide_eq_true he, decide_eq_true hk]; rfl)
            have hkb : (fk != 0) = true := by rw [bne_iff_ne]; exact hk
            have HT3 := Lib.hid (HTK.out A1 c1 _ HR3.out)
            have HCT := Lib.hid (fun (A2 : Option Addr) (c2 : Nat) (u : World) (hr : Rd u A2 TK.length 1 (scells TK)) => contains_any A2 TK.length c2 TK P.exW u (by omega) rfl hr)
            unfold P.exW at HCT HF
            subst he
            clear HG2 HTK
            go_wp2_with fail
            refine HT3.out.mono ?_
            rintro e w4 ⟨A4, c4, rfl, hr4, hb4⟩
            have HB4 := Lib.hid (below_then HB3.out.size HB3.out hb4)
            have HC4 := Lib.hid (HCT.out A4 c4 w4 hr4.rd)
            clear hb4 hr4 HB3 HT3 HCT HK3 HF3 HR3
            go_wp2_with fail
            refine HC4.out.mono ?_
            rintro e w5 ⟨rfl, hb5⟩
            have HB5 := Lib.hid (below_then HB4.out.size HB4.out hb5)
            rw [← HF.out]
            clear hb5 HB4 HC4 x0 x1 x2 x3 y0 y1
            go_wp2
            go_ret
            exact ⟨rfl, HB5.out⟩
        · have HF : Hid (G = false) := Lib.hid (by rw [HG2.out, decide_eq_false he]; rfl)
          have heb : (fe == 0) = false := beq_eq_false_iff_ne.2 he
          clear HG2 HTK
          go_wp2
          go_ret
          exact ⟨by rw [HF.out]; rfl, HB3.out⟩
      · have hvb : (v != 1) = true := by rw [bne_iff_ne]; exact hv
        have HF : Hid (G = false) := Lib.hid (by rw [HG.out, decide_eq_false (fun h => hv h.2.2)]; rfl)
        subst hE
        clear HG HFR HTK
        obtain ⟨x0, x1, x2, x3⟩ := HK1.out.cells4
        go_wp2
        go_ret
        exact ⟨by rw [HF.out]; rfl, HB1.out⟩
  · have hEb : (E != 0) = true := by simpa using hE
    have HF : Hid (G = false) := Lib.hid (by rw [HG.out, decide_eq_false (fun h => hE h.1)]; rfl)
    clear HG HFR HTK
    obtain ⟨x0, x1, x2, x3⟩ := HK1.out.cells4
    go_wp2
    go_ret
    exact ⟨by rw [HF.out]; rfl, HB1.out⟩
set_option maxHeartbeats 4000000 in
set_option maxRecDepth 100000 in
theorem refExpects_any (A : Option Addr) (n c : Nat) (bs : List UInt8) (w : World) (hnm : n ≤ 268435456) (hnc : n ≤ c) (hx : Rd w A n 1 (bcells bs)) :
    Calls Tryz.prog 35 #[.slice A n c] w (RetB w (P.expR (P.request bs))) := by
  have hll := rd_len hx
  have HQ := Lib.hid (refRequest_any2 A n c bs w (by omega) hnc hx)
  have hfb := P.request_bulk bs
  obtain ⟨Q, hQ⟩ : ∃ Q, P.request bs = Q := ⟨_, rfl⟩
  rw [hQ] at HQ hfb ⊢
  obtain ⟨s, t, v, fs, N, E⟩ := Q
  have hfb2 : F.bulk fs ≤ 1073741824 := by
    have : F.bulk fs ≤ bs.length := hfb
    omega
  have hlb := F.len_le_bulk fs
  have HFR := Lib.hid (fun (A1 : Option Addr) (c1 : Nat) (u : World) (hr : Rd u A1 fs.length 2 (fcells fs)) => refOfRequest_any s t v A1 c1 fs u hfb2 hr)
  have HTK := Lib.hid (fun (A1 : Option Addr) (c1 : Nat) (u : World) (hr : Rd u A1 fs.length 2 (fcells fs)) => refHas_any A1 c1 fs P.exL P.exW u hfb2 (by decide) hr)
  have hkd := P.frame_kinds v fs
  have htk := toks_sum fs P.exN
  obtain ⟨G, hG⟩ : ∃ G, G = P.expR ⟨s, t, v, fs, N, E⟩ := ⟨_, rfl⟩
  have HG : Hid (G = (decide (E = 0 ∧ N ≠ 0 ∧ v = 1) && (decide ((F.frame v fs 0).e = 0) && decide ((F.frame v fs 0).k ≠ 0) && hasW (F.tokens fs P.exN) P.exW))) := Lib.hid hG
  rw [← hG]
  obtain ⟨FR, hFR⟩ : ∃ FR, F.frame v fs 0 = FR := ⟨_, rfl⟩
  rw [hFR] at HFR HG hkd
  obtain ⟨fk, fn, fe⟩ := FR
  have hfold : F.tokens fs P.exL = F.tokens fs P.exN := F.tokens_fold (by decide) fs
  rw [hfold] at HTK
  obtain ⟨b, hb⟩ : ∃ b, hasW (F.tokens fs P.exN) P.exW = b := ⟨_, rfl⟩
  rw [hb] at HTK HG
  clear hb hfold
  unfold P.exL at HTK
  conv at HTK => rw [show P.exW = ⟨#[49, 48, 48, 45, 99, 111, 110, 116, 105, 110, 117, 101]⟩ from rfl]
  clear hx hQ hG hFR hfb
  go_enter Tryz.func35, Tryz.ntmps35
  go_wp2_with fail
  refine HQ.out.mono ?_
  rintro e w1 ⟨A1, c1, rfl, hr1, hb1⟩
  have HB1 := Lib.hid (hb1.alloc hb1.size (.cells #[.string s, .string t, .int .i64 v, .slice A1 fs.length c1] 55))
  have HK1 := Lib.hid (Blk.new w1 #[.string s, .string t, .int .i64 v, .slice A1 fs.length c1] 55)
  have HR1 := Lib.hid (hr1.rd.alloc (.cells #[.string s, .string t, .int .i64 v, .slice A1 fs.length c1] 55))
  have hz1 : w.heap.size ≤ w1.heap.size := hb1.size
  clear hb1 hr1 HQ
  by_cases hE : E = 0
  · by_cases hN : N = 0
    · have HF : Hid (G = false) := Lib.hid (by rw [HG.out, decide_eq_false (fun h => h.2.1 hN)]; rfl)
      subst hE hN
      clear HG HFR HTK
      obtain ⟨x0, x1, x2, x3⟩ := HK1.out.cells4
      go_wp2
      go_ret
      exact ⟨by rw [HF.out]; rfl, HB1.out⟩
    · have hNb : (N == 0) = false := beq_eq_false_iff_ne.2 hN
      by_cases hv : v = 1
      · subst hE hv
        have HG2 : Hid (G = (decide (fe = 0) && decide (fk ≠ 0) && b)) := Lib.hid (by rw [HG.out, decide_eq_true (⟨rfl, hN, rfl⟩ : (0 : Int) = 0 ∧ N ≠ 0 ∧ (1 : Int) = 1)]; rfl)
        clear HG
        have HT1 := Lib.hid (HTK.out A1 c1 _ HR1.out)
        clear HTK
        obtain ⟨x0, x1, x2, x3⟩ := HK1.out.cells4
        go_wp2_with fail
        clear x0 x1 x2 x3
        refine HT1.out.mono ?_
        rintro e w2 ⟨rfl, hb2⟩
        have HB2 := Lib.hid (below_then HB1.out.size HB1.out hb2)
        have HK2 := Lib.hid (HK1.out.below hb2)
        have HR2 := Lib.hid (HR1.out.below hb2)
        clear hb2 HB1 HK1 HR1 HT1
        cases b
        · have HF : Hid (G = false) := Lib.hid (by rw [HG2.out, Bool.and_false])
          clear HG2 HFR
          obtain ⟨x0, x1, x2, x3⟩ := HK2.out.cells4
          go_wp2
          go_ret
          exact ⟨by rw [HF.out]; rfl, HB2.out⟩
        · have HG3 : Hid (G = (decide (fe = 0) && decide (fk ≠ 0))) := Lib.hid (by rw [HG2.out, Bool.and_true])
          clear HG2
          obtain ⟨x0, x1, x2, x3⟩ := HK2.out.cells4
          go_wp2_with fail
          clear x0 x1 x2 x3
          refine (HFR.out A1 c1 _ HR2.out).mono ?_
          rintro e w3 ⟨rfl, hb3⟩
          have hB3 := below_then HB2.out.size HB2.out hb3
          have HB3 := Lib.hid (hB3.alloc hB3.size (.cells #[.int .i64 fk, .int .i64 fn] 100))
          have HK3 := Lib.hid ((HK2.out.below hb3).alloc (.cells #[.int .i64 fk, .int .i64 fn] 100))
          have HF3 := Lib.hid (Blk.new w3 #[.int .i64 fk, .int .i64 fn] 100)
          have HR3 := Lib.hid ((HR2.out.below hb3).alloc (.cells #[.int .i64 fk, .int .i64 fn] 100))
          clear hb3 hB3 HB2 HK2 HR2 HFR
          obtain ⟨x0, x1, x2, x3⟩ := HK3.out.cells4
          obtain ⟨y0, y1⟩ := HF3.out.cells2
          by_cases he : fe = 0
          · subst he
            have hkd2 : fk = 0 ∨ fk = 1 ∨ fk = 2 := hkd
            clear hkd
            rcases hkd2 with h | h | h
            all_goals
              subst h
              have HF := Lib.hid HG3.out
              clear HG3
              go_wp2
              go_ret
              exact ⟨by rw [HF.out]; rfl, HB3.out⟩
          · have HF : Hid (G = false) := Lib.hid (by rw [HG3.out, decide_eq_false he]; rfl)
            have heb : (fe == 0) = false := beq_eq_false_iff_ne.2 he
            clear HG3
            go_wp2
            go_ret
            exact ⟨by rw [HF.out]; rfl, HB3.out⟩
      · have hvb : (v != 1) = true := by rw [bne_iff_ne]; exact hv
        have HF : Hid (G = false) := Lib.hid (by rw [HG.out, decide_eq_false (fun h => hv h.2.2)]; rfl)
        subst hE
        clear HG HFR HTK
        obtain ⟨x0, x1, x2, x3⟩ := HK1.out.cells4
        go_wp2
        go_ret
        exact ⟨by rw [HF.out]; rfl, HB1.out⟩
  · have hEb : (E != 0) = true := by simpa using hE
    have HF : Hid (G = false) := Lib.hid (by rw [HG.out, decide_eq_false (fun h => hE h.1)]; rfl)
    clear HG HFR HTK
    obtain ⟨x0, x1, x2, x3⟩ := HK1.out.cells4
    go_wp2
    go_ret
    exact ⟨by rw [HF.out]; rfl, HB1.out⟩
end Go.Proofs.YtnmldbcgpfglkaaGreatDoor
