/- The walks of hop.Ask and of the document's. Conditions: a list of bulk at most 2^20, texts and bodies of at most 2^20 bytes, a number of 64 bits, the library's table of powers of ten. The walk of the document's Ask. Conditions: a list of bulk at most 2^20, texts and bodies of at most 2^20 bytes, a number of 64 bits, the library's table of powers of ten. The walk of the law HopAsks. Conditions: a list of bulk at most 2^20, texts and bodies of at most 2^20 bytes, a number of 64 bits, the library's table of powers of ten. -/
import Derived.Test.YteehjkfmlcfffaaGreatDoorPReq
import Derived.Test.YteehjkfmlcfffaaGreatDoorCopyB
import Derived.Test.YteehjkfmlcfffaaGreatDoorSendA
namespace Go.Proofs.YteehjkfmlcfffaaGreatDoor
open Go.RowKit

namespace F
abbrev clT : ByteArray := ⟨#[67, 111, 110, 116, 101, 110, 116, 45, 76, 101, 110, 103, 116, 104]⟩
def plain (s : ByteArray) : Bool := decide (L s = [71, 69, 84]) || decide (L s = [72, 69, 65, 68]) || decide (L s = [79, 80, 84, 73, 79, 78, 83]) || decide (L s = [84, 82, 65, 67, 69])
/-- The fields of a request that is asked. -/
def askF (s : ByteArray) (fs : List FD) (k : Nat) : List FD := if plain s && decide (k = 0) then fs else fs ++ [(F.clT, B (Lib.itoa k))]
def askE (s t : ByteArray) (m : Int) (fs : List FD) (k : Nat) : Int := if 65536 < k then 71 else reqE s t m (askF s fs k)
def askB (s t : ByteArray) (m : Int) (fs : List FD) (body : List UInt8) : List UInt8 := if askE s t m fs body.length = 0 then reqB s t m (askF s fs body.length) ++ body else []
theorem bulk_ask (s : ByteArray) (fs : List FD) (k : Nat) (hk : k ≤ 1099511627776) : bulk (askF s fs k) ≤ bulk fs + 36 := by
  have h3 : (B (Lib.itoa k)).size ≤ 21 := by rw [B_size]; exact Lib.itoa_length_le k (by omega) (by omega)
  have e : (F.clT : ByteArray).size = 14 := rfl
  unfold askF
  split
  · omega
  · rw [bulk_append]
    simp only [bulk]
    omega
end F
theorem ask_big {s t : ByteArray} {m : Int} {fs : List FD} {body : List UInt8} (h : 65536 < body.length) : F.askB s t m fs body = [] ∧ F.askE s t m fs body.length = 71 := by
  have h1 : F.askE s t m fs body.length = 71 := if_pos h
  exact ⟨if_neg (by rw [h1]; decide), h1⟩
theorem ask_bad {s t : ByteArray} {m : Int} {fs : List FD} {body : List UInt8} (h : ¬ 65536 < body.length) (hc : F.reqE s t m (F.askF s fs body.length) ≠ 0) : F.askB s t m fs body = [] ∧ F.askE s t m fs body.length = F.reqE s t m (F.askF s fs body.length) := by
  have h1 : F.askE s t m fs body.length = F.reqE s t m (F.askF s fs body.length) := if_neg h
  exact ⟨if_neg (by rw [h1]; exact hc), h1⟩
theorem ask_ok {s t : ByteArray} {m : Int} {fs : List FD} {body : List UInt8} (h : ¬ 65536 < body.length) (hc : F.reqE s t m (F.askF s fs body.length) = 0) : F.askB s t m fs body = F.reqB s t m (F.askF s fs body.length) ++ body ∧ F.askE s t m fs body.length = 0 := by
  have h1 : F.askE s t m fs body.length = 0 := (if_neg h).trans hc
  exact ⟨if_pos h1, h1⟩
theorem reqB_len (s t : ByteArray) (m : Int) (fs : List FD) : (F.reqB s t m fs).length ≤ 8192 := by
  unfold F.reqB
  split
  · exact F.wholeB_len _ _
  · simp
theorem plain_cases (s : ByteArray) : (F.plain s = true ∧ (s.toList = [71, 69, 84] ∨ s.toList = [72, 69, 65, 68] ∨ s.toList = [79, 80, 84, 73, 79, 78, 83] ∨ s.toList = [84, 82, 65, 67, 69])) ∨
    (F.plain s = false ∧ ¬ s.toList = [71, 69, 84] ∧ ¬ s.toList = [72, 69, 65, 68] ∧ ¬ s.toList = [79, 80, 84, 73, 79, 78, 83] ∧ ¬ s.toList = [84, 82, 65, 67, 69]) := by
  unfold F.plain
  rw [L_toList]
  by_cases h1 : L s = [71, 69, 84]
  · left; exact ⟨by simp [h1], .inl h1⟩
  · by_cases h2 : L s = [72, 69, 65, 68]
    · left; exact ⟨by simp [h2], .inr (.inl h2)⟩
    · by_cases h3 : L s = [79, 80, 84, 73, 79, 78, 83]
      · left; exact ⟨by simp [h3], .inr (.inr (.inl h3))⟩
      · by_cases h4 : L s = [84, 82, 65, 67, 69]
        · left; exact ⟨by simp [h4], .inr (.inr (.inr h4))⟩
        · right; exact ⟨by simp [h1, h2, h3, h4], h1, h2, h3, h4⟩

set_option maxRecDepth 100000 in
set_option maxHeartbeats 1600000 in
theorem ask_any (s t : ByteArray) (m : Int) (A : Option Addr) (c : Nat) (fs : List FD) (B0 : Option Addr) (e0 : Nat) (body : List UInt8) (w : World) (hs : s.size ≤ 1048576) (hts : t.size ≤ 1048576) (h0 : -9223372036854775808 ≤ m) (h1 : m ≤ 9223372036854775807) (hf : F.bulk fs ≤ 8388608) (hx : Rd w A fs.length 2 (fcells fs)) (hnil : A = none → fs.length = 0 ∧ c = 0)
    (hbl : body.length ≤ 1048576) (hbx : Rd w B0 body.length 1 (bcells body)) (ht : TabOk w) :
    Calls Tryz.prog 41 #[.agg #[.string s, .string t, .int .i64 m, .slice A fs.length c], .slice B0 body.length e0] w (RetBE w (F.askB s t m fs body) (F.askE s t m fs body.length)) := by
  have hn : fs.length ≤ 8388608 := by have := F.len_le_bulk fs; omega
  have hab := F.bulk_ask s fs body.length (by omega)
  have hpl := reqB_len s t m (F.askF s fs body.length)
  have HBIG := Lib.hid (fun h => ask_big (s := s) (t := t) (m := m) (fs := fs) (body := body) h)
  by_cases hbig : 65536 < body.length
  · have HBG := Lib.hid (HBIG.out hbig)
    generalize F.askB s t m fs body = WB at *
    generalize F.askE s t m fs body.length = WE at *
    clear hx hbx hnil
    go_enter Tryz.func41, Tryz.ntmps41
    go_wp2
    refine bodyPost_ret (v := .tuple #[.slice none 0 0, .int .i64 71]) (by simp [results, Tryz.results41, go_sem]) rfl ?_
    exact RetBE.none_ ((Below.refl _ _).alloc (Nat.le_refl _) _) HBG.out.1 HBG.out.2
  · have HOK := Lib.hid (fun h => ask_ok (s := s) (t := t) (m := m) (fs := fs) (body := body) hbig h)
    have HBADE := Lib.hid (fun h => ask_bad (s := s) (t := t) (m := m) (fs := fs) (body := body) hbig h)
    have HBD := Lib.hid (fun (u : World) (hb : Below w.heap.size w u) => hbx.below hb)
    have HTAB := Lib.hid (fun (u : World) (hb : Below w.heap.size w u) => ht.below hb)
    have HC := Lib.hid (fun (u : World) (hb : Below w.heap.size w u) => clone_any A fs.length c fs u (by omega) (hx.below hb) hnil)
    rcases plain_cases s with ⟨hp, hms⟩ | ⟨hp, hm1, hm2, hm3, hm4⟩
    · by_cases hk0 : body.length = 0
      · have HAFX : F.askF s fs body.length = fs := by unfold F.askF; rw [hp, hk0]; rfl
        have haf : F.askF s fs body.length = fs := HAFX
        rw [haf] at hab hpl HOK HBADE
        have HPR : Hid (∀ u A5 c5, Below w.heap.size w u → Rd u A5 (fs).length 2 (fcells (fs)) → Calls Tryz.prog 92 #[.agg #[.string s, .string t, .int .i64 m, .slice A5 (fs).length c5]] u (RetBE u (F.reqB s t m (fs)) (F.reqE s t m (fs)))) := Lib.hid (fun u A5 c5 hb hr => printRequest_any s t m A5 c5 (fs) u (by omega) (by omega) h0 h1 (by omega) hr (ht.below hb))
        generalize F.askB s t m fs body = WB at *
        generalize F.askE s t m fs body.length = WE at *
        generalize F.reqB s t m (fs) = PB at *
        generalize F.reqE s t m (fs) = PE at *
        clear haf hx hbx ht HBIG
        have hk1 : ((body.length : Int) == 0) = true := by rw [hk0]; rfl
        have hk2 : ¬ (65536 : Int) < (body.length : Int) := by omega
        have HK00 := Lib.hid hk0
        clear hp hk0 hbig
        rcases hms with hms | hms | hms | hms
        all_goals
          go_enter Tryz.func41, Tryz.ntmps41
          go_wp2_with fail
          have HK0 := Lib.hid (Blk.new w #[.string s, .string t, .int .i64 m, .slice A fs.length c] 25)
          have HB0 := Lib.hid ((Below.refl w.heap.size w).alloc (Nat.le_refl _) (.cells #[.string s, .string t, .int .i64 m, .slice A fs.length c] 25))
          generalize w.alloc (.cells #[.string s, .string t, .int .i64 m, .slice A fs.length c] 25) = w0 at *
          refine (HC.out w0 HB0.out).mono ?_
          rintro e w1 ⟨A1, c1, rfl, hr1, hb1⟩
          have HK1 := Lib.hid (HK0.out.below hb1)
          obtain ⟨x0, x1, x2, x3⟩ := HK1.out.cells4
          obtain ⟨f0, f1, f2, f3⟩ := HK1.out.free4
          have HB1 := Lib.hid (below_then HB0.out.size HB0.out hb1)
          have HKS := Lib.hid (HK1.out.set 3 (.slice A1 fs.length c1))
          have HRS := Lib.hid ((hr1.mono (show w0.heap.size ≤ w0.heap.size from Nat.le_refl _)).farT HK1.out (by decide) 3 (.slice A1 fs.length c1))
          have HBS := Lib.hid (below_set HB1.out (Nat.le_refl _) 3 (.slice A1 fs.length c1))
          have hz0 := HB0.out.size
          have hz00 := HK0.out.lt
          clear hb1 hr1 HC HK0 HB0 HK1 HB1
          go_wp2_with fail
          clear x0 x1 x2 x3 f0 f1 f2 f3
          have HB := Lib.hid HBS.out
          have HRD := Lib.hid HRS.out.rd
          generalize w1.setCell ⟨w.heap.size, 3, none⟩ (.slice A1 fs.length c1) = w2 at *
          clear HBS HRS HKS
          refine (HPR.out w2 A1 c1 HB.out HRD.out).mono ?_
          rintro e w6 ⟨R, d, rfl, hr6, hb6⟩
          have HB6 := Lib.hid (below_then HB.out.size HB.out hb6)
          have HR6 := Lib.hid (hr6.mono HB.out.size)
          have hz6 := HB6.out.size
          clear hr6 hb6 HPR HRD
          by_cases hpe : PE = 0
          · have HOK2 := Lib.hid (HOK.out hpe)
            subst hpe
            have hbd := HBD.out w6 HB6.out
            go_wp2_with (at_builtin; refine appC _ rfl (.tmp 39) (.tmp 40) rfl w.heap.size R PB.length d PB rfl HR6.out B0 body.length e0 body rfl hbd (by omega) hz6 ?_; intro A7 c7 w7 hr7 ha7; have HB7 := Lib.hid (HB6.out.trans (ha7.belowC HR6.out hz6)); have HR7 := Lib.hid hr7; clear hr7 ha7)
            refine bodyPost_ret (v := .tuple #[.slice A7 (PB.length + body.length) c7, .int .i64 0]) (by simp [results, Tryz.results41, go_sem]) rfl ?_
            rw [HOK2.out.1, HOK2.out.2]
            have hlen : (PB ++ body).length = PB.length + body.length := List.length_append
            exact ⟨A7, c7, by rw [hlen], by rw [hlen]; exact HR7.out, HB7.out⟩
          · have HBD2 := Lib.hid (HBADE.out hpe)
            have e1 : (PE != 0) = true := by simpa using hpe
            go_wp2
            refine bodyPost_ret (v := .tuple #[.slice none 0 0, .int .i64 PE]) (by simp [results, Tryz.results41, go_sem]) rfl ?_
            exact RetBE.none_ HB6.out HBD2.out.1 HBD2.out.2
      · have HAFX : F.askF s fs body.length = (fs ++ [((F.clT, B (Lib.itoa body.length)) : FD)]) := by unfold F.askF; rw [hp, decide_eq_false hk0]; rfl
        have haf : F.askF s fs body.length = (fs ++ [((F.clT, B (Lib.itoa body.length)) : FD)]) := HAFX
        rw [haf] at hab hpl HOK HBADE
        have HPR : Hid (∀ u A5 c5, Below w.heap.size w u → Rd u A5 ((fs ++ [((F.clT, B (Lib.itoa body.length)) : FD)])).length 2 (fcells ((fs ++ [((F.clT, B (Lib.itoa body.length)) : FD)]))) → Calls Tryz.prog 92 #[.agg #[.string s, .string t, .int .i64 m, .slice A5 ((fs ++ [((F.clT, B (Lib.itoa body.length)) : FD)])).length c5]] u (RetBE u (F.reqB s t m ((fs ++ [((F.clT, B (Lib.itoa body.length)) : FD)]))) (F.reqE s t m ((fs ++ [((F.clT, B (Lib.itoa body.length)) : FD)]))))) := Lib.hid (fun u A5 c5 hb hr => printRequest_any s t m A5 c5 ((fs ++ [((F.clT, B (Lib.itoa body.length)) : FD)])) u (by omega) (by omega) h0 h1 (by omega) hr (ht.below hb))
        generalize F.askB s t m fs body = WB at *
        generalize F.askE s t m fs body.length = WE at *
        generalize F.reqB s t m ((fs ++ [((F.clT, B (Lib.itoa body.length)) : FD)])) = PB at *
        generalize F.reqE s t m ((fs ++ [((F.clT, B (Lib.itoa body.length)) : FD)])) = PE at *
        clear haf hx hbx ht HBIG
        have hk1 : ((body.length : Int) == 0) = false := by simpa using hk0
        have hk3 : ¬ (body.length : Int) = 0 := by omega
        have hk2 : ¬ (65536 : Int) < (body.length : Int) := by omega
        clear hp hk0 hbig
        rcases hms with hms | hms | hms | hms
        all_goals
          go_enter Tryz.func41, Tryz.ntmps41
          go_wp2_with fail
          have HK0 := Lib.hid (Blk.new w #[.string s, .string t, .int .i64 m, .slice A fs.length c] 25)
          have HB0 := Lib.hid ((Below.refl w.heap.size w).alloc (Nat.le_refl _) (.cells #[.string s, .string t, .int .i64 m, .slice A fs.length c] 25))
          generalize w.alloc (.cells #[.string s, .string t, .int .i64 m, .slice A fs.length c] 25) = w0 at *
          refine (HC.out w0 HB0.out).mono ?_
          rintro e w1 ⟨A1, c1, rfl, hr1, hb1⟩
          have HK1 := Lib.hid (HK0.out.below hb1)
          obtain ⟨x0, x1, x2, x3⟩ := HK1.out.cells4
          obtain ⟨f0, f1, f2, f3⟩ := HK1.out.free4
          have HB1 := Lib.hid (below_then HB0.out.size HB0.out hb1)
          have HKS := Lib.hid (HK1.out.set 3 (.slice A1 fs.length c1))
          have HRS := Lib.hid ((hr1.mono (show w0.heap.size ≤ w0.heap.size from Nat.le_refl _)).farT HK1.out (by decide) 3 (.slice A1 fs.length c1))
          have HBS := Lib.hid (below_set HB1.out (Nat.le_refl _) 3 (.slice A1 fs.length c1))
          have hz0 := HB0.out.size
          have hz00 := HK0.out.lt
          have HZ1 := Lib.hid hb1.size
          clear hb1 hr1 HC HK0 HB0 HK1 HB1
          go_wp2_with fail
          clear x0 x1 x2 x3 f0 f1 f2 f3
          have HZ0 : Hid (w0.heap.size ≤ (w1.setCell ⟨w.heap.size, 3, none⟩ (.slice A1 fs.length c1)).heap.size) := by
            have := HZ1.out
            simpa [World.setCell] using Lib.hid this
          have hS0 : Hid (Blk (w1.setCell ⟨w.heap.size, 3, none⟩ (.slice A1 fs.length c1)) w.heap.size #[.string s, .string t, .int .i64 m, .slice A1 fs.length c1] 25 ∧ Row (w1.setCell ⟨w.heap.size, 3, none⟩ (.slice A1 fs.length c1)) w0.heap.size 148 2 A1 fs.length c1 (fcells fs) ∧ Below w.heap.size w (w1.setCell ⟨w.heap.size, 3, none⟩ (.slice A1 fs.length c1))) := Lib.hid ⟨HKS.out, HRS.out, HBS.out⟩
          generalize w1.setCell ⟨w.heap.size, 3, none⟩ (.slice A1 fs.length c1) = w2 at *
          clear HKS HRS HBS
          have HS : Hid (Blk w2 w.heap.size #[.string s, .string t, .int .i64 m, .slice A1 fs.length c1] 25 ∧ Row w2 w0.heap.size 148 2 A1 fs.length c1 (fcells fs) ∧ Below w.heap.size w w2) := hS0
          clear hS0
          have hzu := HS.out.2.2.size
          refine (length_any w0.heap.size A1 c1 fs body.length _ (by omega) HS.out.2.1 HZ0.out (by omega) (HTAB.out _ HS.out.2.2)).mono ?_
          rintro e w4 ⟨A4, c4, rfl, hr4, hg4⟩
          have hlt4 : ∀ q, ownB A1 c1 = some q → w0.heap.size ≤ q := fun q hq => (HS.out.2.1.lt q hq).1
          have HK4 : Hid (Blk w4 w.heap.size #[.string s, .string t, .int .i64 m, .slice A1 fs.length c1] 25) := Lib.hid ((hg4.block _ HS.out.1.lt (fun e => by have := hlt4 _ e.symm; omega)).trans HS.out.1)
          have HB4 : Hid (Below w.heap.size w w4) := Lib.hid (HS.out.2.2.grown hg4 hzu (fun q hq => by have := hlt4 q hq; omega))
          obtain ⟨y0, y1, y2, y3⟩ := HK4.out.cells4
          obtain ⟨g0, g1, g2, g3⟩ := HK4.out.free4
          have HRT := Lib.hid (hr4.farT HK4.out (by decide) 3 (.slice A4 (fs.length + 1) c4))
          have HBT := Lib.hid (below_set HB4.out (Nat.le_refl _) 3 (.slice A4 (fs.length + 1) c4))
          clear hr4 hg4 hlt4 HS HK4 HB4
          go_wp2_with fail
          clear y0 y1 y2 y3 g0 g1 g2 g3
          have hfl : (fs ++ [((F.clT, B (Lib.itoa body.length)) : FD)]).length = fs.length + 1 := List.length_append
          rw [hfl] at HPR
          have HB := Lib.hid HBT.out
          have HRD := Lib.hid HRT.out.rd
          generalize w4.setCell ⟨w.heap.size, 3, none⟩ (.slice A4 (fs.length + 1) c4) = w5 at *
          clear HBT HRT
          refine (HPR.out w5 A4 c4 HB.out HRD.out).mono ?_
          rintro e w6 ⟨R, d, rfl, hr6, hb6⟩
          have HB6 := Lib.hid (below_then HB.out.size HB.out hb6)
          have HR6 := Lib.hid (hr6.mono HB.out.size)
          have hz6 := HB6.out.size
          clear hr6 hb6 HPR HRD
          by_cases hpe : PE = 0
          · have HOK2 := Lib.hid (HOK.out hpe)
            subst hpe
            have hbd := HBD.out w6 HB6.out
            go_wp2_with (at_builtin; refine appC _ rfl (.tmp 39) (.tmp 40) rfl w.heap.size R PB.length d PB rfl HR6.out B0 body.length e0 body rfl hbd (by omega) hz6 ?_; intro A7 c7 w7 hr7 ha7; have HB7 := Lib.hid (HB6.out.trans (ha7.belowC HR6.out hz6)); have HR7 := Lib.hid hr7; clear hr7 ha7)
            refine bodyPost_ret (v := .tuple #[.slice A7 (PB.length + body.length) c7, .int .i64 0]) (by simp [results, Tryz.results41, go_sem]) rfl ?_
            rw [HOK2.out.1, HOK2.out.2]
            have hlen : (PB ++ body).length = PB.length + body.length := List.length_append
            exact ⟨A7, c7, by rw [hlen], by rw [hlen]; exact HR7.out, HB7.out⟩
          · have HBD2 := Lib.hid (HBADE.out hpe)
            have e1 : (PE != 0) = true := by simpa using hpe
            go_wp2
            refine bodyPost_ret (v := .tuple #[.slice none 0 0, .int .i64 PE]) (by simp [results, Tryz.results41, go_sem]) rfl ?_
            exact RetBE.none_ HB6.out HBD2.out.1 HBD2.out.2
    · have HAFX : F.askF s fs body.length = (fs ++ [((F.clT, B (Lib.itoa body.length)) : FD)]) := by unfold F.askF; rw [hp]; rfl
      have haf : F.askF s fs body.length = (fs ++ [((F.clT, B (Lib.itoa body.length)) : FD)]) := HAFX
      rw [haf] at hab hpl HOK HBADE
      have HPR : Hid (∀ u A5 c5, Below w.heap.size w u → Rd u A5 ((fs ++ [((F.clT, B (Lib.itoa body.length)) : FD)])).length 2 (fcells ((fs ++ [((F.clT, B (Lib.itoa body.length)) : FD)]))) → Calls Tryz.prog 92 #[.agg #[.string s, .string t, .int .i64 m, .slice A5 ((fs ++ [((F.clT, B (Lib.itoa body.length)) : FD)])).length c5]] u (RetBE u (F.reqB s t m ((fs ++ [((F.clT, B (Lib.itoa body.length)) : FD)]))) (F.reqE s t m ((fs ++ [((F.clT, B (Lib.itoa body.length)) : FD)]))))) := Lib.hid (fun u A5 c5 hb hr => printRequest_any s t m A5 c5 ((fs ++ [((F.clT, B (Lib.itoa body.length)) : FD)])) u (by omega) (by omega) h0 h1 (by omega) hr (ht.below hb))
      generalize F.askB s t m fs body = WB at *
      generalize F.askE s t m fs body.length = WE at *
      generalize F.reqB s t m ((fs ++ [((F.clT, B (Lib.itoa body.length)) : FD)])) = PB at *
      generalize F.reqE s t m ((fs ++ [((F.clT, B (Lib.itoa body.length)) : FD)])) = PE at *
      clear haf hx hbx ht HBIG
      have hk2 : ¬ (65536 : Int) < (body.length : Int) := by omega
      have n1 : (s.toList == [71, 69, 84]) = false := by simpa using hm1
      have n2 : (s.toList == [72, 69, 65, 68]) = false := by simpa using hm2
      have n3 : (s.toList == [79, 80, 84, 73, 79, 78, 83]) = false := by simpa using hm3
      have n4 : (s.toList == [84, 82, 65, 67, 69]) = false := by simpa using hm4
      clear hp hbig
      · skip
        go_enter Tryz.func41, Tryz.ntmps41
        go_wp2_with fail
        have HK0 := Lib.hid (Blk.new w #[.string s, .string t, .int .i64 m, .slice A fs.length c] 25)
        have HB0 := Lib.hid ((Below.refl w.heap.size w).alloc (Nat.le_refl _) (.cells #[.string s, .string t, .int .i64 m, .slice A fs.length c] 25))
        generalize w.alloc (.cells #[.string s, .string t, .int .i64 m, .slice A fs.length c] 25) = w0 at *
        refine (HC.out w0 HB0.out).mono ?_
        rintro e w1 ⟨A1, c1, rfl, hr1, hb1⟩
        have HK1 := Lib.hid (HK0.out.below hb1)
        obtain ⟨x0, x1, x2, x3⟩ := HK1.out.cells4
        obtain ⟨f0, f1, f2, f3⟩ := HK1.out.free4
        have HB1 := Lib.hid (below_then HB0.out.size HB0.out hb1)
        have HKS := Lib.hid (HK1.out.set 3 (.slice A1 fs.length c1))
        have HRS := Lib.hid ((hr1.mono (show w0.heap.size ≤ w0.heap.size from Nat.le_refl _)).farT HK1.out (by decide) 3 (.slice A1 fs.length c1))
        have HBS := Lib.hid (below_set HB1.out (Nat.le_refl _) 3 (.slice A1 fs.length c1))
        have hz0 := HB0.out.size
        have hz00 := HK0.out.lt
        have HZ1 := Lib.hid hb1.size
        clear hb1 hr1 HC HK0 HB0 HK1 HB1
        go_wp2_with fail
        clear x0 x1 x2 x3 f0 f1 f2 f3
        have HZ0 : Hid (w0.heap.size ≤ (w1.setCell ⟨w.heap.size, 3, none⟩ (.slice A1 fs.length c1)).heap.size) := by
          have := HZ1.out
          simpa [World.setCell] using Lib.hid this
        have hS0 : Hid (Blk (w1.setCell ⟨w.heap.size, 3, none⟩ (.slice A1 fs.length c1)) w.heap.size #[.string s, .string t, .int .i64 m, .slice A1 fs.length c1] 25 ∧ Row (w1.setCell ⟨w.heap.size, 3, none⟩ (.slice A1 fs.length c1)) w0.heap.size 148 2 A1 fs.length c1 (fcells fs) ∧ Below w.heap.size w (w1.setCell ⟨w.heap.size, 3, none⟩ (.slice A1 fs.length c1))) := Lib.hid ⟨HKS.out, HRS.out, HBS.out⟩
        generalize w1.setCell ⟨w.heap.size, 3, none⟩ (.slice A1 fs.length c1) = w2 at *
        clear HKS HRS HBS
        have HS : Hid (Blk w2 w.heap.size #[.string s, .string t, .int .i64 m, .slice A1 fs.length c1] 25 ∧ Row w2 w0.heap.size 148 2 A1 fs.length c1 (fcells fs) ∧ Below w.heap.size w w2) := hS0
        clear hS0
        have hzu := HS.out.2.2.size
        refine (length_any w0.heap.size A1 c1 fs body.length _ (by omega) HS.out.2.1 HZ0.out (by omega) (HTAB.out _ HS.out.2.2)).mono ?_
        rintro e w4 ⟨A4, c4, rfl, hr4, hg4⟩
        have hlt4 : ∀ q, ownB A1 c1 = some q → w0.heap.size ≤ q := fun q hq => (HS.out.2.1.lt q hq).1
        have HK4 : Hid (Blk w4 w.heap.size #[.string s, .string t, .int .i64 m, .slice A1 fs.length c1] 25) := Lib.hid ((hg4.block _ HS.out.1.lt (fun e => by have := hlt4 _ e.symm; omega)).trans HS.out.1)
        have HB4 : Hid (Below w.heap.size w w4) := Lib.hid (HS.out.2.2.grown hg4 hzu (fun q hq => by have := hlt4 q hq; omega))
        obtain ⟨y0, y1, y2, y3⟩ := HK4.out.cells4
        obtain ⟨g0, g1, g2, g3⟩ := HK4.out.free4
        have HRT := Lib.hid (hr4.farT HK4.out (by decide) 3 (.slice A4 (fs.length + 1) c4))
        have HBT := Lib.hid (below_set HB4.out (Nat.le_refl _) 3 (.slice A4 (fs.length + 1) c4))
        clear hr4 hg4 hlt4 HS HK4 HB4
        go_wp2_with fail
        clear y0 y1 y2 y3 g0 g1 g2 g3
        have hfl : (fs ++ [((F.clT, B (Lib.itoa body.length)) : FD)]).length = fs.length + 1 := List.length_append
        rw [hfl] at HPR
        have HB := Lib.hid HBT.out
        have HRD := Lib.hid HRT.out.rd
        generalize w4.setCell ⟨w.heap.size, 3, none⟩ (.slice A4 (fs.length + 1) c4) = w5 at *
        clear HBT HRT
        refine (HPR.out w5 A4 c4 HB.out HRD.out).mono ?_
        rintro e w6 ⟨R, d, rfl, hr6, hb6⟩
        have HB6 := Lib.hid (below_then HB.out.size HB.out hb6)
        have HR6 := Lib.hid (hr6.mono HB.out.size)
        have hz6 := HB6.out.size
        clear hr6 hb6 HPR HRD
        by_cases hpe : PE = 0
        · have HOK2 := Lib.hid (HOK.out hpe)
          subst hpe
          have hbd := HBD.out w6 HB6.out
          go_wp2_with (at_builtin; refine appC _ rfl (.tmp 39) (.tmp 40) rfl w.heap.size R PB.length d PB rfl HR6.out B0 body.length e0 body rfl hbd (by omega) hz6 ?_; intro A7 c7 w7 hr7 ha7; have HB7 := Lib.hid (HB6.out.trans (ha7.belowC HR6.out hz6)); have HR7 := Lib.hid hr7; clear hr7 ha7)
          refine bodyPost_ret (v := .tuple #[.slice A7 (PB.length + body.length) c7, .int .i64 0]) (by simp [results, Tryz.results41, go_sem]) rfl ?_
          rw [HOK2.out.1, HOK2.out.2]
          have hlen : (PB ++ body).length = PB.length + body.length := List.length_append
          exact ⟨A7, c7, by rw [hlen], by rw [hlen]; exact HR7.out, HB7.out⟩
        · have HBD2 := Lib.hid (HBADE.out hpe)
          have e1 : (PE != 0) = true := by simpa using hpe
          go_wp2
          refine bodyPost_ret (v := .tuple #[.slice none 0 0, .int .i64 PE]) (by simp [results, Tryz.results41, go_sem]) rfl ?_
          exact RetBE.none_ HB6.out HBD2.out.1 HBD2.out.2
end Go.Proofs.YteehjkfmlcfffaaGreatDoor


namespace Go.Proofs.YteehjkfmlcfffaaGreatDoor
open Go.RowKit

theorem askB_len (s t : ByteArray) (m : Int) (fs : List FD) (body : List UInt8) : (F.askB s t m fs body).length ≤ 8192 + body.length := by
  have h := reqB_len s t m (F.askF s fs body.length)
  unfold F.askB
  split
  · rw [List.length_append]; omega
  · simp
/-- What the walk holds: the argument's block, the copy's, the copy's list, the body with its marks. -/
def AskS (w : World) (b : Nat) (X X1 : Array Value) (A1 : Option Addr) (fs : List FD) (g : Nat) (body : List UInt8) (u : World) : Prop :=
  Blk u w.heap.size X 25 ∧ Blk u b X1 25 ∧ Rd u A1 fs.length 2 (fcells fs) ∧ Rd u (some ⟨g, 0, none⟩) (body.length + marks.length) 1 (bcells (body ++ marks)) ∧ Below w.heap.size w u
theorem AskS.below {w u v : World} {b g : Nat} {X X1 : Array Value} {A1 : Option Addr} {fs : List FD} {body : List UInt8} (h : AskS w b X X1 A1 fs g body u) (hb : Below u.heap.size u v) : AskS w b X X1 A1 fs g body v :=
  ⟨h.1.below hb, h.2.1.below hb, h.2.2.1.below hb, h.2.2.2.1.below hb, below_then h.2.2.2.2.size h.2.2.2.2 hb⟩

end Go.Proofs.YteehjkfmlcfffaaGreatDoor
