/- The walk of the law InboxPieces (printed by gen/pieces.py). Conditions: at most 2^20 bytes and lengths; the library's two tables of UTF-8; internal/bytealg.MaxLen; strconv's two error variables. -/
import Derived.Test.YteehjkfmlcfffaaGreatDoorBoxN
import Derived.Test.YteehjkfmlcfffaaGreatDoorCut
import Derived.Test.YteehjkfmlcfffaaGreatDoorMsgX
namespace Go.Proofs.YteehjkfmlcfffaaGreatDoor
open Go.RowKit

def sliceLen : Value → Nat
  | .slice _ n _ => n
  | _ => 0
/-- What the walk holds between two steps: the box, what is to be read, what is to come. -/
structure PcS (w5 : World) (b : Nat) (n : Nat) (RA : Option Addr) (rc : Nat) (held R T : List UInt8) (bad : Int) (u : World) : Prop where
  box : ∃ A c, BoxM w5.heap.size b (.func (.func 20) #[] #[]) held bad A c u
  rd : Rd u RA R.length 1 (bcells R)
  cap : R.length ≤ rc
  nil : RA = none → R.length = 0 ∧ rc = 0
  low : 0 < R.length → ∀ a, RA = some a → a.block < w5.heap.size ∧ a.block ≠ b
  stands : M.Stands held bad R T
  len : held.length + T.length ≤ n
  rlen : R.length ≤ n
  kept : KeptB w5.heap.size b w5 u
section
variable {w5 u v : World} {b n rc : Nat} {RA : Option Addr} {held R T : List UInt8} {bad : Int}
theorem PcS.below (h : PcS w5 b n RA rc held R T bad u) (hb : Below u.heap.size u v) : PcS w5 b n RA rc held R T bad v :=
  ⟨by obtain ⟨A, c, hx⟩ := h.box; exact ⟨A, c, hx.below hb⟩, h.rd.below hb, h.cap, h.nil, h.low, h.stands, h.len, h.rlen, h.kept.trans (KeptB.of_below hb h.kept.size)⟩
/-- Behind a call that turned the box. -/
theorem PcS.next {held' T' : List UInt8} {bad' : Int} (h : PcS w5 b n RA rc held R T bad u) (hk : KeptB w5.heap.size b u v) (hb : ∃ A c, BoxM w5.heap.size b (.func (.func 20) #[] #[]) held' bad' A c v) (hs : M.Stands held' bad' R T') (hl : held'.length + T'.length ≤ n) : PcS w5 b n RA rc held' R T' bad' v :=
  ⟨hb, hk.rd h.rd h.low, h.cap, h.nil, h.low, hs, hl, h.rlen, h.kept.trans hk⟩
theorem PcS.drop {k : Nat} {held' : List UInt8} {bad' : Int} (h : PcS w5 b n RA rc held R T bad u) (hkl : k ≤ R.length) (hk : KeptB w5.heap.size b u v) (hb : ∃ A c, BoxM w5.heap.size b (.func (.func 20) #[] #[]) held' bad' A c v) (hs : M.Stands held' bad' (R.drop k) T) (hl : held'.length + T.length ≤ n) :
    PcS w5 b n (addA RA rc k) (rc - k) held' (R.drop k) T bad' v := by
  have hlk : (R.drop k).length = R.length - k := List.length_drop
  have hr := (hk.rd h.rd h.low).fromA h.cap hkl
  refine ⟨hb, by rw [hlk]; exact hr, by rw [hlk]; have := h.cap; omega, fun e => by rw [hlk]; exact nil_add h.nil e, fun hn a ha => ?_, hs, hl, by have := h.rlen; omega, h.kept.trans hk⟩
  have h0 : 0 < R.length := by omega
  unfold addA at ha
  split at ha
  · exact h.low h0 a ha
  · cases hRA : RA with
    | none => rw [hRA] at ha; cases ha
    | some x =>
      rw [hRA] at ha
      have := h.low h0 x hRA
      obtain rfl : x.add k = a := by simpa using ha
      have e : (x.add k).block = x.block := by unfold Addr.add; split <;> rfl
      rw [e]; exact this
end


set_option maxRecDepth 100000 in
set_option maxHeartbeats 8000000 in
theorem inboxPieces_any (A : Option Addr) (n c : Nat) (bs : List UInt8) (X : Option Addr) (m d : Nat) (zs : List Value) (w : World) (hl : bs.length = n) (hnm : bs.length ≤ 1048576) (hnc : n ≤ c) (hx : Rd w A n 1 (bcells bs)) (hmm : m ≤ 1048576) (hz : Rd w X m 1 zs) (hzi : ∀ u ∈ zs, ∃ z : Int, u = .int .i64 z) (ht : LibOk w) (he : ErrOk w) :
    Calls Tryz.prog 4 #[.slice A n c, .slice X m d] w (RetB w true) := by
  subst hl
  have HA := Lib.hid (fun (u : World) (hb : Below w.heap.size w u) => inboxAlive_any u (ht.below hb) (he.below hb))
  have HCB := Lib.hid (fun (u : World) (hu : Below w.heap.size w u) => copyBytes_any A c bs u (by omega) (hx.below hu))
  have HCT := Lib.hid (fun (u : World) (hu : Below w.heap.size w u) => cutPieces_any A c bs X m d zs u hnm hnc (hx.below hu) (hz.below hu) hmm hzi)
  have HLT := Lib.hid (fun (u : World) (hu : Below w.heap.size w u) => And.intro (ht.below hu) (he.below hu))
  clear hx hz ht he hzi
  have HNW := Lib.hid (fun (u : World) => newM_any 20 u)
  go_enter Tryz.func4, Tryz.ntmps4
  go_wp2_with fail
  refine (HA.out _ (Below.refl _ _)).mono ?_
  rintro e w1 ⟨rfl, hb1⟩
  have HB1 := Lib.hid hb1
  clear hb1 HA
  go_wp2_with fail
  refine (HNW.out w1).mono ?_
  rintro e w2 ⟨rfl, rfl⟩
  have HB2 := Lib.hid (HB1.out.alloc HB1.out.size (.cells #[(.func (.func 20) #[] #[]), .slice none 0 0, .int .i64 0] 138))
  have HX2 := Lib.hid (Blk.new w1 #[(.func (.func 20) #[] #[]), .slice none 0 0, .int .i64 0] 138)
  have hz1 := HB1.out.size
  clear HB1 HNW
  generalize hbd : w1.heap.size = b at *
  have hzb : b < (w1.alloc (.cells #[(.func (.func 20) #[] #[]), .slice none 0 0, .int .i64 0] 138)).heap.size := by rw [World.size_alloc]; omega
  generalize w1.alloc (.cells #[(.func (.func 20) #[] #[]), .slice none 0 0, .int .i64 0] 138) = w2 at *
  clear hbd
  go_wp2_with fail
  refine (HCB.out _ HB2.out).mono ?_
  rintro e w3 ⟨RA, rc, rfl, hr3, hb3⟩
  have HB3 := Lib.hid (below_then HB2.out.size HB2.out hb3)
  have HX3 := Lib.hid (HX2.out.below hb3)
  have HR3 := Lib.hid hr3
  have hz3 := hb3.size
  clear hb3 hr3 HB2 HX2 HCB
  go_wp2_with fail
  refine (HCT.out _ HB3.out).mono ?_
  rintro e w5 ⟨PA, pc, l, rfl, hll, hfl, hp5, hb5⟩
  have HB5 := Lib.hid (below_then HB3.out.size HB3.out hb5)
  have HX5 := Lib.hid (HX3.out.below hb5)
  have HR5 := Lib.hid (HR3.out.below hb5)
  have HP5 := Lib.hid hp5
  have HFL := Lib.hid hfl
  have hz5 := hb5.size
  clear hb5 hp5 hfl HB3 HX3 HR3 HCT
  have hbl0 : (later l 0).length ≤ bs.length := by rw [later_zero, HFL.out]; exact Nat.le_refl _
  have HS5 : Hid (PcS w5 b bs.length RA rc [] bs (later l 0) 0 w5) := Lib.hid ⟨⟨none, 0, HX5.out, ORow.none_ _ _, by omega, Nat.le_refl _⟩, HR5.out.rd, HR5.out.2.1, fun h => HR5.out.nilE h, fun hn a ha => by
    rcases HR5.out.2.2 with h0 | ⟨g, hg, hg1, hg2, _⟩
    · have := HR5.out.2.1; omega
    · rw [hg] at ha
      cases ha
      exact ⟨hg2, (show g ≠ b by omega)⟩, .inl ⟨rfl, by rw [later_zero, HFL.out]; rfl⟩, by simpa using hbl0, Nat.le_refl _, KeptB.refl _ _ _⟩
  have HNX := Lib.hid (fun (held : List UInt8) (bad : Int) (A : Option Addr) (c : Nat) (u : World) (h : BoxM w5.heap.size b (.func (.func 20) #[] #[]) held bad A c u) (hl : held.length ≤ bs.length) (hlow : Below w.heap.size w u) => next_any w5.heap.size b held bad A c u h (by omega) (HLT.out u hlow).1 (HLT.out u hlow).2)
  have HLOW := Lib.hid (fun (u : World) (h : KeptB w5.heap.size b w5 u) => h.low HB5.out (by omega) (by omega))
  have hq0 : M.request [] = .bad 0 := by rfl
  clear HX5 HR5 HFL hbl0
  go_wp2
  go_loopw [6, 8, 9] (fun r en i wr => ∃ (k : Nat) (held R : List UInt8) (bad : Int) (RA : Option Addr) (rc : Nat), k ≤ l.length ∧ i = .int .i64 k ∧ r = .slice RA R.length rc ∧ en = .int .i64 bad ∧ PcS w5 b bs.length RA rc held R (later l k) bad wr ∧ (bad = 0 → M.request held = .bad 0)) (fun _ _ i _ => l.length - (intOf i).toNat)
  case atStart => exact ⟨0, [], bs, 0, RA, rc, Nat.zero_le _, rfl, rfl, rfl, HS5.out, fun _ => hq0⟩
  case round =>
    clear HS5
    obtain ⟨k, held, R, bad, RA, rc, hk, rfl, rfl, rfl, hps, h0⟩ := hrel
    have HPS := Lib.hid hps
    have HH0 := Lib.hid h0
    clear hps h0
    by_cases hlt : k < l.length
    · obtain ⟨wo, rfl⟩ : ∃ wo : World, wo = wr := ⟨_, rfl⟩
      obtain ⟨pb, po, rfl, hpb, hpb0, pcx⟩ := HP5.out.at hlt
      have hpr := HP5.out.all _ (List.getElem_mem hlt)
      have hlat := later_next hlt
      generalize l[k]'hlt = x at *
      obtain ⟨xa, xc, ps⟩ := x
      replace pcx : w5.cell? ⟨pb, po + k, none⟩ = some (.slice xa ps.length xc) := pcx
      replace hpr : CRow w5 w3.heap.size xa ps.length xc ps := hpr
      replace hlat : later l k = ps ++ later l (k + 1) := hlat
      have hcell : wo.cell? ⟨pb, po + k, none⟩ = some (.slice xa ps.length xc) := (HPS.out.kept.cell (a := ⟨pb, po + k, none⟩) hpb (show pb ≠ b by omega)).trans pcx
      have hprd : Rd wo xa ps.length 1 (bcells ps) := HPS.out.kept.rd hpr.rd (fun hn a ha => by
        rcases hpr.2.2 with h0 | ⟨g, hg, hg1, hg2, _⟩
        · have := hpr.2.1; omega
        · rw [hg] at ha
          cases ha
          exact ⟨hg2, (show g ≠ b by omega)⟩)
      have hlen0 := HPS.out.len
      rw [hlat, List.length_append] at hlen0
      obtain ⟨BA, bc, hbox⟩ := HPS.out.box
      have HFD := Lib.hid (feedM_any w5.heap.size b 20 held ps bad BA bc xa xc wo hbox (by omega) hprd)
      have HST := HPS.out.stands
      rw [hlat] at HST
      have HST := Lib.hid HST.feed
      clear hlat hpr pcx hprd hbox HH0
      go_wp2_with fail
      refine HFD.out.mono ?_
      rintro e w6 ⟨rfl, ⟨A6, c6, hbox6, _⟩, hk6, _⟩
      have hlen6 : (if bad = 0 then held ++ ps else held).length + (later l (k + 1)).length ≤ bs.length := by
        split
        · rw [List.length_append]; omega
        · omega
      have HPS6 := Lib.hid (HPS.out.next hk6 ⟨A6, c6, hbox6⟩ HST.out hlen6)
      clear hk6 hbox6 HFD HST HPS hcell hlen6 hlen0
      generalize (if bad = 0 then held ++ ps else held) = held6 at *
      generalize hT : later l (k + 1) = T at *
      have HT := Lib.hid hT
      clear hT
      go_wp2
      go_loopw [6] (fun r wi => ∃ (held R : List UInt8) (bad : Int) (RA : Option Addr) (rc : Nat), r = .slice RA R.length rc ∧ PcS w5 b bs.length RA rc held R T bad wi) (fun r _ => sliceLen r)
      case atStart => exact ⟨held6, R, bad, RA, rc, rfl, HPS6.out⟩
      case round =>
        clear HPS6
        obtain ⟨held, R, bad, RA, rc, rfl, hps⟩ := hrel
        have HPS := Lib.hid hps
        clear hps
        have hlen := HPS.out.len
        obtain ⟨BA, bc, hbox⟩ := HPS.out.box
        have HN := HNX.out held bad BA bc wr hbox (by omega) (HLOW.out wr HPS.out.kept)
        rcases M.next_ways HPS.out.stands with ⟨held', bad', hnx, hle, hst, h0'⟩ | ⟨j, hj0, hjl, hjR, rfl, hnx, hRq, hN, hE, hst⟩
        · rw [show M.next held bad = ⟨⟨⟨#[]⟩, ⟨#[]⟩, 0, [], [], [], 0, 0⟩, false, bad', held', bad'⟩ from hnx] at HN
          have HN := Lib.hid HN
          have HST := Lib.hid hst
          have HH0 := Lib.hid h0'
          clear hnx hst h0' hbox
          go_wp2_with fail
          refine HN.out.mono ?_
          rintro e w7 ⟨⟨A7, a7, D7, d7, T7, t7, rfl, _, _, _⟩, hbox7, hk7⟩
          replace hbox7 : ∃ A' c', BoxM w5.heap.size b (.func (.func 20) #[] #[]) held' bad' A' c' w7 := hbox7
          have HP7 := Lib.hid ((HPS.out.next hk7 hbox7 HST.out (by omega)).below ((Below.refl _ _).alloc (Nat.le_refl _) (.cells #[.string ⟨#[]⟩, .string ⟨#[]⟩, .int .i64 0, .slice A7 0 a7, .int .i64 0, .string ⟨#[]⟩, .int .i64 0, .slice none 0 0, .slice D7 0 d7, .slice T7 0 t7] 29)))
          clear hbox7 hk7 HN HPS HST
          go_wp2
          go_roundw
          case rel =>
            rw [← HT.out] at HP7
            exact ⟨k + 1, held', R, bad', RA, rc, by omega, by go_num, rfl, rfl, HP7.out, HH0.out⟩
          case measure => simp [intOf]; omega
        · rw [hnx] at HN
          have HN := Lib.hid HN
          have HST := Lib.hid hst
          have hMQ := hRq
          obtain ⟨Q, hQ⟩ : ∃ Q, M.request held = Q := ⟨_, rfl⟩
          have hfl := M.request_len held
          rw [hQ] at HN hMQ hN hE hfl
          have HRF := Lib.hid (fun (u : World) (hr : Rd u RA R.length 1 (bcells R)) => refMessage_any RA R.length rc R u (by have := HPS.out.rlen; omega) HPS.out.cap hr)
          rw [hMQ] at HRF
          clear hnx hst hbox hRq hMQ hQ
          obtain ⟨qm, qt, qv, qfs, qd, qf, qn, qe⟩ := Q
          replace hfl : qfs.length ≤ held.length ∧ qd.length ≤ held.length + 65536 ∧ qf.length ≤ 100 := hfl
          obtain ⟨hf1, hf2, hf3⟩ := hfl
          obtain rfl : qe = 0 := hE
          obtain rfl : qn = (j : Int) := hN
          have hki : ¬ (j : Int) = 0 := by omega
          have hkb : ((j : Int) == 0) = false := beq_eq_false_iff_ne.2 hki
          go_wp2_with fail
          refine HN.out.mono ?_
          rintro e w7 ⟨⟨A7, a7, D7, d7, T7, t7, rfl, hr7, hd7, hf7⟩, hbox7, hk7⟩
          replace hbox7 : ∃ A' c', BoxM w5.heap.size b (.func (.func 20) #[] #[]) (held.drop j) 0 A' c' w7 := hbox7
          have HP7 := Lib.hid (HPS.out.drop hjR hk7 hbox7 HST.out (by rw [List.length_drop]; omega))
          have HRD7 := Lib.hid (hk7.rd HPS.out.rd HPS.out.low)
          have hjl2 := HPS.out.cap
          have HX8 := Lib.hid (Blk.new w7 #[.string qm, .string qt, .int .i64 qv, .slice A7 qfs.length a7, .int .i64 0, .string ⟨#[]⟩, .int .i64 0, .slice none 0 0, .slice D7 qd.length d7, .slice T7 qf.length t7] 29)
          have HP8 := Lib.hid (HP7.out.below ((Below.refl _ _).alloc (Nat.le_refl _) (.cells #[.string qm, .string qt, .int .i64 qv, .slice A7 qfs.length a7, .int .i64 0, .string ⟨#[]⟩, .int .i64 0, .slice none 0 0, .slice D7 qd.length d7, .slice T7 qf.length t7] 29)))
          have HRD8 := Lib.hid (HRD7.out.alloc (.cells #[.string qm, .string qt, .int .i64 qv, .slice A7 qfs.length a7, .int .i64 0, .string ⟨#[]⟩, .int .i64 0, .slice none 0 0, .slice D7 qd.length d7, .slice T7 qf.length t7] 29))
          have HF8 := Lib.hid (hr7.rd.alloc (.cells #[.string qm, .string qt, .int .i64 qv, .slice A7 qfs.length a7, .int .i64 0, .string ⟨#[]⟩, .int .i64 0, .slice none 0 0, .slice D7 qd.length d7, .slice T7 qf.length t7] 29))
          have HD8 := Lib.hid (hd7.rd.alloc (.cells #[.string qm, .string qt, .int .i64 qv, .slice A7 qfs.length a7, .int .i64 0, .string ⟨#[]⟩, .int .i64 0, .slice none 0 0, .slice D7 qd.length d7, .slice T7 qf.length t7] 29))
          have HT8 := Lib.hid (hf7.rd.alloc (.cells #[.string qm, .string qt, .int .i64 qv, .slice A7 qfs.length a7, .int .i64 0, .string ⟨#[]⟩, .int .i64 0, .slice none 0 0, .slice D7 qd.length d7, .slice T7 qf.length t7] 29))
          clear hr7 hd7 hf7 hbox7 hk7 HN HPS HST HP7 HRD7
          go_upto_region 16 with fail
          generalize w7.heap.size = b8 at *
          generalize (w7.alloc (.cells #[.string qm, .string qt, .int .i64 qv, .slice A7 qfs.length a7, .int .i64 0, .string ⟨#[]⟩, .int .i64 0, .slice none 0 0, .slice D7 qd.length d7, .slice T7 qf.length t7] 29)) = w8 at *
          go_wp2_with fail
          refine (HRF.out w8 HRD8.out).mono ?_
          rintro e w9 ⟨A9, a9, D9, d9, T9, t9, rfl, hr9, hd9, hf9, hb9⟩
          have HX10 := Lib.hid ((HX8.out.below hb9).alloc (.cells #[.string qm, .string qt, .int .i64 qv, .slice A9 qfs.length a9, .int .i64 0, .string ⟨#[]⟩, .int .i64 0, .slice none 0 0, .slice D9 qd.length d9, .slice T9 qf.length t9] 29))
          have HP10 := Lib.hid ((HP8.out.below hb9).below ((Below.refl _ _).alloc (Nat.le_refl _) (.cells #[.string qm, .string qt, .int .i64 qv, .slice A9 qfs.length a9, .int .i64 0, .string ⟨#[]⟩, .int .i64 0, .slice none 0 0, .slice D9 qd.length d9, .slice T9 qf.length t9] 29)))
          have HRD10 := Lib.hid ((HRD8.out.below hb9).alloc (.cells #[.string qm, .string qt, .int .i64 qv, .slice A9 qfs.length a9, .int .i64 0, .string ⟨#[]⟩, .int .i64 0, .slice none 0 0, .slice D9 qd.length d9, .slice T9 qf.length t9] 29))
          have HF10 := Lib.hid ((HF8.out.below hb9).alloc (.cells #[.string qm, .string qt, .int .i64 qv, .slice A9 qfs.length a9, .int .i64 0, .string ⟨#[]⟩, .int .i64 0, .slice none 0 0, .slice D9 qd.length d9, .slice T9 qf.length t9] 29))
          have HD10 := Lib.hid ((HD8.out.below hb9).alloc (.cells #[.string qm, .string qt, .int .i64 qv, .slice A9 qfs.length a9, .int .i64 0, .string ⟨#[]⟩, .int .i64 0, .slice none 0 0, .slice D9 qd.length d9, .slice T9 qf.length t9] 29))
          have HT10 := Lib.hid ((HT8.out.below hb9).alloc (.cells #[.string qm, .string qt, .int .i64 qv, .slice A9 qfs.length a9, .int .i64 0, .string ⟨#[]⟩, .int .i64 0, .slice none 0 0, .slice D9 qd.length d9, .slice T9 qf.length t9] 29))
          have HY10 := Lib.hid (Blk.new w9 #[.string qm, .string qt, .int .i64 qv, .slice A9 qfs.length a9, .int .i64 0, .string ⟨#[]⟩, .int .i64 0, .slice none 0 0, .slice D9 qd.length d9, .slice T9 qf.length t9] 29)
          have HSM := Lib.hid (sameMessage_any qm qt qv qfs 0 ⟨#[]⟩ 0 [] qd qf A7 A9 none none D7 D9 T7 T9 a7 a9 0 0 d7 d9 t7 t9 (w9.alloc (.cells #[.string qm, .string qt, .int .i64 qv, .slice A9 qfs.length a9, .int .i64 0, .string ⟨#[]⟩, .int .i64 0, .slice none 0 0, .slice D9 qd.length d9, .slice T9 qf.length t9] 29)) (by omega) (by decide) (by omega) (by omega) HF10.out (hr9.rd.alloc _) (Rd.nil _ _ _) (Rd.nil _ _ _) HD10.out (hd9.rd.alloc _) HT10.out (hf9.rd.alloc _))
          clear hr9 hd9 hf9 hb9 HX8 HP8 HRD8 HF8 HD8 HT8 HF10 HD10 HT10 HRF
          go_upto_region 17 with fail
          generalize w9.heap.size = b10 at *
          generalize (w9.alloc (.cells #[.string qm, .string qt, .int .i64 qv, .slice A9 qfs.length a9, .int .i64 0, .string ⟨#[]⟩, .int .i64 0, .slice none 0 0, .slice D9 qd.length d9, .slice T9 qf.length t9] 29)) = w10 at *
          obtain ⟨x0, x1, x2, x3, x4, x5, x6, x7, x8, x9⟩ := HX10.out.cells10
          obtain ⟨y0, y1, y2, y3, y4, y5, y6, y7, y8, y9⟩ := HY10.out.cells10
          go_wp2_with fail
          clear x0 x1 x2 x3 x4 x5 x6 x7 x8 x9 y0 y1 y2 y3 y4 y5 y6 y7 y8 y9 HX10 HY10
          refine HSM.out.mono ?_
          rintro e w11 ⟨rfl, hb11⟩
          have HP11 := Lib.hid (HP10.out.below hb11)
          have HRD11 := Lib.hid (HRD10.out.below hb11)
          clear hb11 HP10 HRD10 HSM
          obtain ⟨rb, ro, rfl, _⟩ := HRD11.out.lt (by omega)
          have hji : (j : Int) ≤ (rc : Int) := by omega
          have hld : (R.drop j).length = R.length - j := List.length_drop
          have HLD := Lib.hid hld
          clear hld
          by_cases hjc : j = rc
          · subst hjc
            rw [addA_end] at HP11
            go_wp2
            go_roundw
            case rel => exact ⟨held.drop j, R.drop j, 0, _, _, by rw [HLD.out]; congr 1 <;> omega, HP11.out⟩
            case measure => simp [sliceLen]; omega
          · rw [addA_in hjc] at HP11
            go_wp2
            go_roundw
            case rel => exact ⟨held.drop j, R.drop j, 0, _, _, by rw [HLD.out], HP11.out⟩
            case measure => simp [sliceLen]; omega
    · have hkl : later l k = [] := later_end (by omega)
      rw [hkl] at HPS
      obtain ⟨hRq, hnx, hRh⟩ := HPS.out.stands.done HH0.out
      obtain ⟨BA, bc, hbox⟩ := HPS.out.box
      have hlen := HPS.out.len
      have HRF := refMessage_any RA R.length rc R wr (by have := HPS.out.rlen; omega) HPS.out.cap HPS.out.rd
      rw [show M.request R = ⟨⟨#[]⟩, ⟨#[]⟩, 0, [], [], [], 0, bad⟩ from hRq] at HRF
      have HRF := Lib.hid HRF
      clear hRq hkl HP5
      go_wp2_with fail
      refine HRF.out.mono ?_
      rintro e w7 ⟨A7, a7, D7, d7, T7, t7, rfl, _, _, _, hb7⟩
      have HP8 := Lib.hid ((HPS.out.below hb7).below ((Below.refl _ _).alloc (Nat.le_refl _) (.cells #[.string ⟨#[]⟩, .string ⟨#[]⟩, .int .i64 0, .slice A7 0 a7, .int .i64 0, .string ⟨#[]⟩, .int .i64 0, .slice none 0 0, .slice D7 0 d7, .slice T7 0 t7] 29)))
      clear hb7 hbox HPS HRF
      go_upto_region 21 with fail
      generalize (w7.alloc (.cells #[.string ⟨#[]⟩, .string ⟨#[]⟩, .int .i64 0, .slice A7 0 a7, .int .i64 0, .string ⟨#[]⟩, .int .i64 0, .slice none 0 0, .slice D7 0 d7, .slice T7 0 t7] 29)) = w8 at *
      obtain ⟨BA, bc, hbox⟩ := HP8.out.box
      have HN := HNX.out held bad BA bc w8 hbox (by omega) (HLOW.out w8 HP8.out.kept)
      rw [show M.next held bad = ⟨⟨⟨#[]⟩, ⟨#[]⟩, 0, [], [], [], 0, 0⟩, false, bad, held, bad⟩ from hnx] at HN
      have HN := Lib.hid HN
      clear hnx hbox
      go_wp2_with fail
      refine HN.out.mono ?_
      rintro e w9 ⟨⟨A9, a9, D9, d9, T9, t9, rfl, _, _, _⟩, hbox9, hk9⟩
      replace hbox9 : ∃ A' c', BoxM w5.heap.size b (.func (.func 20) #[] #[]) held bad A' c' w9 := hbox9
      have HP10 := Lib.hid ((HP8.out.next hk9 hbox9 HP8.out.stands HP8.out.len).below ((Below.refl _ _).alloc (Nat.le_refl _) (.cells #[.string ⟨#[]⟩, .string ⟨#[]⟩, .int .i64 0, .slice A9 0 a9, .int .i64 0, .string ⟨#[]⟩, .int .i64 0, .slice none 0 0, .slice D9 0 d9, .slice T9 0 t9] 29)))
      clear hbox9 hk9 HN HP8
      go_upto_region 22 with fail
      generalize (w9.alloc (.cells #[.string ⟨#[]⟩, .string ⟨#[]⟩, .int .i64 0, .slice A9 0 a9, .int .i64 0, .string ⟨#[]⟩, .int .i64 0, .slice none 0 0, .slice D9 0 d9, .slice T9 0 t9] 29)) = w10 at *
      have HLW := Lib.hid (HLOW.out w10 HP10.out.kept)
      by_cases hbad : bad = 0
      · subst hbad
        have hRh := hRh rfl
        subst hRh
        obtain ⟨BA, bc, hbox⟩ := HP10.out.box
        have HRS := Lib.hid (restM_any w5.heap.size b 20 R 0 BA bc w10 hbox (by have := HP10.out.rlen; omega))
        clear hbox
        go_wp2_with fail
        refine HRS.out.mono ?_
        rintro e w11 ⟨A11, c11, rfl, hr11, hb11⟩
        have HP11 := Lib.hid (HP10.out.below hb11)
        have HR11 := Lib.hid hr11.rd
        have hrl := HP10.out.rlen
        have HL11 := Lib.hid (below_then HLW.out.size HLW.out hb11)
        clear hr11 hb11 HP10 HRS HLW
        go_wp2_with fail
        refine (sameBC A11 RA R.length c11 rc R w11 (by omega) rfl HR11.out HP11.out.rd).mono ?_
        rintro e w12 ⟨rfl, hb12⟩
        have HL12 := Lib.hid (below_then HL11.out.size HL11.out hb12)
        clear hb12 HP11 HR11 HL11
        go_wp2
        go_ret
        exact ⟨rfl, HL12.out⟩
      · have hbb : (bad == 0) = false := beq_eq_false_iff_ne.2 hbad
        have hbn : (bad != 0) = true := by rw [bne_iff_ne]; exact hbad
        go_wp2
        go_ret
        exact ⟨rfl, HLW.out⟩
end Go.Proofs.YteehjkfmlcfffaaGreatDoor
