/- The walk of the law ObjectTells (printed by gen/olaw.py). Conditions: what it reads is of bulk at most 2^20, a number of 64 bits; the library's tables. -/
import Derived.Test.YtcdbppoohlabnaaGreatDoorObjB
import Derived.Test.YtcdbppoohlabnaaGreatDoorObjA
import Derived.Test.YtcdbppoohlabnaaGreatDoorObjLaw
import Derived.Test.YtcdbppoohlabnaaGreatDoorMarkL
import Derived.Laws.BitsAllLaws
namespace Go.Proofs.YtcdbppoohlabnaaGreatDoor
open Go.RowKit

/-- Decode refuses. -/
theorem RetDec.no {w w' : World} {l : List UInt8} {e : Ending} (h : RetDec w l e w') (hd : O.dec l = none) : e = .returned (.tuple #[.agg #[.string ⟨#[]⟩, .string ⟨#[]⟩, .int .i64 0, .string ⟨#[]⟩, .int .i64 0, .slice none 0 0, .slice none 0 0, .int .i64 0, .int .i64 0], .int .i64 120]) ∧ Below w.heap.size w w' := by
  rcases h with ⟨E, _, _, _, _, h1, _⟩ | ⟨_, h2, h3⟩
  · rw [hd] at h1
    cases h1
  · exact ⟨h2, h3⟩
theorem xor_ne {x y : UInt8} (h : y ≠ 0) : x ^^^ y ≠ x := by
  intro he
  have := congrArg (fun z => x ^^^ z) he
  simp only [UInt8.xor_self] at this
  rw [← UInt8.xor_assoc, UInt8.xor_self, UInt8.zero_xor] at this
  exact h this
set_option maxRecDepth 100000 in
set_option maxHeartbeats 4000000 in
theorem objectTells_any (k v : ByteArray) (s : Int) (r : ByteArray) (m : Int) (A : Option Addr) (cf : Nat) (fs : List FD) (X : Option Addr) (cb : Nat) (body : List UInt8) (asked got : Int) (at_ : Int) (y : UInt8) (B0 : Option Addr) (n c : Nat) (ms : List UInt8) (w : World) (_hk : k.size ≤ 1048576) (_hv : v.size ≤ 1048576) (hr : r.size ≤ 1048576) (hf : F.bulk fs ≤ 1048576) (hbn : body.length ≤ 1048576) (hx : Rd w A fs.length 2 (fcells fs)) (hX : Rd w X body.length 1 (bcells body))
    (hnm : ms.length ≤ 1048576) (hl : ms.length = n) (hy : Rd w B0 n 1 (bcells ms)) (ht : LibOk w) (he : ErrOk w) (htab : TabOk w) :
    Calls Tryz.prog 5 #[.agg #[.string k, .string v, .int .i64 s, .string r, .int .i64 m, .slice A fs.length cf, .slice X body.length cb, .int .i64 asked, .int .i64 got], .int .i64 at_, .int .u8 y.toNat, .slice B0 n c] w (RetB w true) := by
  subst hl
  have hfl : fs.length ≤ 1048576 := by have := F.len_le_bulk fs; omega
  have HA := Lib.hid (fun (u : World) (hb : Below w.heap.size w u) => objAlive_any u (htab.below hb))
  have HC := Lib.hid (fun (u : World) (hb : Below w.heap.size w u) => copyEntry_any k v s r m A cf fs X cb body asked got u (by omega) (by omega) (hx.below hb) (hX.below hb))
  have HE := Lib.hid (fun (A1 : Option Addr) (c1 : Nat) (X1 : Option Addr) (d1 : Nat) (u : World) (hb : Below w.heap.size w u) (h1 : Rd u A1 fs.length 2 (fcells fs)) (h2 : Rd u X1 body.length 1 (bcells body)) => objEncode_any k v s r m A1 c1 fs X1 d1 body asked got u (by omega) (by omega) h1 h2 (htab.below hb))
  have HD := Lib.hid (fun (l : List UInt8) (A1 : Option Addr) (c1 : Nat) (u : World) (hb : Below w.heap.size w u) (hl : l.length ≤ 1073741824) (hc : l.length ≤ c1) (h1 : Rd u A1 l.length 1 (bcells l)) => odecode_any A1 c1 l u hl hc h1 (ht.below hb) (he.below hb) (htab.below hb))
  have HK0 := Lib.hid (Blk.new w #[.string k, .string v, .int .i64 s, .string r, .int .i64 m, .slice A fs.length cf, .slice X body.length cb, .int .i64 asked, .int .i64 got] 29)
  have HB0 := Lib.hid ((Below.refl w.heap.size w).alloc (Nat.le_refl _) (.cells #[.string k, .string v, .int .i64 s, .string r, .int .i64 m, .slice A fs.length cf, .slice X body.length cb, .int .i64 asked, .int .i64 got] 29))
  have hpb := objB_len k v s r m fs body asked got
  have hways := O.enc_ways k v s r m fs body asked got
  have HCP := Lib.hid (fun (l : List UInt8) (A1 : Option Addr) (c1 : Nat) (u : World) (hl : l.length ≤ 400000) (h1 : Rd u A1 l.length 1 (bcells l)) => copyBytes_any A1 c1 l u (by omega) h1)
  have HY := Lib.hid (fun (u : World) (hu : Below w.heap.size w u) => hy.below hu)
  generalize objB k v s r m fs body asked got = PB at *
  generalize objE k v s r m fs body.length asked got = PE at *
  clear hx hX ht hf hr he htab hy
  go_enter Tryz.func5, Tryz.ntmps5
  go_wp2_with fail
  generalize w.alloc (.cells #[.string k, .string v, .int .i64 s, .string r, .int .i64 m, .slice A fs.length cf, .slice X body.length cb, .int .i64 asked, .int .i64 got] 29) = w0 at *
  refine (HA.out _ HB0.out).mono ?_
  rintro e w1 ⟨rfl, hb1⟩
  have HK1 := Lib.hid (HK0.out.below hb1)
  have HB1 := Lib.hid (below_then HB0.out.size HB0.out hb1)
  clear hb1 HK0 HB0 HA
  obtain ⟨x0, x1, x2, x3, x4, x5, x6, x7, x8⟩ := HK1.out.cells9
  go_wp2_with fail
  clear x0 x1 x2 x3 x4 x5 x6 x7 x8
  refine (HC.out _ HB1.out).mono ?_
  rintro e w2 ⟨A1, c1, X1, d1, rfl, ha2, hx2, hb2⟩
  have HK2 := Lib.hid (HK1.out.below hb2)
  have HB2 := Lib.hid (below_then HB1.out.size HB1.out hb2)
  have HA2 := Lib.hid ha2
  have HX2 := Lib.hid hx2
  clear hb2 ha2 hx2 HK1 HB1 HC
  go_wp2_with fail
  refine (HE.out A1 c1 X1 d1 _ HB2.out HA2.out HX2.out).mono ?_
  rintro e w3 ⟨A3, c3, rfl, hr3, hb3⟩
  have HK3 := Lib.hid (HK2.out.below hb3)
  have HB3 := Lib.hid (below_then HB2.out.size HB2.out hb3)
  have HR3 := Lib.hid hr3
  clear hb3 hr3 HK2 HB2 HA2 HX2
  rcases hways with ⟨rfl, hdec⟩ | ⟨rfl, rfl⟩
  rotate_left
  · clear HE HD HCP HY
    go_wp2
    go_ret
    exact ⟨rfl, HB3.out⟩
  by_cases h0 : at_ < 0
  · clear HE HD HCP HY
    go_wp2
    go_ret
    exact ⟨rfl, HB3.out⟩
  obtain ⟨q, rfl⟩ : ∃ q : Nat, at_ = (q : Int) := ⟨at_.toNat, by omega⟩
  by_cases h1 : q < PB.length
  rotate_left
  · have h2 : (PB.length : Int) ≤ (q : Int) := by omega
    clear HE HD HCP HY h0 h1
    go_wp2
    go_ret
    exact ⟨rfl, HB3.out⟩
  have h2 : ¬ (PB.length : Int) ≤ (q : Int) := by omega
  have HTOLD := Lib.hid (O.told_of (O.dec_some hdec).1 (O.dec_some hdec).2.1)
  have HCUT := Lib.hid (O.dec_cut HTOLD.out q h1)
  have hqc : (q : Int) ≤ (c3 : Int) := by have := HR3.out.2.1; omega
  have hlq : (PB.take q).length = q := by rw [List.length_take]; omega
  have HC1 := Lib.hid (show Calls Tryz.prog 22 #[.slice A3 q c3] w3 (RetC w3 (PB.take q)) from by
    have := HCP.out (PB.take q) A3 c3 w3 (by omega) (by rw [hlq]; exact HR3.out.rd.upto (by omega))
    rwa [hlq] at this)
  have HDEC := Lib.hid hdec
  clear hdec HE h0
  go_wp2_with fail
  refine HC1.out.mono ?_
  rintro e w4 ⟨A4, c4, rfl, hr4, hb4⟩
  have HB4 := Lib.hid (below_then HB3.out.size HB3.out hb4)
  have HR4 := Lib.hid (HR3.out.below hb4)
  have HD1 := Lib.hid (HD.out (PB.take q) A4 c4 w4 HB4.out (by omega) hr4.2.1 hr4.rd)
  clear hb4 hr4 HB3 HR3 HC1 HK3
  rw [hlq] at HD1 ⊢
  go_wp2_with fail
  refine HD1.out.mono ?_
  intro e w5 hd5
  obtain ⟨rfl, hb5⟩ := hd5.no HCUT.out
  have HB5 := Lib.hid ((below_then HB4.out.size HB4.out hb5).alloc (by have := HB4.out.size; have := hb5.size; omega) (.cells #[.string ⟨#[]⟩, .string ⟨#[]⟩, .int .i64 0, .string ⟨#[]⟩, .int .i64 0, .slice none 0 0, .slice none 0 0, .int .i64 0, .int .i64 0] 29))
  have HR5 := Lib.hid ((HR4.out.below hb5).alloc (.cells #[.string ⟨#[]⟩, .string ⟨#[]⟩, .int .i64 0, .string ⟨#[]⟩, .int .i64 0, .slice none 0 0, .slice none 0 0, .int .i64 0, .int .i64 0] 29))
  clear hb5 HB4 HR4 HD1 HCUT hlq hd5
  go_upto_region 7 with fail
  generalize w5.alloc (.cells #[.string ⟨#[]⟩, .string ⟨#[]⟩, .int .i64 0, .string ⟨#[]⟩, .int .i64 0, .slice none 0 0, .slice none 0 0, .int .i64 0, .int .i64 0] 29) = w6 at *
  go_wp2_with fail
  refine (HCP.out PB A3 c3 _ hpb HR5.out.rd).mono ?_
  rintro e w7 ⟨A7, c7, rfl, hr7, hb7⟩
  have HB7 := Lib.hid (below_then HB5.out.size HB5.out hb7)
  have HR7 := Lib.hid (HR5.out.below hb7)
  have HQ7 := Lib.hid hr7
  have HM7 := Lib.hid (HY.out _ HB7.out)
  have HZ7 := Lib.hid hb7.size
  have HLT := Lib.hid HR5.out.lt
  have HW6 := Lib.hid HB5.out.size
  clear hb7 hr7 HB5 HR5 HY
  have HZ6 := Lib.hid (show w.heap.size ≤ w6.heap.size from HW6.out)
  go_wp2_with (at_builtin; refine appC _ rfl (.tmp 46) (.tmp 47) rfl w6.heap.size A7 PB.length c7 PB rfl HQ7.out B0 ms.length c ms rfl HM7.out (by omega) HZ7.out ?_; intro A8 c8 w8 hr8 ha8)
  have HB8 := Lib.hid (HB7.out.trans ((ha8.belowC HQ7.out HZ7.out).mono HZ6.out))
  have HR8 := Lib.hid (HR7.out.kept ha8.grown (fun b hb h => by have h3 := (HLT.out b hb).2; have h4 := (HQ7.out.lt b h).1; omega))
  have hlm : (PB ++ ms).length = PB.length + ms.length := List.length_append
  have HD8 := Lib.hid (show Calls Tryz.prog 16 #[.slice A8 (PB.length + ms.length) c8] w8 (RetEn w8 (O.entU (PB ++ ms)) (O.codeU (PB ++ ms))) from by
    have := (HD.out (PB ++ ms) A8 c8 w8 HB8.out (by omega) (by rw [hlm]; exact hr8.2.1) (by rw [hlm]; exact hr8.rd)).mono (fun _ _ h => h.u)
    rwa [hlm] at this)
  have hz : ∃ z : Bool, (O.codeU (PB ++ ms) == 0) = z ∧ ((ms.length : Int) == 0) = z := by
    by_cases hm : ms = []
    · subst hm
      refine ⟨true, ?_, rfl⟩
      rw [List.append_nil]
      unfold O.codeU
      rw [HDEC.out]
      rfl
    · refine ⟨false, ?_, ?_⟩
      · unfold O.codeU
        rw [O.dec_more HTOLD.out hm]
        rfl
      · have : ms.length ≠ 0 := fun h => hm (List.length_eq_zero_iff.1 h)
        rw [beq_eq_false_iff_ne]
        omega
  obtain ⟨z, hz1, hz2⟩ := hz
  generalize O.codeU (PB ++ ms) = cd at *
  generalize O.entU (PB ++ ms) = EU at *
  clear hr8 ha8 HB7 HR7 HQ7 HM7 HZ7 HLT HDEC hlm HZ6 HW6
  go_wp2_with fail
  refine HD8.out.mono ?_
  rintro e w9 ⟨A9, c9, X9, d9, rfl, _, _, hb9⟩
  have HB9 := Lib.hid (below_then HB8.out.size HB8.out hb9)
  have HR9 := Lib.hid (HR8.out.below hb9)
  clear hb9 HB8 HR8 HD8
  go_upto_region 14 with fail
  clear hz1 hz2
  by_cases hy0 : y = 0
  · subst hy0
    clear HD HCP HTOLD
    go_wp2
    go_ret
    exact ⟨rfl, HB9.out⟩
  have hyb : ((y.toNat : Int) == 0) = false := by
    rw [beq_eq_false_iff_ne]
    intro h
    exact hy0 (UInt8.toNat_inj.1 (show y.toNat = (0 : UInt8).toNat from by have h0 : (0 : UInt8).toNat = 0 := rfl; omega))
  go_wp2_with fail
  refine (HCP.out PB A3 c3 _ hpb HR9.out.rd).mono ?_
  rintro e w10 ⟨A10, c10, rfl, hr10, hb10⟩
  have HB10 := Lib.hid (below_then HB9.out.size HB9.out hb10)
  have hz10 := HB9.out.size
  have hq0 : 0 < PB.length := by omega
  obtain ⟨g, hA, hgB, hglt, hgc, hgv⟩ : ∃ g, A10 = some ⟨g, 0, none⟩ ∧ w9.heap.size ≤ g ∧ g < w10.heap.size ∧ (∀ j, j < c10 → (w10.cell? ⟨g, j, none⟩).isSome = true ∧ w10.frozen? ⟨g, j, none⟩ = false) ∧ ∀ j u, (bcells PB)[j]? = some u → w10.cell? ⟨g, j, none⟩ = some u := by
    rcases hr10.2.2 with h | h
    · have := hr10.2.1; omega
    · exact h
  subst hA
  have hcell := hgv q (.int .u8 (PB[q]'h1).toNat) (by simp [bcells, h1])
  have hfr := (hgc q (by have := hr10.2.1; omega)).2
  have HT1 := Lib.hid (O.dec_turn HTOLD.out q h1 ((PB[q]'h1) ^^^ y) (xor_ne hy0))
  have hst := hr10.set h1 ((PB[q]'h1) ^^^ y)
  have hls : (PB.set q ((PB[q]'h1) ^^^ y)).length = PB.length := List.length_set
  have hxor : bits .xor .u8 ((PB[q]'h1).toNat : Int) (y.toNat : Int) = (((PB[q]'h1) ^^^ y).toNat : Int) := by
    rw [u8_xor_nat _ _ (PB[q]'h1).toNat_lt y.toNat_lt, UInt8.toNat_xor]
  have HB11 := Lib.hid (below_set HB10.out (show w.heap.size ≤ g by omega) q (.int .u8 ((PB[q]'h1) ^^^ y).toNat))
  have HD11 := Lib.hid (show Calls Tryz.prog 16 #[.slice (some ⟨g, 0, none⟩) PB.length c10] (w10.setCell ⟨g, q, none⟩ (.int .u8 ((PB[q]'h1) ^^^ y).toNat)) (RetDec (w10.setCell ⟨g, q, none⟩ (.int .u8 ((PB[q]'h1) ^^^ y).toNat)) (PB.set q ((PB[q]'h1) ^^^ y))) from by
    have := HD.out (PB.set q ((PB[q]'h1) ^^^ y)) (some ⟨g, 0, none⟩) c10 _ HB11.out (by omega) (by rw [hls]; exact hst.2.1) (by rw [hls]; exact hst.rd)
    rwa [hls] at this)
  generalize (PB[q]'h1) ^^^ y = xy at *
  generalize (PB[q]'h1) = x at *
  have hx256 := x.toNat_lt
  clear hb10 hr10 HB9 HR9 HCP HD hgc hgv hst hls HTOLD HB10
  have h1i : (q : Int) < (PB.length : Int) := by omega
  go_wp2_with fail
  generalize w10.setCell ⟨g, q, none⟩ (.int .u8 xy.toNat) = w11 at *
  refine HD11.out.mono ?_
  intro e w12 hd12
  obtain ⟨rfl, hb12⟩ := hd12.no HT1.out
  have HB12 := Lib.hid (below_then HB11.out.size HB11.out hb12)
  clear hb12 HB11 HD11 HT1 hd12
  go_wp2
  go_ret
  exact ⟨rfl, HB12.out⟩
end Go.Proofs.YtcdbppoohlabnaaGreatDoor
