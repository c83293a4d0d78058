/- The walk of the law ObjectEncodes. Conditions: what it reads is of bulk at most 2^20, the library's table of powers of ten. -/
import Derived.Test.YtecopkcogobolaaDoorObjL
namespace Go.Proofs.YtecopkcogobolaaDoor
open Go.RowKit

theorem objB_len (k v : ByteArray) (s : Int) (r : ByteArray) (m : Int) (fs : List FD) (body : List UInt8) (asked got : Int) : (objB k v s r m fs body asked got).length ≤ 400000 := by
  unfold objB
  split
  · rename_i h
    have hok := (of_decide_eq_true h).2
    obtain ⟨h1, h2, h3, _⟩ := okE_facts hok
    have hd : ∀ i, (datO k v (F.respB s r m fs) body asked got i).length ≤ 65536 := by
      intro i
      match i with
      | 0 => show (L k).length ≤ _; rw [← L_size]; omega
      | 1 => show (L v).length ≤ _; rw [← L_size]; omega
      | 2 => show (F.respB s r m fs).length ≤ _; have := respB_len s r m fs; omega
      | 3 => show body.length ≤ _; omega
      | 4 => show (beN asked.toNat 8 ++ beN got.toNat 8).length ≤ _; rw [List.length_append, beN_len, beN_len]; decide
      | n + 5 => exact Nat.zero_le _
    have := preO_len _ hd 5
    unfold objW
    rw [List.length_append, beN_len]
    omega
  · exact Nat.zero_le _

/-- What the walk holds: both entries' blocks, the copy's lists, both answers. -/
def ObjS (w : World) (b5 : Nat) (Xc Yc : Array Value) (A1 X1 A4 A5 : Option Addr) (fs : List FD) (body PB : List UInt8) (u : World) : Prop :=
  Blk u w.heap.size Xc 27 ∧ Blk u b5 Yc 27 ∧ Rd u A1 fs.length 2 (fcells fs) ∧ Rd u X1 body.length 1 (bcells body) ∧ Rd u A4 PB.length 1 (bcells PB) ∧ Rd u A5 PB.length 1 (bcells PB) ∧ Below w.heap.size w u
theorem ObjS.below {w u u' : World} {b5 : Nat} {Xc Yc : Array Value} {A1 X1 A4 A5 : Option Addr} {fs : List FD} {body PB : List UInt8} (h : ObjS w b5 Xc Yc A1 X1 A4 A5 fs body PB u) (hb : Below u.heap.size u u') : ObjS w b5 Xc Yc A1 X1 A4 A5 fs body PB u' :=
  ⟨h.1.below hb, h.2.1.below hb, h.2.2.1.below hb, h.2.2.2.1.below hb, h.2.2.2.2.1.below hb, h.2.2.2.2.2.1.below hb, below_then h.2.2.2.2.2.2.size h.2.2.2.2.2.2 hb⟩

set_option maxRecDepth 100000 in
set_option maxHeartbeats 4000000 in
theorem objectEncodes_any (k v : ByteArray) (s : Int) (r : ByteArray) (m : Int) (A : Option Addr) (cf : Nat) (fs : List FD) (X : Option Addr) (cb : Nat) (body : List UInt8) (asked got : Int) (w : World) (hk : k.size ≤ 1048576) (hv : v.size ≤ 1048576) (hr : r.size ≤ 1048576) (hf : F.bulk fs ≤ 1048576) (hbn : body.length ≤ 1048576) (hx : Rd w A fs.length 2 (fcells fs)) (hX : Rd w X body.length 1 (bcells body)) (ht : TabOk w) :
    Calls Tryd.prog 3 #[.agg #[.string k, .string v, .int .i64 s, .string r, .int .i64 m, .slice A fs.length cf, .slice X body.length cb, .int .i64 asked, .int .i64 got]] w (RetB w true) := by
  have hn : fs.length ≤ 1048576 := by have := F.len_le_bulk fs; omega
  have HA := Lib.hid (fun (u : World) (hb : Below w.heap.size w u) => objAlive_any u (ht.below hb))
  have HC := Lib.hid (fun (u : World) (hb : Below w.heap.size w u) => copyEntry_any k v s r m A cf fs X cb body asked got u (by omega) (by omega) (hx.below hb) (hX.below hb))
  have HE := Lib.hid (fun (A1 : Option Addr) (c1 : Nat) (X1 : Option Addr) (d1 : Nat) (u : World) (hb : Below w.heap.size w u) (h1 : Rd u A1 fs.length 2 (fcells fs)) (h2 : Rd u X1 body.length 1 (bcells body)) => objEncode_any k v s r m A1 c1 fs X1 d1 body asked got u (by omega) (by omega) h1 h2 (ht.below hb))
  have HR := Lib.hid (fun (u : World) (hb : Below w.heap.size w u) => refObjEncode_any k v s r m A cf fs X cb body asked got u (by omega) (by omega) (hx.below hb) (hX.below hb))
  have HS := Lib.hid (fun (A1 : Option Addr) (c1 : Nat) (X1 : Option Addr) (d1 : Nat) (u : World) (hb : Below w.heap.size w u) (h1 : Rd u A1 fs.length 2 (fcells fs)) (h2 : Rd u X1 body.length 1 (bcells body)) => sameEntry_any k v s r m A1 c1 fs X1 d1 body asked got A cf X cb u (by omega) (by omega) h1 (hx.below hb) h2 (hX.below hb))
  have HI := Lib.hid (fun (u : World) => id_any k v u (by omega) (by omega))
  have HJ := Lib.hid (fun (u : World) => refId_any k v u (by omega) (by omega))
  have HK0 := Lib.hid (Blk.new w #[.string k, .string v, .int .i64 s, .string r, .int .i64 m, .slice A fs.length cf, .slice X body.length cb, .int .i64 asked, .int .i64 got] 27)
  have HB0 := Lib.hid ((Below.refl w.heap.size w).alloc (Nat.le_refl _) (.cells #[.string k, .string v, .int .i64 s, .string r, .int .i64 m, .slice A fs.length cf, .slice X body.length cb, .int .i64 asked, .int .i64 got] 27))
  have hpb := objB_len k v s r m fs body asked got
  generalize objB k v s r m fs body asked got = PB at *
  generalize objE k v s r m fs body.length asked got = PE at *
  clear hx hX ht hf hr
  go_enter Tryd.func3, Tryd.ntmps3
  go_wp2_with fail
  generalize w.alloc (.cells #[.string k, .string v, .int .i64 s, .string r, .int .i64 m, .slice A fs.length cf, .slice X body.length cb, .int .i64 asked, .int .i64 got] 27) = w0 at *
  refine (HA.out _ HB0.out).mono ?_
  rintro e w1 ⟨rfl, hb1⟩
  have HK1 := Lib.hid (HK0.out.below hb1)
  have HB1 := Lib.hid (below_then HB0.out.size HB0.out hb1)
  clear hb1 HK0 HB0 HA
  obtain ⟨x0, x1, x2, x3, x4, x5, x6, x7, x8⟩ := HK1.out.cells9
  go_wp2_with fail
  clear x0 x1 x2 x3 x4 x5 x6 x7 x8
  refine (HC.out _ HB1.out).mono ?_
  rintro e w2 ⟨A1, c1, X1, d1, rfl, ha2, hx2, hb2⟩
  have HK2 := Lib.hid ((HK1.out.below hb2).alloc (.cells #[.string k, .string v, .int .i64 s, .string r, .int .i64 m, .slice A1 fs.length c1, .slice X1 body.length d1, .int .i64 asked, .int .i64 got] 27))
  have HB2' := Lib.hid (below_then HB1.out.size HB1.out hb2)
  have HB2 := Lib.hid (HB2'.out.alloc HB2'.out.size (.cells #[.string k, .string v, .int .i64 s, .string r, .int .i64 m, .slice A1 fs.length c1, .slice X1 body.length d1, .int .i64 asked, .int .i64 got] 27))
  have HL2 := Lib.hid (Blk.new w2 #[.string k, .string v, .int .i64 s, .string r, .int .i64 m, .slice A1 fs.length c1, .slice X1 body.length d1, .int .i64 asked, .int .i64 got] 27)
  have HA2 := Lib.hid (ha2.alloc (.cells #[.string k, .string v, .int .i64 s, .string r, .int .i64 m, .slice A1 fs.length c1, .slice X1 body.length d1, .int .i64 asked, .int .i64 got] 27))
  have HX2 := Lib.hid (hx2.alloc (.cells #[.string k, .string v, .int .i64 s, .string r, .int .i64 m, .slice A1 fs.length c1, .slice X1 body.length d1, .int .i64 asked, .int .i64 got] 27))
  clear hb2 ha2 hx2 HK1 HB1 HB2' HC
  obtain ⟨y0, y1, y2, y3, y4, y5, y6, y7, y8⟩ := HL2.out.cells9
  go_wp2_with fail
  clear y0 y1 y2 y3 y4 y5 y6 y7 y8
  generalize w2.heap.size = b5 at *
  generalize w2.alloc (.cells #[.string k, .string v, .int .i64 s, .string r, .int .i64 m, .slice A1 fs.length c1, .slice X1 body.length d1, .int .i64 asked, .int .i64 got] 27) = w3 at *
  refine (HE.out A1 c1 X1 d1 _ HB2.out HA2.out HX2.out).mono ?_
  rintro e w4 ⟨A4, c4, rfl, hr4, hb4⟩
  have HK4 := Lib.hid (HK2.out.below hb4)
  have HL4 := Lib.hid (HL2.out.below hb4)
  have HB4 := Lib.hid (below_then HB2.out.size HB2.out hb4)
  have HA4 := Lib.hid (HA2.out.below hb4)
  have HX4 := Lib.hid (HX2.out.below hb4)
  have HR4 := Lib.hid hr4.rd
  clear hb4 hr4 HK2 HL2 HB2 HA2 HX2 HE
  obtain ⟨x0, x1, x2, x3, x4, x5, x6, x7, x8⟩ := HK4.out.cells9
  go_wp2_with fail
  clear x0 x1 x2 x3 x4 x5 x6 x7 x8
  refine (HR.out _ HB4.out).mono ?_
  rintro e w5 ⟨A5, c5, rfl, hr5, hb5⟩
  have HK5 := Lib.hid (HK4.out.below hb5)
  have HL5 := Lib.hid (HL4.out.below hb5)
  have HB5 := Lib.hid (below_then HB4.out.size HB4.out hb5)
  have HA5 := Lib.hid (HA4.out.below hb5)
  have HX5 := Lib.hid (HX4.out.below hb5)
  have HR45 := Lib.hid (HR4.out.below hb5)
  have HR5 := Lib.hid hr5.rd
  clear hb5 hr5 HK4 HL4 HB4 HA4 HX4 HR4 HR
  go_wp2_with fail
  have hS0 : ObjS w b5 #[.string k, .string v, .int .i64 s, .string r, .int .i64 m, .slice A fs.length cf, .slice X body.length cb, .int .i64 asked, .int .i64 got] #[.string k, .string v, .int .i64 s, .string r, .int .i64 m, .slice A1 fs.length c1, .slice X1 body.length d1, .int .i64 asked, .int .i64 got] A1 X1 A4 A5 fs body PB w5.drew := (show ObjS w b5 #[.string k, .string v, .int .i64 s, .string r, .int .i64 m, .slice A fs.length cf, .slice X body.length cb, .int .i64 asked, .int .i64 got] #[.string k, .string v, .int .i64 s, .string r, .int .i64 m, .slice A1 fs.length c1, .slice X1 body.length d1, .int .i64 asked, .int .i64 got] A1 X1 A4 A5 fs body PB w5 from ⟨HK5.out, HL5.out, HA5.out, HX5.out, HR45.out, HR5.out, HB5.out⟩).below (Below.refl _ _).drew
  clear HK5 HL5 HB5 HA5 HX5 HR45 HR5
  refine wp_region_noPanic ?_
  refine HT.begin (n := 26) (S := ObjS w b5 #[.string k, .string v, .int .i64 s, .string r, .int .i64 m, .slice A fs.length cf, .slice X body.length cb, .int .i64 asked, .int .i64 got] #[.string k, .string v, .int .i64 s, .string r, .int .i64 m, .slice A1 fs.length c1, .slice X1 body.length d1, .int .i64 asked, .int .i64 got] A1 X1 A4 A5 fs body PB) (by kernel_rfl) hS0 ?_
  refine HT.take 0 (.slice A4 PB.length c4) rfl (by kernel_rfl) (fun _ _ _ h => h) (Or.inl ⟨by rfl, ?_⟩) (?_ : HT _ _ _ _ _ _ _ ⟨#[_, _, _, _, _, _, _, _, _, _, _, _, _, _, _, _, _, _, _, _, _, _, .slice A4 PB.length c4, _, _, _, _, _, _, _, _, _, _, _, _, _, _, _, _, _, _, _, _, _, _, _, _, _], []⟩ _)
  · intro u hu
    go_simp
  refine HT.take 1 (.slice A5 PB.length c5) rfl (by kernel_rfl) (fun _ _ _ h => h) (Or.inl ⟨by rfl, ?_⟩) (?_ : HT _ _ _ _ _ _ _ ⟨#[_, _, _, _, _, _, _, _, _, _, _, _, _, _, _, _, _, _, _, _, _, _, .slice A4 PB.length c4, .slice A5 PB.length c5, _, _, _, _, _, _, _, _, _, _, _, _, _, _, _, _, _, _, _, _, _, _, _, _], []⟩ _)
  · intro u hu
    go_simp
  refine HT.step 2 rfl (by kernel_rfl) (fun hS K hK => ?_)
  go_simp
  refine (sameBO A4 A5 PB.length c4 c5 PB _ (by omega) rfl hS.2.2.2.2.1 hS.2.2.2.2.2.1).mono ?_
  rintro e w6 ⟨rfl, hb6⟩
  refine hK.out _ _ (hS.below hb6) ?_
  clear hK hS hb6
  refine HT.take 3 (.bool true) rfl (by kernel_rfl) (fun _ _ _ h => h) (Or.inl ⟨by rfl, ?_⟩) (?_ : HT _ _ _ _ _ _ _ ⟨#[_, _, _, _, _, _, _, _, _, _, _, _, _, _, _, _, _, _, _, _, _, _, .slice A4 PB.length c4, .slice A5 PB.length c5, .bool true, .bool true, _, _, _, _, _, _, _, _, _, _, _, _, _, _, _, _, _, _, _, _, _, _], []⟩ _)
  · intro u hu
    go_simp
  refine HT.take 4 (.int .i64 PE) rfl (by kernel_rfl) (fun _ _ _ h => h) (Or.inl ⟨by rfl, ?_⟩) (?_ : HT _ _ _ _ _ _ _ ⟨#[_, _, _, _, _, _, _, _, _, _, _, _, _, _, _, _, _, _, _, _, _, _, .slice A4 PB.length c4, .slice A5 PB.length c5, .bool true, .bool true, .int .i64 PE, _, _, _, _, _, _, _, _, _, _, _, _, _, _, _, _, _, _, _, _, _], []⟩ _)
  · intro u hu
    go_simp
  refine HT.take 5 (.int .i64 PE) rfl (by kernel_rfl) (fun _ _ _ h => h) (Or.inl ⟨by rfl, ?_⟩) (?_ : HT _ _ _ _ _ _ _ ⟨#[_, _, _, _, _, _, _, _, _, _, _, _, _, _, _, _, _, _, _, _, _, _, .slice A4 PB.length c4, .slice A5 PB.length c5, .bool true, .bool true, .int .i64 PE, .int .i64 PE, _, _, _, _, _, _, _, _, _, _, _, _, _, _, _, _, _, _, _, _], []⟩ _)
  · intro u hu
    go_simp
  refine HT.take 6 (.bool true) rfl (by kernel_rfl) (fun _ _ _ h => h) (Or.inl ⟨by rfl, ?_⟩) (?_ : HT _ _ _ _ _ _ _ ⟨#[_, _, _, _, _, _, _, _, _, _, _, _, _, _, _, _, _, _, _, _, _, _, .slice A4 PB.length c4, .slice A5 PB.length c5, .bool true, .bool true, .int .i64 PE, .int .i64 PE, .bool true, _, _, _, _, _, _, _, _, _, _, _, _, _, _, _, _, _, _, _], []⟩ _)
  · intro u hu
    go_simp
  refine HT.take 7 (.bool true) rfl (by kernel_rfl) (fun _ _ _ h => h) (Or.inl ⟨by rfl, ?_⟩) (?_ : HT _ _ _ _ _ _ _ ⟨#[_, _, _, _, _, _, _, _, _, _, _, _, _, _, _, _, _, _, _, _, _, _, .slice A4 PB.length c4, .slice A5 PB.length c5, .bool true, .bool true, .int .i64 PE, .int .i64 PE, .bool true, .bool true, _, _, _, _, _, _, _, _, _, _, _, _, _, _, _, _, _, _], []⟩ _)
  · intro u hu
    go_simp
  refine HT.take 8 (.bool true) rfl (by kernel_rfl) (fun _ _ _ h => h) (Or.inl ⟨by rfl, ?_⟩) (?_ : HT _ _ _ _ _ _ _ ⟨#[_, _, _, _, _, _, _, _, _, _, _, _, _, _, _, _, _, _, _, _, _, _, .slice A4 PB.length c4, .slice A5 PB.length c5, .bool true, .bool true, .int .i64 PE, .int .i64 PE, .bool true, .bool true, .bool true, _, _, _, _, _, _, _, _, _, _, _, _, _, _, _, _, _], []⟩ _)
  · intro u hu
    go_simp
  refine HT.take 9 (.agg #[.string k, .string v, .int .i64 s, .string r, .int .i64 m, .slice A1 fs.length c1, .slice X1 body.length d1, .int .i64 asked, .int .i64 got]) rfl (by kernel_rfl) (fun _ _ _ h => h) (Or.inl ⟨by rfl, ?_⟩) (?_ : HT _ _ _ _ _ _ _ ⟨#[_, _, _, _, _, _, _, _, _, _, _, _, _, _, _, _, _, _, _, _, _, _, .slice A4 PB.length c4, .slice A5 PB.length c5, .bool true, .bool true, .int .i64 PE, .int .i64 PE, .bool true, .bool true, .bool true, .agg #[.string k, .string v, .int .i64 s, .string r, .int .i64 m, .slice A1 fs.length c1, .slice X1 body.length d1, .int .i64 asked, .int .i64 got], _, _, _, _, _, _, _, _, _, _, _, _, _, _, _, _], []⟩ _)
  · intro u hu
    obtain ⟨_, hq, _⟩ := hu
    obtain ⟨x0, x1, x2, x3, x4, x5, x6, x7, x8⟩ := hq.cells9
    go_simp
  refine HT.take 10 (.agg #[.string k, .string v, .int .i64 s, .string r, .int .i64 m, .slice A fs.length cf, .slice X body.length cb, .int .i64 asked, .int .i64 got]) rfl (by kernel_rfl) (fun _ _ _ h => h) (Or.inl ⟨by rfl, ?_⟩) (?_ : HT _ _ _ _ _ _ _ ⟨#[_, _, _, _, _, _, _, _, _, _, _, _, _, _, _, _, _, _, _, _, _, _, .slice A4 PB.length c4, .slice A5 PB.length c5, .bool true, .bool true, .int .i64 PE, .int .i64 PE, .bool true, .bool true, .bool true, .agg #[.string k, .string v, .int .i64 s, .string r, .int .i64 m, .slice A1 fs.length c1, .slice X1 body.length d1, .int .i64 asked, .int .i64 got], .agg #[.string k, .string v, .int .i64 s, .string r, .int .i64 m, .slice A fs.length cf, .slice X body.length cb, .int .i64 asked, .int .i64 got], _, _, _, _, _, _, _, _, _, _, _, _, _, _, _], []⟩ _)
  · intro u hu
    obtain ⟨hq, _⟩ := hu
    obtain ⟨x0, x1, x2, x3, x4, x5, x6, x7, x8⟩ := hq.cells9
    go_simp
  refine HT.step 11 rfl (by kernel_rfl) (fun hS K hK => ?_)
  go_simp
  refine (HS.out A1 c1 X1 d1 _ hS.2.2.2.2.2.2 hS.2.2.1 hS.2.2.2.1).mono ?_
  rintro e w7 ⟨rfl, hb7⟩
  refine hK.out _ _ (hS.below hb7) ?_
  clear hK hS hb7
  refine HT.take 12 (.bool true) rfl (by kernel_rfl) (fun _ _ _ h => h) (Or.inl ⟨by rfl, ?_⟩) (?_ : HT _ _ _ _ _ _ _ ⟨#[_, _, _, _, _, _, _, _, _, _, _, _, _, _, _, _, _, _, _, _, _, _, .slice A4 PB.length c4, .slice A5 PB.length c5, .bool true, .bool true, .int .i64 PE, .int .i64 PE, .bool true, .bool true, .bool true, .agg #[.string k, .string v, .int .i64 s, .string r, .int .i64 m, .slice A1 fs.length c1, .slice X1 body.length d1, .int .i64 asked, .int .i64 got], .agg #[.string k, .string v, .int .i64 s, .string r, .int .i64 m, .slice A fs.length cf, .slice X body.length cb, .int .i64 asked, .int .i64 got], .bool true, .bool true, _, _, _, _, _, _, _, _, _, _, _, _, _], []⟩ _)
  · intro u hu
    go_simp
  refine HT.take 13 (.bool true) rfl (by kernel_rfl) (fun _ _ _ h => h) (Or.inl ⟨by rfl, ?_⟩) (?_ : HT _ _ _ _ _ _ _ ⟨#[_, _, _, _, _, _, _, _, _, _, _, _, _, _, _, _, _, _, _, _, _, _, .slice A4 PB.length c4, .slice A5 PB.length c5, .bool true, .bool true, .int .i64 PE, .int .i64 PE, .bool true, .bool true, .bool true, .agg #[.string k, .string v, .int .i64 s, .string r, .int .i64 m, .slice A1 fs.length c1, .slice X1 body.length d1, .int .i64 asked, .int .i64 got], .agg #[.string k, .string v, .int .i64 s, .string r, .int .i64 m, .slice A fs.length cf, .slice X body.length cb, .int .i64 asked, .int .i64 got], .bool true, .bool true, .bool true, _, _, _, _, _, _, _, _, _, _, _, _], []⟩ _)
  · intro u hu
    go_simp
  refine HT.take 14 (.pointer (some ⟨w.heap.size, 0, none⟩)) rfl (by kernel_rfl) (fun _ _ _ h => h) (Or.inl ⟨by rfl, ?_⟩) (?_ : HT _ _ _ _ _ _ _ ⟨#[_, _, _, _, _, _, _, _, _, _, _, _, _, _, _, _, _, _, _, _, _, _, .slice A4 PB.length c4, .slice A5 PB.length c5, .bool true, .bool true, .int .i64 PE, .int .i64 PE, .bool true, .bool true, .bool true, .agg #[.string k, .string v, .int .i64 s, .string r, .int .i64 m, .slice A1 fs.length c1, .slice X1 body.length d1, .int .i64 asked, .int .i64 got], .agg #[.string k, .string v, .int .i64 s, .string r, .int .i64 m, .slice A fs.length cf, .slice X body.length cb, .int .i64 asked, .int .i64 got], .bool true, .bool true, .bool true, .pointer (some ⟨w.heap.size, 0, none⟩), _, _, _, _, _, _, _, _, _, _, _], []⟩ _)
  · intro u hu
    go_simp
  refine HT.take 15 (.string k) rfl (by kernel_rfl) (fun _ _ _ h => h) (Or.inl ⟨by rfl, ?_⟩) (?_ : HT _ _ _ _ _ _ _ ⟨#[_, _, _, _, _, _, _, _, _, _, _, _, _, _, _, _, _, _, _, _, _, _, .slice A4 PB.length c4, .slice A5 PB.length c5, .bool true, .bool true, .int .i64 PE, .int .i64 PE, .bool true, .bool true, .bool true, .agg #[.string k, .string v, .int .i64 s, .string r, .int .i64 m, .slice A1 fs.length c1, .slice X1 body.length d1, .int .i64 asked, .int .i64 got], .agg #[.string k, .string v, .int .i64 s, .string r, .int .i64 m, .slice A fs.length cf, .slice X body.length cb, .int .i64 asked, .int .i64 got], .bool true, .bool true, .bool true, .pointer (some ⟨w.heap.size, 0, none⟩), .string k, _, _, _, _, _, _, _, _, _, _], []⟩ _)
  · intro u hu
    obtain ⟨hq, _⟩ := hu
    obtain ⟨x0, x1, x2, x3, x4, x5, x6, x7, x8⟩ := hq.cells9
    go_simp
  refine HT.take 16 (.pointer (some ⟨w.heap.size, 1, none⟩)) rfl (by kernel_rfl) (fun _ _ _ h => h) (Or.inl ⟨by rfl, ?_⟩) (?_ : HT _ _ _ _ _ _ _ ⟨#[_, _, _, _, _, _, _, _, _, _, _, _, _, _, _, _, _, _, _, _, _, _, .slice A4 PB.length c4, .slice A5 PB.length c5, .bool true, .bool true, .int .i64 PE, .int .i64 PE, .bool true, .bool true, .bool true, .agg #[.string k, .string v, .int .i64 s, .string r, .int .i64 m, .slice A1 fs.length c1, .slice X1 body.length d1, .int .i64 asked, .int .i64 got], .agg #[.string k, .string v, .int .i64 s, .string r, .int .i64 m, .slice A fs.length cf, .slice X body.length cb, .int .i64 asked, .int .i64 got], .bool true, .bool true, .bool true, .pointer (some ⟨w.heap.size, 0, none⟩), .string k, .pointer (some ⟨w.heap.size, 1, none⟩), _, _, _, _, _, _, _, _, _], []⟩ _)
  · intro u hu
    go_simp
  refine HT.take 17 (.string v) rfl (by kernel_rfl) (fun _ _ _ h => h) (Or.inl ⟨by rfl, ?_⟩) (?_ : HT _ _ _ _ _ _ _ ⟨#[_, _, _, _, _, _, _, _, _, _, _, _, _, _, _, _, _, _, _, _, _, _, .slice A4 PB.length c4, .slice A5 PB.length c5, .bool true, .bool true, .int .i64 PE, .int .i64 PE, .bool true, .bool true, .bool true, .agg #[.string k, .string v, .int .i64 s, .string r, .int .i64 m, .slice A1 fs.length c1, .slice X1 body.length d1, .int .i64 asked, .int .i64 got], .agg #[.string k, .string v, .int .i64 s, .string r, .int .i64 m, .slice A fs.length cf, .slice X body.length cb, .int .i64 asked, .int .i64 got], .bool true, .bool true, .bool true, .pointer (some ⟨w.heap.size, 0, none⟩), .string k, .pointer (some ⟨w.heap.size, 1, none⟩), .string v, _, _, _, _, _, _, _, _], []⟩ _)
  · intro u hu
    obtain ⟨hq, _⟩ := hu
    obtain ⟨x0, x1, x2, x3, x4, x5, x6, x7, x8⟩ := hq.cells9
    go_simp
  refine HT.take 19 (.pointer (some ⟨w.heap.size, 0, none⟩)) rfl (by kernel_rfl) (fun _ _ _ h => h) (Or.inl ⟨by rfl, ?_⟩) (?_ : HT _ _ _ _ _ _ _ ⟨#[_, _, _, _, _, _, _, _, _, _, _, _, _, _, _, _, _, _, _, _, _, _, .slice A4 PB.length c4, .slice A5 PB.length c5, .bool true, .bool true, .int .i64 PE, .int .i64 PE, .bool true, .bool true, .bool true, .agg #[.string k, .string v, .int .i64 s, .string r, .int .i64 m, .slice A1 fs.length c1, .slice X1 body.length d1, .int .i64 asked, .int .i64 got], .agg #[.string k, .string v, .int .i64 s, .string r, .int .i64 m, .slice A fs.length cf, .slice X body.length cb, .int .i64 asked, .int .i64 got], .bool true, .bool true, .bool true, .pointer (some ⟨w.heap.size, 0, none⟩), .string k, .pointer (some ⟨w.heap.size, 1, none⟩), .string v, _, .pointer (some ⟨w.heap.size, 0, none⟩), _, _, _, _, _, _], []⟩ _)
  · intro u hu
    go_simp
  refine HT.take 20 (.string k) rfl (by kernel_rfl) (fun _ _ _ h => h) (Or.inl ⟨by rfl, ?_⟩) (?_ : HT _ _ _ _ _ _ _ ⟨#[_, _, _, _, _, _, _, _, _, _, _, _, _, _, _, _, _, _, _, _, _, _, .slice A4 PB.length c4, .slice A5 PB.length c5, .bool true, .bool true, .int .i64 PE, .int .i64 PE, .bool true, .bool true, .bool true, .agg #[.string k, .string v, .int .i64 s, .string r, .int .i64 m, .slice A1 fs.length c1, .slice X1 body.length d1, .int .i64 asked, .int .i64 got], .agg #[.string k, .string v, .int .i64 s, .string r, .int .i64 m, .slice A fs.length cf, .slice X body.length cb, .int .i64 asked, .int .i64 got], .bool true, .bool true, .bool true, .pointer (some ⟨w.heap.size, 0, none⟩), .string k, .pointer (some ⟨w.heap.size, 1, none⟩), .string v, _, .pointer (some ⟨w.heap.size, 0, none⟩), .string k, _, _, _, _, _], []⟩ _)
  · intro u hu
    obtain ⟨hq, _⟩ := hu
    obtain ⟨x0, x1, x2, x3, x4, x5, x6, x7, x8⟩ := hq.cells9
    go_simp
  refine HT.take 21 (.pointer (some ⟨w.heap.size, 1, none⟩)) rfl (by kernel_rfl) (fun _ _ _ h => h) (Or.inl ⟨by rfl, ?_⟩) (?_ : HT _ _ _ _ _ _ _ ⟨#[_, _, _, _, _, _, _, _, _, _, _, _, _, _, _, _, _, _, _, _, _, _, .slice A4 PB.length c4, .slice A5 PB.length c5, .bool true, .bool true, .int .i64 PE, .int .i64 PE, .bool true, .bool true, .bool true, .agg #[.string k, .string v, .int .i64 s, .string r, .int .i64 m, .slice A1 fs.length c1, .slice X1 body.length d1, .int .i64 asked, .int .i64 got], .agg #[.string k, .string v, .int .i64 s, .string r, .int .i64 m, .slice A fs.length cf, .slice X body.length cb, .int .i64 asked, .int .i64 got], .bool true, .bool true, .bool true, .pointer (some ⟨w.heap.size, 0, none⟩), .string k, .pointer (some ⟨w.heap.size, 1, none⟩), .string v, _, .pointer (some ⟨w.heap.size, 0, none⟩), .string k, .pointer (some ⟨w.heap.size, 1, none⟩), _, _, _, _], []⟩ _)
  · intro u hu
    go_simp
  refine HT.take 22 (.string v) rfl (by kernel_rfl) (fun _ _ _ h => h) (Or.inl ⟨by rfl, ?_⟩) (?_ : HT _ _ _ _ _ _ _ ⟨#[_, _, _, _, _, _, _, _, _, _, _, _, _, _, _, _, _, _, _, _, _, _, .slice A4 PB.length c4, .slice A5 PB.length c5, .bool true, .bool true, .int .i64 PE, .int .i64 PE, .bool true, .bool true, .bool true, .agg #[.string k, .string v, .int .i64 s, .string r, .int .i64 m, .slice A1 fs.length c1, .slice X1 body.length d1, .int .i64 asked, .int .i64 got], .agg #[.string k, .string v, .int .i64 s, .string r, .int .i64 m, .slice A fs.length cf, .slice X body.length cb, .int .i64 asked, .int .i64 got], .bool true, .bool true, .bool true, .pointer (some ⟨w.heap.size, 0, none⟩), .string k, .pointer (some ⟨w.heap.size, 1, none⟩), .string v, _, .pointer (some ⟨w.heap.size, 0, none⟩), .string k, .pointer (some ⟨w.heap.size, 1, none⟩), .string v, _, _, _], []⟩ _)
  · intro u hu
    obtain ⟨hq, _⟩ := hu
    obtain ⟨x0, x1, x2, x3, x4, x5, x6, x7, x8⟩ := hq.cells9
    go_simp
  refine HT.step 18 rfl (by kernel_rfl) (fun hS K hK => ?_)
  go_simp
  refine (HI.out _).mono ?_
  rintro e w8 ⟨rfl, hb8⟩
  refine hK.out _ _ (hS.below hb8) ?_
  clear hK hS hb8
  refine HT.step 23 rfl (by kernel_rfl) (fun hS K hK => ?_)
  go_simp
  refine (HJ.out _).mono ?_
  rintro e w9 ⟨rfl, hb9⟩
  refine hK.out _ _ (hS.below hb9) ?_
  clear hK hS hb9
  refine HT.take 24 (.bool true) rfl (by kernel_rfl) (fun _ _ _ h => h) (Or.inl ⟨by rfl, ?_⟩) (?_ : HT _ _ _ _ _ _ _ ⟨#[_, _, _, _, _, _, _, _, _, _, _, _, _, _, _, _, _, _, _, _, _, _, .slice A4 PB.length c4, .slice A5 PB.length c5, .bool true, .bool true, .int .i64 PE, .int .i64 PE, .bool true, .bool true, .bool true, .agg #[.string k, .string v, .int .i64 s, .string r, .int .i64 m, .slice A1 fs.length c1, .slice X1 body.length d1, .int .i64 asked, .int .i64 got], .agg #[.string k, .string v, .int .i64 s, .string r, .int .i64 m, .slice A fs.length cf, .slice X body.length cb, .int .i64 asked, .int .i64 got], .bool true, .bool true, .bool true, .pointer (some ⟨w.heap.size, 0, none⟩), .string k, .pointer (some ⟨w.heap.size, 1, none⟩), .string v, .string (k ++ ⟨#[10]⟩ ++ v), .pointer (some ⟨w.heap.size, 0, none⟩), .string k, .pointer (some ⟨w.heap.size, 1, none⟩), .string v, .string (k ++ ⟨#[10]⟩ ++ v), .bool true, _], []⟩ _)
  · intro u hu
    go_simp
  refine HT.take 25 (.bool true) rfl (by kernel_rfl) (fun _ _ _ h => h) (Or.inl ⟨by rfl, ?_⟩) (?_ : HT _ _ _ _ _ _ _ ⟨#[_, _, _, _, _, _, _, _, _, _, _, _, _, _, _, _, _, _, _, _, _, _, .slice A4 PB.length c4, .slice A5 PB.length c5, .bool true, .bool true, .int .i64 PE, .int .i64 PE, .bool true, .bool true, .bool true, .agg #[.string k, .string v, .int .i64 s, .string r, .int .i64 m, .slice A1 fs.length c1, .slice X1 body.length d1, .int .i64 asked, .int .i64 got], .agg #[.string k, .string v, .int .i64 s, .string r, .int .i64 m, .slice A fs.length cf, .slice X body.length cb, .int .i64 asked, .int .i64 got], .bool true, .bool true, .bool true, .pointer (some ⟨w.heap.size, 0, none⟩), .string k, .pointer (some ⟨w.heap.size, 1, none⟩), .string v, .string (k ++ ⟨#[10]⟩ ++ v), .pointer (some ⟨w.heap.size, 0, none⟩), .string k, .pointer (some ⟨w.heap.size, 1, none⟩), .string v, .string (k ++ ⟨#[10]⟩ ++ v), .bool true, .bool true], []⟩ _)
  · intro u hu
    go_simp
  refine HT.tail _ rfl rfl (by kernel_rfl) (fun hS => ?_)
  have HB9 := Lib.hid hS.2.2.2.2.2.2
  clear hS hS0
  go_wp2
  refine NoPanic.normal ?_
  go_wp2
  go_ret
  exact ⟨rfl, HB9.out⟩
end Go.Proofs.YtecopkcogobolaaDoor
