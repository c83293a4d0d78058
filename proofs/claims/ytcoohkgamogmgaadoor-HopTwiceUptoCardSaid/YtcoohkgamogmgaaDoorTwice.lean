/- The walk of the law HopTwice. Conditions: lists of bulk at most 2^20, texts of at most 2^20 bytes, a number of 64 bits, the library's table of powers of ten. -/
import Derived.Test.YtcoohkgamogmgaaDoorResp
import Derived.Test.YtcoohkgamogmgaaDoorPlain4
namespace Go.Proofs.YtcoohkgamogmgaaDoor
open Go.RowKit

theorem itoa_one : B (Lib.itoa 1) = ⟨#[49]⟩ := by
  rw [itoa_show 1 (by decide)]; rfl

set_option maxRecDepth 100000 in
set_option maxHeartbeats 1000000 in
theorem hopTwice_any (A : Option Addr) (n c : Nat) (fs : List FD) (s m : Int) (r : ByteArray) (B0 : Option Addr) (k d : Nat) (gs : List FD) (a b : ByteArray) (w : World)
    (hl : fs.length = n) (hf : F.bulk fs ≤ 1048576) (hx : Rd w A n 2 (fcells fs)) (hl2 : gs.length = k) (hf2 : F.bulk gs ≤ 1048576) (hx2 : Rd w B0 k 2 (fcells gs))
    (h0 : -9223372036854775808 ≤ m) (h1 : m ≤ 9223372036854775807) (ha : a.size ≤ 1048576) (hb : b.size ≤ 1048576) (ht : TabOk w) :
    Calls Tryd.prog 5 #[.slice A n c, .agg #[.int .i64 s, .string r, .int .i64 m, .slice B0 k d], .string a, .string b] w (RetB w true) := by
  have hn : n ≤ 1048576 := by have := F.len_le_bulk fs; omega
  have hk : k ≤ 1048576 := by have := F.len_le_bulk gs; omega
  have hs1 := F.bulk_strip fs
  have hs1l := F.len_le_bulk (F.strip fs)
  have hV := viaOf_size gs m a h0 h1
  have hbX : F.bulk (F.put (F.strip gs) F.via3 (F.viaOf gs m a)) ≤ 8388608 := by
    have := F.bulk_put (F.strip gs) F.via3 (F.viaOf gs m a)
    have := F.bulk_strip gs
    have e : F.via3.size = 3 := rfl
    omega
  have hu := F.joined_put (F.strip gs) F.via3 (F.viaOf gs m a)
  obtain ⟨X, hX⟩ : ∃ X, X = F.put (F.strip gs) F.via3 (F.viaOf gs m a) := ⟨_, rfl⟩
  have hhas := F.has_put (F.strip gs) F.via3 (F.viaOf gs m a)
  rw [← hX] at hbX hu hhas
  have hXl := F.len_le_bulk X
  have hV2 := viaOf_size X 1 b (by decide) (by decide)
  have hbY : F.bulk (F.put (F.strip X) F.via3 (F.viaOf X 1 b)) ≤ 67108864 := by
    have := F.bulk_put (F.strip X) F.via3 (F.viaOf X 1 b)
    have := F.bulk_strip X
    have e : F.via3.size = 3 := rfl
    omega
  have hv := F.joined_put (F.strip X) F.via3 (F.viaOf X 1 b)
  obtain ⟨Y, hY⟩ : ∃ Y, Y = F.put (F.strip X) F.via3 (F.viaOf X 1 b) := ⟨_, rfl⟩
  rw [← hY] at hbY hv
  have hYl := F.len_le_bulk Y
  have hfin : F.joined Y F.via3 = F.joined X F.via3 ++ ⟨#[44, 32, 49, 46, 49, 32]⟩ ++ b := by
    rw [hv]
    unfold F.viaOf
    rw [hhas, itoa_one]
    apply data_inj
    simp [ByteArray.data_append]
  have hJX : (F.joined X F.via3).size ≤ 16777216 := by have := F.joined_size X F.via3; omega
  have HA := Lib.hid (fun (w' : World) (hb : Below w.heap.size w w') => alive_any w' (ht.below hb))
  have H1 := Lib.hid (fun (w' : World) (hb : Below w.heap.size w w') => copyFields_any A n c fs w' (by omega) (hx.below hb))
  have H2 := Lib.hid (fun (A1 : Option Addr) (c1 : Nat) (w' : World) (hx : Rd w' A1 n 2 (fcells fs)) (hne : A1 = none → n = 0 ∧ c1 = 0) => strip_any A1 n c1 fs w' hl (by omega) hx hne)
  have H3 := Lib.hid (fun (A1 : Option Addr) (c1 : Nat) (w' : World) (hx : Rd w' A1 (F.strip fs).length 2 (fcells (F.strip fs))) => copyFields_any A1 (F.strip fs).length c1 (F.strip fs) w' (by omega) hx)
  have H4 := Lib.hid (fun (A1 : Option Addr) (c1 : Nat) (w' : World) (hx : Rd w' A1 (F.strip fs).length 2 (fcells (F.strip fs))) (hne : A1 = none → (F.strip fs).length = 0 ∧ c1 = 0) => strip_any A1 (F.strip fs).length c1 (F.strip fs) w' rfl (by omega) hx hne)
  rw [F.strip_strip] at H4
  have H5 := Lib.hid (fun (w' : World) (hb : Below w.heap.size w w') => copyResponse_any s m r B0 k d gs w' hl2 (by omega) (hx2.below hb))
  have H6 := Lib.hid (fun (A1 : Option Addr) (c1 : Nat) (w' : World) (hb : Below w.heap.size w w') (hx : Rd w' A1 gs.length 2 (fcells gs)) (hne : A1 = none → gs.length = 0 ∧ c1 = 0) => response_any s m r a A1 gs.length c1 gs w' rfl (by omega) hx hne h0 h1 (by omega) (ht.below hb))
  rw [← hX] at H6
  have H7 := Lib.hid (fun (A1 : Option Addr) (c1 : Nat) (w' : World) (hx : Rd w' A1 X.length 2 (fcells X)) => copyResponse_any s 1 r A1 X.length c1 X w' rfl (by omega) hx)
  have H8 := Lib.hid (fun (A1 : Option Addr) (c1 : Nat) (w' : World) (hb : Below w.heap.size w w') (hx : Rd w' A1 X.length 2 (fcells X)) (hne : A1 = none → X.length = 0 ∧ c1 = 0) => response_any s 1 r b A1 X.length c1 X w' rfl (by omega) hx hne (by decide) (by decide) (by omega) (ht.below hb))
  rw [← hY] at H8
  have H9 := Lib.hid (fun (A1 : Option Addr) (c1 : Nat) (w' : World) (hx : Rd w' A1 X.length 2 (fcells X)) => get_any A1 X.length c1 X F.via3 w' rfl (by omega) (by decide) hx)
  have H10 := Lib.hid (fun (A1 : Option Addr) (c1 : Nat) (w' : World) (hx : Rd w' A1 Y.length 2 (fcells Y)) => get_any A1 Y.length c1 Y F.via3 w' rfl (by omega) (by decide) hx)
  have HFIN := Lib.hid hfin
  obtain ⟨T, hT⟩ : ∃ T, T = F.strip fs := ⟨_, rfl⟩
  rw [← hT] at H2 H3 H4 hs1 hs1l
  obtain ⟨J, hJ⟩ : ∃ J, J = F.joined X F.via3 := ⟨_, rfl⟩
  obtain ⟨JY, hJY⟩ : ∃ JY, JY = F.joined Y F.via3 := ⟨_, rfl⟩
  rw [← hJ] at hJX H9 HFIN
  rw [← hJY] at H10 HFIN
  have HK := Lib.hid hl2
  have hTl : T.length ≤ 1048576 := by omega
  have hXl' : X.length ≤ 8388608 := by omega
  have hYl' : Y.length ≤ 67108864 := by omega
  clear hl hf hx hl2 hf2 hx2 ht h0 h1 ha hs1 hs1l hV hbX hu hX hhas hXl hV2 hbY hv hY hYl hfin hT hJ hJY
  go_enter Tryd.func5, Tryd.ntmps5
  go_wp2_with fail
  refine (HA.out _ ((Below.refl _ _).alloc (Nat.le_refl _) _)).mono ?_
  rintro e w1 ⟨rfl, hb1⟩
  have hB1 := below_new (Below.refl w.heap.size w) (Nat.le_refl _) hb1
  have HQ := Lib.hid ((newFour (w := w) (.int .i64 s) (.string r) (.int .i64 m) (.slice B0 k d) 28).below hb1)
  clear hb1 HA
  go_wp2_with fail
  refine (H1.out _ hB1).mono ?_
  rintro e w2 ⟨A2, c2, rfl, hr2, hb2⟩
  have hB2 := below_then hB1.size hB1 hb2
  have HQ := Lib.hid (HQ.out.below hb2)
  clear hB1 hb2 H1
  go_wp2_with fail
  refine (H2.out A2 c2 _ hr2.rd (fun h => hr2.nil h)).mono ?_
  rintro e w3 ⟨A3, c3, rfl, hr3, hb3⟩
  have hB3 := below_then hB2.size hB2 hb3
  have HQ := Lib.hid (HQ.out.below hb3)
  have HR3 := Lib.hid hr3.rd
  clear hB2 hb3 hr2 hr3 H2
  go_wp2_with fail
  refine (H3.out A3 c3 _ HR3.out).mono ?_
  rintro e w4 ⟨A4, c4, rfl, hr4, hb4⟩
  have hB4 := below_then hB3.size hB3 hb4
  have HQ := Lib.hid (HQ.out.below hb4)
  have HR3 := Lib.hid (HR3.out.below hb4)
  clear hB3 hb4 H3
  go_wp2_with fail
  refine (H4.out A4 c4 _ hr4.rd (fun h => hr4.nil h)).mono ?_
  rintro e w5 ⟨A5, c5, rfl, hr5, hb5⟩
  have hB5 := below_then hB4.size hB4 hb5
  have HQ := Lib.hid (HQ.out.below hb5)
  have HR3 := Lib.hid (HR3.out.below hb5)
  have HR5 := Lib.hid hr5.rd
  clear hB4 hb5 hr4 hr5 H4
  go_wp2_with fail
  refine (sameFields_any A5 A3 T.length T.length c5 c3 T T w5 (by omega) (by omega) HR5.out HR3.out rfl rfl).mono ?_
  rintro e w6 ⟨rfl, hb6⟩
  have hB6 := below_then hB5.size hB5 hb6
  have HQ := Lib.hid (HQ.out.below hb6)
  obtain ⟨x0, x1, x2, x3⟩ := HQ.out
  clear hB5 hb6 HR3 HR5
  go_wp2_with fail
  refine (H5.out _ hB6).mono ?_
  rintro e w7 ⟨A7, c7, rfl, hr7, hb7⟩
  have hB7 := below_then hB6.size hB6 hb7
  have HQ := Lib.hid (HQ.out.below hb7)
  clear hB6 hb7 H5 x0 x1 x2 x3
  go_wp2_with fail
  refine (H6.out A7 c7 _ hB7 hr7.rd (fun h => hr7.nil h)).mono ?_
  rintro e w8 ⟨A8, c8, rfl, hr8, hb8⟩
  have hB8 := below_then hB7.size hB7 hb8
  have HQ := Lib.hid (HQ.out.below hb8)
  have HR8 := Lib.hid hr8.rd
  have hz8 := hB8.size
  have HB8 := Lib.hid hB8
  clear hB7 hB8 hb8 hr7 hr8 H6
  go_wp2_with fail
  refine (H7.out A8 c8 _ (HR8.out.alloc _)).mono ?_
  rintro e w9 ⟨A9, c9, rfl, hr9, hb9⟩
  have hB9 := below_new HB8.out hz8 hb9
  have HP := Lib.hid ((newFour (w := w8) (.int .i64 s) (.string r) (.int .i64 1) (.slice A8 X.length c8) 28).below hb9)
  have HQ := Lib.hid ((HQ.out.below ((Below.refl _ _).alloc (Nat.le_refl _) _)).below hb9)
  have HR8 := Lib.hid (HR8.out.new hb9)
  clear hb9 HB8 H7
  go_wp2_with fail
  refine (H8.out A9 c9 _ hB9 hr9.rd (fun h => hr9.nil h)).mono ?_
  rintro e w10 ⟨A10, c10, rfl, hr10, hb10⟩
  have hB10 := below_then hB9.size hB9 hb10
  have HP := Lib.hid (HP.out.below hb10)
  have HQ := Lib.hid (HQ.out.below hb10)
  have HR8 := Lib.hid (HR8.out.below hb10)
  have HR10 := Lib.hid hr10.rd
  have hz10 := hB10.size
  have HB10 := Lib.hid hB10
  obtain ⟨p0, p1, p2, p3⟩ := HP.out.below ((Below.refl _ _).alloc (Nat.le_refl _) (.cells #[.int .i64 s, .string r, .int .i64 1, .slice A10 Y.length c10] 28))
  clear hB9 hB10 hb10 hr9 hr10 H8
  go_wp2_with fail
  refine (H9.out A8 c8 _ (HR8.out.alloc _)).mono ?_
  rintro e w11 ⟨rfl, hb11⟩
  have hB11 := below_new HB10.out hz10 hb11
  have HO := Lib.hid ((newFour (w := w10) (.int .i64 s) (.string r) (.int .i64 1) (.slice A10 Y.length c10) 28).below hb11)
  have HP := Lib.hid ((HP.out.below ((Below.refl _ _).alloc (Nat.le_refl _) _)).below hb11)
  have HQ := Lib.hid ((HQ.out.below ((Below.refl _ _).alloc (Nat.le_refl _) _)).below hb11)
  have HR10 := Lib.hid (HR10.out.new hb11)
  obtain ⟨o0, o1, o2, o3⟩ := HO.out
  clear hb11 HB10 H9 p0 p1 p2 p3
  go_wp2_with fail
  refine (H10.out A10 c10 _ HR10.out).mono ?_
  rintro e w12 ⟨rfl, hb12⟩
  have HB12 := Lib.hid (below_then hB11.size hB11 hb12)
  obtain ⟨p0, p1, p2, p3⟩ := HP.out.below hb12
  obtain ⟨q0, q1, q2, q3⟩ := HQ.out.below hb12
  clear hb12 H10 o0 o1 o2 o3 HP HQ HO HR8 HR10 hB11
  have hJJ : (JY.toList == (J ++ ⟨#[44, 32, 49, 46, 49, 32]⟩ ++ b).toList) = true := by rw [HFIN.out]; simp
  clear HFIN
  go_wp2
  go_ret
  exact ⟨ret_bool (by simp), HB12.out⟩
end Go.Proofs.YtcoohkgamogmgaaDoor
