/- The walk of the law HopBytes. Conditions: a list of bulk at most 2^20, texts and bodies of at most 2^20 bytes, numbers of 64 bits, the library's table of powers of ten. -/
import Derived.Test.YtcoohkgamogmgaaGreatDoorRBytes
namespace Go.Proofs.YtcoohkgamogmgaaGreatDoor
open Go.RowKit

theorem rd_frontB {w : World} {A : Option Addr} {xs ys : List UInt8} (h : Rd w A (xs.length + ys.length) 1 (bcells (xs ++ ys))) : Rd w A xs.length 1 (bcells xs) := by
  refine ⟨by simp [bcells], fun hn => ?_⟩
  obtain ⟨b, o, e, hb, hc⟩ := h.2 (by omega)
  refine ⟨b, o, e, hb, fun j u hu => hc j u ?_⟩
  have e2 : bcells (xs ++ ys) = bcells xs ++ bcells ys := by simp [bcells]
  rw [e2, List.getElem?_append_left]
  · exact hu
  · exact (List.getElem?_eq_some_iff.1 hu).1
theorem sameBB (A B : Option Addr) (n c d : Nat) (xs : List UInt8) (w : World) (hn : n ≤ 1099511627776) (hl : xs.length = n) (hx : Rd w A n 1 (bcells xs)) (hy : Rd w B n 1 (bcells xs)) :
    Calls Tryz.prog 9 #[.slice A n c, .slice B n d] w (RetB w true) := by
  have := sameBytes_any A B n n c d xs xs w hn hn hx hy hl hl
  simpa using this
theorem sameRR (m s : Int) (r : ByteArray) (A B : Option Addr) (c d : Nat) (xs : List FD) (w : World) (hn : xs.length ≤ 1099511627776) (hx : Rd w A xs.length 2 (fcells xs)) (hy : Rd w B xs.length 2 (fcells xs)) :
    Calls Tryz.prog 10 #[.agg #[.int .i64 s, .string r, .int .i64 m, .slice A xs.length c], .agg #[.int .i64 s, .string r, .int .i64 m, .slice B xs.length d]] w (RetB w true) := by
  have := sameResponse_any s m s m r r A B xs.length xs.length c d xs xs w hn hn hx hy rfl rfl
  simpa using this
/-- What the walk holds: the argument's block, the copy's, the copy's list, the body with its marks. -/
def BytesS (w : World) (b : Nat) (X X1 : Array Value) (A1 : Option Addr) (fs : List FD) (g : Nat) (body : List UInt8) (u : World) : Prop :=
  Blk u w.heap.size X 24 ∧ Blk u b X1 24 ∧ Rd u A1 fs.length 2 (fcells fs) ∧ Rd u (some ⟨g, 0, none⟩) (body.length + marks.length) 1 (bcells (body ++ marks)) ∧ Below w.heap.size w u
theorem BytesS.below {w u v : World} {b g : Nat} {X X1 : Array Value} {A1 : Option Addr} {fs : List FD} {body : List UInt8} (h : BytesS w b X X1 A1 fs g body u) (hb : Below u.heap.size u v) : BytesS w b X X1 A1 fs g body v :=
  ⟨h.1.below hb, h.2.1.below hb, h.2.2.1.below hb, h.2.2.2.1.below hb, below_then h.2.2.2.2.size h.2.2.2.2 hb⟩

set_option maxRecDepth 100000 in
set_option maxHeartbeats 2000000 in
theorem hopBytes_any (s : Int) (t : ByteArray) (m : Int) (A : Option Addr) (c : Nat) (fs : List FD) (B0 : Option Addr) (e0 : Nat) (body : List UInt8) (method : ByteArray) (last : Bool) (w : World) (hs0 : -9223372036854775808 ≤ s) (hs1 : s ≤ 9223372036854775807) (hts : t.size ≤ 1048576) (hf : F.bulk fs ≤ 1048576) (hx : Rd w A fs.length 2 (fcells fs))
    (hbl : body.length ≤ 1048576) (hbx : Rd w B0 body.length 1 (bcells body)) (ht : TabOk w) :
    Calls Tryz.prog 3 #[.agg #[.int .i64 s, .string t, .int .i64 m, .slice A fs.length c], .slice B0 body.length e0, .string method, .bool last] w (RetB w true) := by
  have hn : fs.length ≤ 1048576 := by have := F.len_le_bulk fs; omega
  have hpl := bytesB_len s t m fs (F.bareOf s method) last body
  have HA := Lib.hid (fun (u : World) (hb : Below w.heap.size w u) => alive_any u (ht.below hb))
  have H1 := Lib.hid (fun (u : World) (hb : Below w.heap.size w u) => copyResponse_any s m t A fs.length c fs u rfl (by omega) (hx.below hb))
  have HSP := Lib.hid (fun (u : World) (hb : Below w.heap.size w u) => spare_any B0 e0 body u (by omega) (hbx.below hb))
  have HAK := Lib.hid (fun (A1 : Option Addr) (c1 : Nat) (hn1 : A1 = none → fs.length = 0 ∧ c1 = 0) (C : Option Addr) (d : Nat) (u : World) (hb : Below w.heap.size w u) (hx1 : Rd u A1 fs.length 2 (fcells fs)) (hx2 : Rd u C body.length 1 (bcells body)) => bytes_any s m t A1 c1 fs C d body method last u hs0 hs1 hts hf hx1 hn1 hbl hx2 (ht.below hb))
  have HRK := Lib.hid (fun (u : World) (hb : Below w.heap.size w u) => refBytes_any s m t A c fs B0 e0 body method last u hts hf (hx.below hb) hbl (hbx.below hb))
  have HXX := Lib.hid (fun (u : World) (hb : Below w.heap.size w u) => hx.below hb)
  have HLM : Hid ((body ++ marks).length = body.length + 8) := by rw [List.length_append]; exact Lib.hid rfl
  have HMK : Hid (marks.length = 8) := Lib.hid rfl
  generalize F.bytesB s t m fs (F.bareOf s method) last body = PB at *
  generalize F.bytesE s t m fs (F.bareOf s method) last body.length = PE at *
  clear hx hbx ht hts hs0 hs1 hf
  go_enter Tryz.func3, Tryz.ntmps3
  go_wp2_with fail
  have HK0 := Lib.hid (Blk.new w #[.int .i64 s, .string t, .int .i64 m, .slice A fs.length c] 24)
  have HB0 := Lib.hid ((Below.refl w.heap.size w).alloc (Nat.le_refl _) (.cells #[.int .i64 s, .string t, .int .i64 m, .slice A fs.length c] 24))
  generalize w.alloc (.cells #[.int .i64 s, .string t, .int .i64 m, .slice A fs.length c] 24) = w0 at *
  refine (HA.out _ HB0.out).mono ?_
  rintro e w1 ⟨rfl, hb1⟩
  have HK1 := Lib.hid (HK0.out.below hb1)
  have HB1 := Lib.hid (below_then HB0.out.size HB0.out hb1)
  obtain ⟨x0, x1, x2, x3⟩ := HK1.out.cells4
  clear hb1 HK0 HB0 HA
  go_wp2_with fail
  refine (H1.out _ HB1.out).mono ?_
  rintro e w2 ⟨A1, c1, rfl, hr2, hb2⟩
  have HN1 := Lib.hid (fun h => hr2.nilB h)
  have HK2 := Lib.hid ((HK1.out.below hb2).alloc (.cells #[.int .i64 s, .string t, .int .i64 m, .slice A1 fs.length c1] 24))
  have HB2' := Lib.hid (below_then HB1.out.size HB1.out hb2)
  have HB2 := Lib.hid (HB2'.out.alloc HB2'.out.size (.cells #[.int .i64 s, .string t, .int .i64 m, .slice A1 fs.length c1] 24))
  have HQ2 := Lib.hid (Blk.new w2 #[.int .i64 s, .string t, .int .i64 m, .slice A1 fs.length c1] 24)
  have HR2 := Lib.hid (hr2.rd.alloc (.cells #[.int .i64 s, .string t, .int .i64 m, .slice A1 fs.length c1] 24))
  clear hb2 hr2 HK1 HB1 HB2' H1 x0 x1 x2 x3
  go_wp2_with fail
  generalize w2.heap.size = b5 at *
  generalize w2.alloc (.cells #[.int .i64 s, .string t, .int .i64 m, .slice A1 fs.length c1] 24) = w3 at *
  refine (HSP.out _ HB2.out).mono ?_
  rintro e w4 ⟨A3, c3, e3, hr4, hb4⟩
  rw [HLM.out] at e3 hr4
  subst e3
  have hc3 := hr4.2.1
  obtain ⟨g, rfl, _⟩ : ∃ g, A3 = some ⟨g, 0, none⟩ ∧ True := by
    rcases hr4.2.2 with h | ⟨g, h, _⟩
    · omega
    · exact ⟨g, h, trivial⟩
  have hr5 := hr4.rd
  rw [← HMK.out] at hr5
  have HS4 : Hid (BytesS w b5 #[.int .i64 s, .string t, .int .i64 m, .slice A fs.length c] #[.int .i64 s, .string t, .int .i64 m, .slice A1 fs.length c1] A1 fs g body w4) := Lib.hid ⟨HK2.out.below hb4, HQ2.out.below hb4, HR2.out.below hb4, hr5, below_then HB2.out.size HB2.out hb4⟩
  have hc4 : body.length ≤ c3 := by omega
  have hc5 : (body.length : Int) ≤ (c3 : Int) := by omega
  clear hb4 hr4 hr5 HK2 HQ2 HR2 HB2
  go_wp2
  have hS0 := HS4.out.below (Below.refl _ _).drew
  refine wp_region_noPanic ?_
  refine HT.begin (n := 12) (S := BytesS w b5 #[.int .i64 s, .string t, .int .i64 m, .slice A fs.length c] #[.int .i64 s, .string t, .int .i64 m, .slice A1 fs.length c1] A1 fs g body) (by kernel_rfl) hS0 ?_
  refine HT.take 0 (.agg #[.int .i64 s, .string t, .int .i64 m, .slice A1 fs.length c1]) rfl (by kernel_rfl) (fun _ _ _ h => h) (Or.inl ⟨by rfl, ?_⟩) (?_ : HT _ _ _ _ _ _ _ ⟨#[_, _, _, _, _, _, _, _, _, _, _, _, _, _, _, _, _, _, _, _, _, _, .agg #[.int .i64 s, .string t, .int .i64 m, .slice A1 fs.length c1], _, _, _, _, _, _, _, _, _, _, _, _, _, _, _, _, _, _, _, _, _, _, _, _, _, _, _, _, _, _, _, _, _, _, _, _], []⟩ _)
  · intro u hu
    obtain ⟨_, hq, _⟩ := hu
    obtain ⟨x0, x1, x2, x3⟩ := hq.cells4
    go_simp
  refine HT.take 1 (.slice (some ⟨g, 0, none⟩) (body.length + 8) c3) rfl (by kernel_rfl) (fun _ _ _ h => h) (Or.inl ⟨by rfl, ?_⟩) (?_ : HT _ _ _ _ _ _ _ ⟨#[_, _, _, _, _, _, _, _, _, _, _, _, _, _, _, _, _, _, _, _, _, _, .agg #[.int .i64 s, .string t, .int .i64 m, .slice A1 fs.length c1], .slice (some ⟨g, 0, none⟩) (body.length + 8) c3, _, _, _, _, _, _, _, _, _, _, _, _, _, _, _, _, _, _, _, _, _, _, _, _, _, _, _, _, _, _, _, _, _, _, _], []⟩ _)
  · intro u hu
    go_simp
  refine HT.take 2 (.slice B0 body.length e0) rfl (by kernel_rfl) (fun _ _ _ h => h) (Or.inl ⟨by rfl, ?_⟩) (?_ : HT _ _ _ _ _ _ _ ⟨#[_, _, _, _, _, _, _, _, _, _, _, _, _, _, _, _, _, _, _, _, _, _, .agg #[.int .i64 s, .string t, .int .i64 m, .slice A1 fs.length c1], .slice (some ⟨g, 0, none⟩) (body.length + 8) c3, .slice B0 body.length e0, _, _, _, _, _, _, _, _, _, _, _, _, _, _, _, _, _, _, _, _, _, _, _, _, _, _, _, _, _, _, _, _, _, _], []⟩ _)
  · intro u hu
    go_simp
  refine HT.take 3 (.int .i64 body.length) rfl (by kernel_rfl) (fun _ _ _ h => h) (Or.inl ⟨by rfl, ?_⟩) (?_ : HT _ _ _ _ _ _ _ ⟨#[_, _, _, _, _, _, _, _, _, _, _, _, _, _, _, _, _, _, _, _, _, _, .agg #[.int .i64 s, .string t, .int .i64 m, .slice A1 fs.length c1], .slice (some ⟨g, 0, none⟩) (body.length + 8) c3, .slice B0 body.length e0, .int .i64 body.length, _, _, _, _, _, _, _, _, _, _, _, _, _, _, _, _, _, _, _, _, _, _, _, _, _, _, _, _, _, _, _, _, _], []⟩ _)
  · intro u hu
    go_simp
  refine HT.take 4 (.slice (some ⟨g, 0, none⟩) body.length c3) rfl (by kernel_rfl) (fun _ _ _ h => h) (Or.inl ⟨by rfl, ?_⟩) (?_ : HT _ _ _ _ _ _ _ ⟨#[_, _, _, _, _, _, _, _, _, _, _, _, _, _, _, _, _, _, _, _, _, _, .agg #[.int .i64 s, .string t, .int .i64 m, .slice A1 fs.length c1], .slice (some ⟨g, 0, none⟩) (body.length + 8) c3, .slice B0 body.length e0, .int .i64 body.length, .slice (some ⟨g, 0, none⟩) body.length c3, _, _, _, _, _, _, _, _, _, _, _, _, _, _, _, _, _, _, _, _, _, _, _, _, _, _, _, _, _, _, _, _], []⟩ _)
  · intro u hu
    go_simp
  refine HT.take 5 (.string method) rfl (by kernel_rfl) (fun _ _ _ h => h) (Or.inl ⟨by rfl, ?_⟩) (?_ : HT _ _ _ _ _ _ _ ⟨#[_, _, _, _, _, _, _, _, _, _, _, _, _, _, _, _, _, _, _, _, _, _, .agg #[.int .i64 s, .string t, .int .i64 m, .slice A1 fs.length c1], .slice (some ⟨g, 0, none⟩) (body.length + 8) c3, .slice B0 body.length e0, .int .i64 body.length, .slice (some ⟨g, 0, none⟩) body.length c3, .string method, _, _, _, _, _, _, _, _, _, _, _, _, _, _, _, _, _, _, _, _, _, _, _, _, _, _, _, _, _, _, _], []⟩ _)
  · intro u hu
    go_simp
  refine HT.take 6 (.bool last) rfl (by kernel_rfl) (fun _ _ _ h => h) (Or.inl ⟨by rfl, ?_⟩) (?_ : HT _ _ _ _ _ _ _ ⟨#[_, _, _, _, _, _, _, _, _, _, _, _, _, _, _, _, _, _, _, _, _, _, .agg #[.int .i64 s, .string t, .int .i64 m, .slice A1 fs.length c1], .slice (some ⟨g, 0, none⟩) (body.length + 8) c3, .slice B0 body.length e0, .int .i64 body.length, .slice (some ⟨g, 0, none⟩) body.length c3, .string method, .bool last, _, _, _, _, _, _, _, _, _, _, _, _, _, _, _, _, _, _, _, _, _, _, _, _, _, _, _, _, _, _], []⟩ _)
  · intro u hu
    go_simp
  refine HT.step 7 rfl (by kernel_rfl) (fun hS K hK => ?_)
  go_simp
  refine (HAK.out A1 c1 HN1.out (some ⟨g, 0, none⟩) c3 _ hS.2.2.2.2 hS.2.2.1 (rd_frontB hS.2.2.2.1)).mono ?_
  rintro e w5 ⟨A4, c4, rfl, hr5, hb5⟩
  have HR4 := Lib.hid hr5.rd
  refine hK.out _ _ (hS.below hb5) ?_
  clear hK hS hb5 hr5 HAK HN1
  refine HT.take 8 (.tuple #[.slice A4 PB.length c4, .int .i64 PE]) rfl (by kernel_rfl) (fun _ _ _ h => h) (Or.inl ⟨by rfl, ?_⟩) (?_ : HT _ _ _ _ _ _ _ ⟨#[_, _, _, _, _, _, _, _, _, _, _, _, _, _, _, _, _, _, _, _, _, .tuple #[.slice A4 PB.length c4, .int .i64 PE], .agg #[.int .i64 s, .string t, .int .i64 m, .slice A1 fs.length c1], .slice (some ⟨g, 0, none⟩) (body.length + 8) c3, .slice B0 body.length e0, .int .i64 body.length, .slice (some ⟨g, 0, none⟩) body.length c3, .string method, .bool last, .tuple #[.slice A4 PB.length c4, .int .i64 PE], _, _, _, _, _, _, _, _, _, _, _, _, _, _, _, _, _, _, _, _, _, _, _, _, _, _, _, _, _], []⟩ _)
  · intro u hu
    go_simp
  refine HT.take 9 (.slice A4 PB.length c4) rfl (by kernel_rfl) (fun _ _ _ h => h) (Or.inl ⟨by rfl, ?_⟩) (?_ : HT _ _ _ _ _ _ _ ⟨#[_, _, _, _, _, _, _, _, _, _, _, _, _, _, _, _, _, _, _, _, _, .tuple #[.slice A4 PB.length c4, .int .i64 PE], .agg #[.int .i64 s, .string t, .int .i64 m, .slice A1 fs.length c1], .slice (some ⟨g, 0, none⟩) (body.length + 8) c3, .slice B0 body.length e0, .int .i64 body.length, .slice (some ⟨g, 0, none⟩) body.length c3, .string method, .bool last, .tuple #[.slice A4 PB.length c4, .int .i64 PE], .slice A4 PB.length c4, _, _, _, _, _, _, _, _, _, _, _, _, _, _, _, _, _, _, _, _, _, _, _, _, _, _, _, _], []⟩ _)
  · intro u hu
    go_simp
  refine HT.take 10 (.int .i64 PE) rfl (by kernel_rfl) (fun _ _ _ h => h) (Or.inl ⟨by rfl, ?_⟩) (?_ : HT _ _ _ _ _ _ _ ⟨#[_, _, _, _, _, _, _, _, _, _, _, _, _, _, _, _, _, _, _, _, _, .tuple #[.slice A4 PB.length c4, .int .i64 PE], .agg #[.int .i64 s, .string t, .int .i64 m, .slice A1 fs.length c1], .slice (some ⟨g, 0, none⟩) (body.length + 8) c3, .slice B0 body.length e0, .int .i64 body.length, .slice (some ⟨g, 0, none⟩) body.length c3, .string method, .bool last, .tuple #[.slice A4 PB.length c4, .int .i64 PE], .slice A4 PB.length c4, .int .i64 PE, _, _, _, _, _, _, _, _, _, _, _, _, _, _, _, _, _, _, _, _, _, _, _, _, _, _, _], []⟩ _)
  · intro u hu
    go_simp
  refine HT.take 11 (.slice A4 PB.length c4) rfl (by kernel_rfl) (fun _ _ _ h => h) (Or.inl ⟨by rfl, ?_⟩) (?_ : HT _ _ _ _ _ _ _ ⟨#[_, _, _, _, _, _, _, _, _, _, _, .slice A4 PB.length c4, _, _, _, _, _, _, _, _, _, .tuple #[.slice A4 PB.length c4, .int .i64 PE], .agg #[.int .i64 s, .string t, .int .i64 m, .slice A1 fs.length c1], .slice (some ⟨g, 0, none⟩) (body.length + 8) c3, .slice B0 body.length e0, .int .i64 body.length, .slice (some ⟨g, 0, none⟩) body.length c3, .string method, .bool last, .tuple #[.slice A4 PB.length c4, .int .i64 PE], .slice A4 PB.length c4, .int .i64 PE, _, _, _, _, _, _, _, _, _, _, _, _, _, _, _, _, _, _, _, _, _, _, _, _, _, _, _], []⟩ _)
  · intro u hu
    go_simp
  refine HT.tail _ rfl rfl (by kernel_rfl) (fun hS => ?_)
  have HS := Lib.hid hS
  clear hS hS0 HS4
  obtain ⟨y0, y1, y2, y3⟩ := HS.out.1.cells4
  go_wp2
  refine NoPanic.normal ?_
  go_wp2_with fail
  refine (HRK.out _ HS.out.2.2.2.2).mono ?_
  rintro e w6 ⟨A5, c5, rfl, hr6, hb6⟩
  have HS6 := Lib.hid (HS.out.below hb6)
  have HR5 := Lib.hid hr6.rd
  have HR46 := Lib.hid (HR4.out.below hb6)
  clear hb6 hr6 HS HR4 HRK y0 y1 y2 y3
  go_wp2_with fail
  refine (sameBB A4 A5 PB.length c4 c5 PB w6 (by omega) rfl HR46.out HR5.out).mono ?_
  rintro e w7 ⟨rfl, hb7⟩
  have HS7 := Lib.hid (HS6.out.below hb7)
  obtain ⟨y0, y1, y2, y3⟩ := HS7.out.1.cells4
  obtain ⟨z0, z1, z2, z3⟩ := HS7.out.2.1.cells4
  clear hb7 HS6 HR46 HR5
  go_wp2_with fail
  refine (sameRR m s t A1 A c1 c fs w7 (by omega) HS7.out.2.2.1 (HXX.out _ HS7.out.2.2.2.2)).mono ?_
  rintro e w8 ⟨rfl, hb8⟩
  have HS8 := Lib.hid (HS7.out.below hb8)
  clear hb8 HS7 y0 y1 y2 y3 z0 z1 z2 z3
  go_wp2_with fail
  refine (HSP.out _ HS8.out.2.2.2.2).mono ?_
  rintro e w9 ⟨A6, c6, e6, hr9, hb9⟩
  rw [HLM.out] at e6 hr9
  subst e6
  have HR9 := Lib.hid hr9.rd
  have HS9 := Lib.hid (HS8.out.below hb9)
  have HR8 : Hid (Rd w9 (some ⟨g, 0, none⟩) (body.length + 8) 1 (bcells (body ++ marks))) := by
    have := HS9.out.2.2.2.1
    rw [HMK.out] at this
    exact Lib.hid this
  clear hb9 hr9 HS8 HSP HXX
  go_wp2_with fail
  refine (sameBB (some ⟨g, 0, none⟩) A6 (body.length + 8) c3 c6 (body ++ marks) w9 (by omega) HLM.out HR8.out HR9.out).mono ?_
  rintro e w10 ⟨rfl, hb10⟩
  have HS10 := Lib.hid (HS9.out.below hb10)
  clear hb10 HS9 HR8 HR9
  go_wp2
  go_ret
  exact ⟨rfl, HS10.out.2.2.2.2⟩
end Go.Proofs.YtcoohkgamogmgaaGreatDoor
