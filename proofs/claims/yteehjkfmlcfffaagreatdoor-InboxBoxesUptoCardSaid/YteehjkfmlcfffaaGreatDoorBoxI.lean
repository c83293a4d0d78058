/- Two bytes read as a number; the walk of Next of a box of such (printed by gen/boxint.py). Conditions: at most 2^28 bytes in the box. -/
import Derived.Test.YteehjkfmlcfffaaGreatDoorBox
import Derived.Test.YteehjkfmlcfffaaGreatDoorPieceP
import Derived.Test.YteehjkfmlcfffaaGreatDoorChunkAA
import Derived.Test.YteehjkfmlcfffaaGreatDoorBlockP
namespace Go.Proofs.YteehjkfmlcfffaaGreatDoor
open Go.RowKit

namespace M
structure PX where
  v : Int
  n : Int
  e : Int
def pair : List UInt8 → PX
  | x :: y :: _ => if x = 255 ∧ y = 255 then ⟨0, 0, 80⟩ else ⟨(x.toNat : Int) * 256 + (y.toNat : Int), 2, 0⟩
  | _ => ⟨0, 0, 0⟩
structure NI where
  v : Int
  ok : Bool
  e : Int
  h : List UInt8
  bad : Int
def nextI (held : List UInt8) (bad : Int) : NI :=
  if bad ≠ 0 then ⟨0, false, bad, held, bad⟩
  else if (pair held).e ≠ 0 then ⟨0, false, (pair held).e, held, (pair held).e⟩
  else if (pair held).n = 0 then ⟨0, false, 0, held, 0⟩
  else ⟨(pair held).v, true, 0, held.drop 2, 0⟩
theorem pair_short {l : List UInt8} (h : l.length < 2) : pair l = ⟨0, 0, 0⟩ := by
  match l, h with
  | [], _ => rfl
  | [_], _ => rfl
theorem pair_long {l : List UInt8} (h : ¬ l.length < 2) : ∃ x y r, l = x :: y :: r := by
  match l, h with
  | [], h => exact absurd (by decide) h
  | [_], h => exact absurd (by simp) h
  | x :: y :: r, _ => exact ⟨x, y, r, rfl⟩
end M
/-- Three numbers answered. -/
def RetPair (w : World) (x : M.PX) (e : Ending) (w' : World) : Prop := e = .returned (.tuple #[.int .i64 x.v, .int .i64 x.n, .int .i64 x.e]) ∧ Below w.heap.size w w'
set_option maxHeartbeats 2000000 in
set_option maxRecDepth 100000 in
theorem pair_any (A : Option Addr) (n c : Nat) (bs : List UInt8) (w : World) (hl : bs.length = n) (hx : Rd w A n 1 (bcells bs)) :
    Calls Tryz.prog 28 #[.slice A n c] w (RetPair w (M.pair bs)) := by
  subst hl
  by_cases hs : bs.length < 2
  · rw [M.pair_short hs]
    have hsi : (bs.length : Int) < 2 := by omega
    generalize bs.length = n at *
    clear hx
    go_enter Tryz.func28, Tryz.ntmps28
    go_wp2
    go_ret3
    exact ⟨rfl, Below.refl _ _⟩
  · obtain ⟨x, y, r, rfl⟩ := M.pair_long hs
    obtain ⟨b, o, rfl, hb, hc⟩ := hx.2 (by omega)
    have c0 : w.cell? ⟨b, o, none⟩ = some (.int .u8 x.toNat) := hc 0 _ rfl
    have c1 : w.cell? ⟨b, o + 1, none⟩ = some (.int .u8 y.toNat) := hc 1 _ rfl
    have hsi : ¬ ((x :: y :: r).length : Int) < 2 := by omega
    have hn2 : 2 ≤ (x :: y :: r).length := by omega
    generalize (x :: y :: r).length = n at *
    have hxx := x.toNat_lt
    have hyy := y.toNat_lt
    clear hx hc hs
    by_cases h255 : x = 255 ∧ y = 255
    · obtain ⟨rfl, rfl⟩ := h255
      replace c0 : w.cell? ⟨b, o, none⟩ = some (.int .u8 255) := c0
      replace c1 : w.cell? ⟨b, o + 1, none⟩ = some (.int .u8 255) := c1
      go_enter Tryz.func28, Tryz.ntmps28
      go_wp2
      go_ret3
      exact ⟨rfl, Below.refl _ _⟩
    · have hp : M.pair (x :: y :: r) = ⟨(x.toNat : Int) * 256 + (y.toNat : Int), 2, 0⟩ := if_neg h255
      rw [hp]
      have HV : IntKind.i64.wrap (IntKind.i64.wrap ((x.toNat : Int) * 256) + (y.toNat : Int)) = (x.toNat : Int) * 256 + (y.toNat : Int) := by
        have h1 : IntKind.i64.wrap ((x.toNat : Int) * 256) = (x.toNat : Int) * 256 := IntWalk.i64_in _ (by omega)
        rw [h1]
        exact IntWalk.i64_in _ (by omega)
      by_cases hx1 : x = 255
      · have hy1 : ((y.toNat : Int) == 255) = false := beq_eq_false_iff_ne.2 (fun h => h255 ⟨hx1, UInt8.toNat_inj.1 (by show y.toNat = 255; omega)⟩)
        have hx2 : ((x.toNat : Int) == 255) = true := by rw [hx1]; rfl
        go_enter Tryz.func28, Tryz.ntmps28
        go_upto_region 5 with fail
        go_region
        go_wp2
        go_ret3
        exact ⟨rfl, (Below.refl _ _).drew⟩
      · have hx2 : ((x.toNat : Int) == 255) = false := beq_eq_false_iff_ne.2 (fun h => hx1 (UInt8.toNat_inj.1 (by show x.toNat = 255; omega)))
        go_enter Tryz.func28, Tryz.ntmps28
        go_upto_region 5 with fail
        go_region
        go_wp2
        go_ret3
        exact ⟨rfl, (Below.refl _ _).drew⟩

/-- What Next answers. -/
def RetNextI (B b : Nat) (A : Option Addr) (c : Nat) (w : World) (x : M.NI) (e : Ending) (w' : World) : Prop :=
  e = .returned (.tuple #[.int .i64 x.v, .bool x.ok, .int .i64 x.e]) ∧ (∃ A' c', BoxI B b (.func (.func 28) #[] #[]) x.h x.bad A' c' w' ∧ ∀ k, ownB A' c' = some k → ownB A c = some k) ∧ KeptB w.heap.size b w w'
theorem own_add {A : Option Addr} {c j k : Nat} (h : ownB (addA A c j) (c - j) = some k) : ownB A c = some k := by
  unfold ownB at *
  by_cases hc : c - j = 0
  · rw [if_pos hc] at h
    cases h
  · rw [if_neg hc] at h
    rw [if_neg (by omega), ← h]
    unfold addA
    rw [if_neg (by omega)]
    cases A with
    | none => rfl
    | some x =>
      show some x.block = some (x.add j).block
      unfold Addr.add
      split <;> rfl
set_option maxHeartbeats 8000000 in
set_option maxRecDepth 100000 in
theorem nextI_any (B b : Nat) (held : List UInt8) (bad : Int) (A : Option Addr) (c : Nat) (w : World) (h : BoxI B b (.func (.func 28) #[] #[]) held bad A c w) (hl : held.length ≤ 268435456) :
    Calls Tryz.prog 31 #[.pointer (some ⟨b, 0, none⟩)] w (RetNextI B b A c w (M.nextI held bad)) := by
  have HBX := Lib.hid h
  have HCL := Lib.hid (fun (u : World) (hu : Below w.heap.size w u) => slicesClone_any A held.length c held u (by omega) rfl h.row.nilO (h.below hu).row.rd)
  have HRQ := Lib.hid (fun (A8 : Option Addr) (c8 : Nat) (b0 : Nat) (u : World) (hr : CRow u b0 A8 held.length c8 held) => pair_any A8 held.length c8 held u rfl hr.rd)
  have hbB := h.lt
  have hBw := h.le
  obtain ⟨G, hG⟩ : ∃ G, M.nextI held bad = G := ⟨_, rfl⟩
  have HG : Hid (G = if bad ≠ 0 then ⟨0, false, bad, held, bad⟩ else if (M.pair held).e ≠ 0 then ⟨0, false, (M.pair held).e, held, (M.pair held).e⟩ else if (M.pair held).n = 0 then ⟨0, false, 0, held, 0⟩ else ⟨(M.pair held).v, true, 0, held.drop 2, 0⟩) := Lib.hid (by rw [← hG]; rfl)
  rw [hG]
  have HPL : Hid (2 ≤ held.length ∨ (M.pair held) = ⟨0, 0, 0⟩) := Lib.hid (by
    by_cases h : held.length < 2
    · exact .inr (M.pair_short h)
    · exact .inl (by omega))
  have HPN : Hid ((M.pair held).e = 0 → (M.pair held).n ≠ 0 → (M.pair held).n = 2) := Lib.hid (by
    unfold M.pair
    split
    · split
      · exact fun h => absurd h (by decide)
      · exact fun _ _ => rfl
    · exact fun _ h => absurd rfl h)
  generalize M.pair held = Q at *
  clear h hG
  obtain ⟨y0, y1, y2⟩ := HBX.out.blk.cells3
  have f2 := HBX.out.blk.free 2
  go_enter Tryz.func31, Tryz.ntmps31
  by_cases hbad : bad = 0
  rotate_left
  · have HF := Lib.hid (HG.out.trans (if_pos hbad))
    have hbb : (bad != 0) = true := by rw [bne_iff_ne]; exact hbad
    clear HG HCL HRQ HPL HPN
    go_upto_region 3 with fail
    go_region
    go_wp2
    go_ret3
    exact ⟨by rw [HF.out]; rfl, by rw [HF.out]; exact ⟨A, c, HBX.out.below (Below.refl _ _).drew, fun _ h => h⟩, KeptB.of_below (Below.refl _ _).drew (Nat.le_refl _)⟩
  subst hbad
  have HG2 := Lib.hid (HG.out.trans (if_neg (fun h => h rfl)))
  clear HG
  go_upto_region 4 with fail
  clear y0 y1 y2 f2
  have hS0 : Below w.heap.size w w.drew := (Below.refl _ _).drew
  refine wp_region_noPanic ?_
  refine HT.begin (n := 16) (S := (fun u => Below w.heap.size w u)) (by kernel_rfl) hS0 ?_
  generalize w.drew = wd at *
  refine HT.take 0 (.pointer (some ⟨b, 0, none⟩)) rfl (by kernel_rfl) (fun _ _ _ h => h) (Or.inl ⟨by rfl, ?_⟩) (?_ : HT _ _ _ _ _ _ _ ⟨#[_, _, _, _, _, _, _, _, _, _, _, _, _, _, _, _, _, _, _, _, .pointer (some ⟨b, 0, none⟩), _, _, _, _, _, _, _, _, _, _, _, _, _, _, _, _, _, _, _, _, _, _, _, _, _, _, _, _, _, _, _, _, _, _, _, _, _, _, _], []⟩ _)
  · intro u hu
    go_simp
  refine HT.take 1 (.pointer (some ⟨b, 0, none⟩)) rfl (by kernel_rfl) (fun _ _ _ h => h) (Or.inl ⟨by rfl, ?_⟩) (?_ : HT _ _ _ _ _ _ _ ⟨#[_, _, _, _, _, _, _, _, _, _, _, _, _, _, _, _, _, _, _, _, .pointer (some ⟨b, 0, none⟩), .pointer (some ⟨b, 0, none⟩), _, _, _, _, _, _, _, _, _, _, _, _, _, _, _, _, _, _, _, _, _, _, _, _, _, _, _, _, _, _, _, _, _, _, _, _, _, _], []⟩ _)
  · intro u hu
    go_simp
  refine HT.take 2 (.pointer (some ⟨b, 0, none⟩)) rfl (by kernel_rfl) (fun _ _ _ h => h) (Or.inl ⟨by rfl, ?_⟩) (?_ : HT _ _ _ _ _ _ _ ⟨#[_, _, _, _, _, _, _, _, _, _, _, _, _, _, _, _, _, _, _, _, .pointer (some ⟨b, 0, none⟩), .pointer (some ⟨b, 0, none⟩), .pointer (some ⟨b, 0, none⟩), _, _, _, _, _, _, _, _, _, _, _, _, _, _, _, _, _, _, _, _, _, _, _, _, _, _, _, _, _, _, _, _, _, _, _, _, _], []⟩ _)
  · intro u hu
    go_simp
  refine HT.take 3 (.func (.func 28) #[] #[]) rfl (by kernel_rfl) (fun _ _ _ h => h) (Or.inl ⟨by rfl, ?_⟩) (?_ : HT _ _ _ _ _ _ _ ⟨#[_, _, _, _, _, _, _, _, _, _, _, _, _, _, _, _, _, _, _, _, .pointer (some ⟨b, 0, none⟩), .pointer (some ⟨b, 0, none⟩), .pointer (some ⟨b, 0, none⟩), .func (.func 28) #[] #[], _, _, _, _, _, _, _, _, _, _, _, _, _, _, _, _, _, _, _, _, _, _, _, _, _, _, _, _, _, _, _, _, _, _, _, _], []⟩ _)
  · intro u hu
    obtain ⟨y0, y1, y2⟩ := (HBX.out.below hu).blk.cells3
    go_simp
  refine HT.take 4 (.pointer (some ⟨b, 0, none⟩)) rfl (by kernel_rfl) (fun _ _ _ h => h) (Or.inl ⟨by rfl, ?_⟩) (?_ : HT _ _ _ _ _ _ _ ⟨#[_, _, _, _, _, _, _, _, _, _, _, _, _, _, _, _, _, _, _, _, .pointer (some ⟨b, 0, none⟩), .pointer (some ⟨b, 0, none⟩), .pointer (some ⟨b, 0, none⟩), .func (.func 28) #[] #[], .pointer (some ⟨b, 0, none⟩), _, _, _, _, _, _, _, _, _, _, _, _, _, _, _, _, _, _, _, _, _, _, _, _, _, _, _, _, _, _, _, _, _, _, _], []⟩ _)
  · intro u hu
    go_simp
  refine HT.take 5 (.pointer (some ⟨b, 0, none⟩)) rfl (by kernel_rfl) (fun _ _ _ h => h) (Or.inl ⟨by rfl, ?_⟩) (?_ : HT _ _ _ _ _ _ _ ⟨#[_, _, _, _, _, _, _, _, _, _, _, _, _, _, _, _, _, _, _, _, .pointer (some ⟨b, 0, none⟩), .pointer (some ⟨b, 0, none⟩), .pointer (some ⟨b, 0, none⟩), .func (.func 28) #[] #[], .pointer (some ⟨b, 0, none⟩), .pointer (some ⟨b, 0, none⟩), _, _, _, _, _, _, _, _, _, _, _, _, _, _, _, _, _, _, _, _, _, _, _, _, _, _, _, _, _, _, _, _, _, _], []⟩ _)
  · intro u hu
    go_simp
  refine HT.take 6 (.pointer (some ⟨b, 1, none⟩)) rfl (by kernel_rfl) (fun _ _ _ h => h) (Or.inl ⟨by rfl, ?_⟩) (?_ : HT _ _ _ _ _ _ _ ⟨#[_, _, _, _, _, _, _, _, _, _, _, _, _, _, _, _, _, _, _, _, .pointer (some ⟨b, 0, none⟩), .pointer (some ⟨b, 0, none⟩), .pointer (some ⟨b, 0, none⟩), .func (.func 28) #[] #[], .pointer (some ⟨b, 0, none⟩), .pointer (some ⟨b, 0, none⟩), .pointer (some ⟨b, 1, none⟩), _, _, _, _, _, _, _, _, _, _, _, _, _, _, _, _, _, _, _, _, _, _, _, _, _, _, _, _, _, _, _, _, _], []⟩ _)
  · intro u hu
    go_simp
  refine HT.take 7 (.slice A held.length c) rfl (by kernel_rfl) (fun _ _ _ h => h) (Or.inl ⟨by rfl, ?_⟩) (?_ : HT _ _ _ _ _ _ _ ⟨#[_, _, _, _, _, _, _, _, _, _, _, _, _, _, _, _, _, _, _, _, .pointer (some ⟨b, 0, none⟩), .pointer (some ⟨b, 0, none⟩), .pointer (some ⟨b, 0, none⟩), .func (.func 28) #[] #[], .pointer (some ⟨b, 0, none⟩), .pointer (some ⟨b, 0, none⟩), .pointer (some ⟨b, 1, none⟩), .slice A held.length c, _, _, _, _, _, _, _, _, _, _, _, _, _, _, _, _, _, _, _, _, _, _, _, _, _, _, _, _, _, _, _, _], []⟩ _)
  · intro u hu
    obtain ⟨y0, y1, y2⟩ := (HBX.out.below hu).blk.cells3
    go_simp
  refine HT.step 8 rfl (by kernel_rfl) (fun hS K hK => ?_)
  go_simp
  refine (HCL.out _ hS).mono ?_
  rintro e w5 ⟨A8, c8, rfl, hr, hb⟩
  refine hK.out _ _ (below_then hS.size hS hb) ?_
  have HR8 := Lib.hid hr
  clear hK hS hb hr HCL
  refine HT.step 9 rfl (by kernel_rfl) (fun hS K hK => ?_)
  go_simp
  refine (HRQ.out A8 c8 _ _ HR8.out).mono ?_
  rintro e w6 ⟨rfl, hb⟩
  refine hK.out _ _ (below_then hS.size hS hb) ?_
  clear hK hS hb HRQ HR8
  refine HT.take 10 (.tuple #[.int .i64 Q.v, .int .i64 Q.n, .int .i64 Q.e]) rfl (by kernel_rfl) (fun _ _ _ h => h) (Or.inl ⟨by rfl, ?_⟩) (?_ : HT _ _ _ _ _ _ _ ⟨#[_, _, _, _, _, _, _, _, _, _, _, _, _, _, _, _, _, _, _, .tuple #[.int .i64 Q.v, .int .i64 Q.n, .int .i64 Q.e], .pointer (some ⟨b, 0, none⟩), .pointer (some ⟨b, 0, none⟩), .pointer (some ⟨b, 0, none⟩), .func (.func 28) #[] #[], .pointer (some ⟨b, 0, none⟩), .pointer (some ⟨b, 0, none⟩), .pointer (some ⟨b, 1, none⟩), .slice A held.length c, .slice A8 held.length c8, .tuple #[.int .i64 Q.v, .int .i64 Q.n, .int .i64 Q.e], _, _, _, _, _, _, _, _, _, _, _, _, _, _, _, _, _, _, _, _, _, _, _, _, _, _, _, _, _, _], []⟩ _)
  · intro u hu
    go_simp
  refine HT.take 11 (.int .i64 Q.v) rfl (by kernel_rfl) (fun _ _ _ h => h) (Or.inl ⟨by rfl, ?_⟩) (?_ : HT _ _ _ _ _ _ _ ⟨#[_, _, _, _, _, _, _, _, _, _, _, _, _, _, _, _, _, _, _, .tuple #[.int .i64 Q.v, .int .i64 Q.n, .int .i64 Q.e], .pointer (some ⟨b, 0, none⟩), .pointer (some ⟨b, 0, none⟩), .pointer (some ⟨b, 0, none⟩), .func (.func 28) #[] #[], .pointer (some ⟨b, 0, none⟩), .pointer (some ⟨b, 0, none⟩), .pointer (some ⟨b, 1, none⟩), .slice A held.length c, .slice A8 held.length c8, .tuple #[.int .i64 Q.v, .int .i64 Q.n, .int .i64 Q.e], .int .i64 Q.v, _, _, _, _, _, _, _, _, _, _, _, _, _, _, _, _, _, _, _, _, _, _, _, _, _, _, _, _, _], []⟩ _)
  · intro u hu
    go_simp
  refine HT.take 12 (.int .i64 Q.n) rfl (by kernel_rfl) (fun _ _ _ h => h) (Or.inl ⟨by rfl, ?_⟩) (?_ : HT _ _ _ _ _ _ _ ⟨#[_, _, _, _, _, _, _, _, _, _, _, _, _, _, _, _, _, _, _, .tuple #[.int .i64 Q.v, .int .i64 Q.n, .int .i64 Q.e], .pointer (some ⟨b, 0, none⟩), .pointer (some ⟨b, 0, none⟩), .pointer (some ⟨b, 0, none⟩), .func (.func 28) #[] #[], .pointer (some ⟨b, 0, none⟩), .pointer (some ⟨b, 0, none⟩), .pointer (some ⟨b, 1, none⟩), .slice A held.length c, .slice A8 held.length c8, .tuple #[.int .i64 Q.v, .int .i64 Q.n, .int .i64 Q.e], .int .i64 Q.v, .int .i64 Q.n, _, _, _, _, _, _, _, _, _, _, _, _, _, _, _, _, _, _, _, _, _, _, _, _, _, _, _, _], []⟩ _)
  · intro u hu
    go_simp
  refine HT.take 13 (.int .i64 Q.e) rfl (by kernel_rfl) (fun _ _ _ h => h) (Or.inl ⟨by rfl, ?_⟩) (?_ : HT _ _ _ _ _ _ _ ⟨#[_, _, _, _, _, _, _, _, _, _, _, _, _, _, _, _, _, _, _, .tuple #[.int .i64 Q.v, .int .i64 Q.n, .int .i64 Q.e], .pointer (some ⟨b, 0, none⟩), .pointer (some ⟨b, 0, none⟩), .pointer (some ⟨b, 0, none⟩), .func (.func 28) #[] #[], .pointer (some ⟨b, 0, none⟩), .pointer (some ⟨b, 0, none⟩), .pointer (some ⟨b, 1, none⟩), .slice A held.length c, .slice A8 held.length c8, .tuple #[.int .i64 Q.v, .int .i64 Q.n, .int .i64 Q.e], .int .i64 Q.v, .int .i64 Q.n, .int .i64 Q.e, _, _, _, _, _, _, _, _, _, _, _, _, _, _, _, _, _, _, _, _, _, _, _, _, _, _, _], []⟩ _)
  · intro u hu
    go_simp
  refine HT.take 14 (.int .i64 Q.v) rfl (by kernel_rfl) (fun _ _ _ h => h) (Or.inl ⟨by rfl, ?_⟩) (?_ : HT _ _ _ _ _ _ _ ⟨#[_, _, _, _, _, _, .int .i64 Q.v, _, _, _, _, _, _, _, _, _, _, _, _, .tuple #[.int .i64 Q.v, .int .i64 Q.n, .int .i64 Q.e], .pointer (some ⟨b, 0, none⟩), .pointer (some ⟨b, 0, none⟩), .pointer (some ⟨b, 0, none⟩), .func (.func 28) #[] #[], .pointer (some ⟨b, 0, none⟩), .pointer (some ⟨b, 0, none⟩), .pointer (some ⟨b, 1, none⟩), .slice A held.length c, .slice A8 held.length c8, .tuple #[.int .i64 Q.v, .int .i64 Q.n, .int .i64 Q.e], .int .i64 Q.v, .int .i64 Q.n, .int .i64 Q.e, _, _, _, _, _, _, _, _, _, _, _, _, _, _, _, _, _, _, _, _, _, _, _, _, _, _, _], []⟩ _)
  · intro u hu
    go_simp
  refine HT.take 15 (.int .i64 Q.n) rfl (by kernel_rfl) (fun _ _ _ h => h) (Or.inl ⟨by rfl, ?_⟩) (?_ : HT _ _ _ _ _ _ _ ⟨#[_, _, _, _, _, _, .int .i64 Q.v, .int .i64 Q.n, _, _, _, _, _, _, _, _, _, _, _, .tuple #[.int .i64 Q.v, .int .i64 Q.n, .int .i64 Q.e], .pointer (some ⟨b, 0, none⟩), .pointer (some ⟨b, 0, none⟩), .pointer (some ⟨b, 0, none⟩), .func (.func 28) #[] #[], .pointer (some ⟨b, 0, none⟩), .pointer (some ⟨b, 0, none⟩), .pointer (some ⟨b, 1, none⟩), .slice A held.length c, .slice A8 held.length c8, .tuple #[.int .i64 Q.v, .int .i64 Q.n, .int .i64 Q.e], .int .i64 Q.v, .int .i64 Q.n, .int .i64 Q.e, _, _, _, _, _, _, _, _, _, _, _, _, _, _, _, _, _, _, _, _, _, _, _, _, _, _, _], []⟩ _)
  · intro u hu
    go_simp
  refine HT.tail _ rfl rfl (by kernel_rfl) (fun hS => ?_)
  have HS := Lib.hid hS
  clear hS hS0
  go_wp2_with fail
  refine NoPanic.normal ?_
  have HS6 := HS
  have HX6 := Lib.hid (HBX.out.below HS.out)
  obtain ⟨y0, y1, y2⟩ := HX6.out.blk.cells3
  have f1 := HX6.out.blk.free 1
  have f2 := HX6.out.blk.free 2
  by_cases hE : Q.e = 0
  rotate_left
  · have HF := Lib.hid (HG2.out.trans (if_pos hE))
    have hEb : (Q.e != 0) = true := by rw [bne_iff_ne]; exact hE
    clear HG2 HPL HPN
    go_wp2
    go_ret3
    have hkf : KeptB w.heap.size b w (w6.setCell ⟨b, 2, none⟩ (.int .i64 Q.e)) := (KeptB.of_low HS.out (Nat.le_refl _)).set 2 _
    refine ⟨by rw [HF.out]; rfl, ?_, hkf⟩
    rw [HF.out]
    exact ⟨A, c, HBX.out.turned hkf (HX6.out.blk.set 2 _) HBX.out.row, fun _ h => h⟩
  have hEb : (Q.e != 0) = false := by rw [hE]; rfl
  have HG3 := Lib.hid (HG2.out.trans (if_neg (fun h => h hE)))
  clear HG2
  by_cases hN : Q.n = 0
  · have HF := Lib.hid (HG3.out.trans (if_pos hN))
    have hNb : Q.n ≤ 0 := by omega
    clear HG3 HPL HPN
    go_wp2
    go_ret3
    refine ⟨by rw [HF.out]; rfl, ?_, KeptB.of_low HS.out (Nat.le_refl _)⟩
    rw [HF.out]
    exact ⟨A, c, HX6.out, fun _ h => h⟩
  have HF := Lib.hid (HG3.out.trans (if_neg hN))
  have hN2 := HPN.out hE hN
  have hl2 : 2 ≤ held.length := by
    rcases HPL.out with h | h
    · exact h
    · rw [h] at hN
      exact absurd rfl hN
  have hcl : held.length ≤ c := HBX.out.row.2.1
  clear HG3 HPL HPN hN hE
  rw [hN2]
  obtain ⟨ag, ao, rfl⟩ : ∃ (ag ao : Nat), A = some ⟨ag, ao, none⟩ := by
    rcases HBX.out.row.2.2 with h | ⟨g, o, h, _⟩
    · omega
    · exact ⟨g, o, h⟩
  go_upto_region 10 with fail
  have hS0 : Blk w6.drew b #[(.func (.func 28) #[] #[]), .slice (some ⟨ag, ao, none⟩) held.length c, .int .i64 0] 146 := HX6.out.blk
  clear y0 y1 y2 f1 f2
  refine wp_region_noPanic ?_
  refine HT.begin (n := 13) (S := (fun u => Blk u b #[(.func (.func 28) #[] #[]), .slice (some ⟨ag, ao, none⟩) held.length c, .int .i64 0] 146)) (by kernel_rfl) hS0 ?_
  generalize hwd : w6.drew = wd2 at *
  refine HT.take 0 (.pointer (some ⟨b, 0, none⟩)) rfl (by kernel_rfl) (fun _ _ _ h => h) (Or.inl ⟨by rfl, ?_⟩) (?_ : HT _ _ _ _ _ _ _ ⟨#[_, _, _, _, _, _, _, _, _, _, _, _, _, _, _, _, _, _, _, _, _, _, _, _, _, _, _, _, _, _, _, _, _, _, _, _, _, _, _, _, _, _, _, _, .pointer (some ⟨b, 0, none⟩), _, _, _, _, _, _, _, _, _, _, _, _, _, _, _], []⟩ _)
  · intro u hu
    go_simp
  refine HT.take 1 (.pointer (some ⟨b, 0, none⟩)) rfl (by kernel_rfl) (fun _ _ _ h => h) (Or.inl ⟨by rfl, ?_⟩) (?_ : HT _ _ _ _ _ _ _ ⟨#[_, _, _, _, _, _, _, _, _, _, _, _, _, _, _, _, _, _, _, _, _, _, _, _, _, _, _, _, _, _, _, _, _, _, _, _, _, _, _, _, _, _, _, _, .pointer (some ⟨b, 0, none⟩), .pointer (some ⟨b, 0, none⟩), _, _, _, _, _, _, _, _, _, _, _, _, _, _], []⟩ _)
  · intro u hu
    go_simp
  refine HT.take 2 (.pointer (some ⟨b, 0, none⟩)) rfl (by kernel_rfl) (fun _ _ _ h => h) (Or.inl ⟨by rfl, ?_⟩) (?_ : HT _ _ _ _ _ _ _ ⟨#[_, _, _, _, _, _, _, _, _, _, _, _, _, _, _, _, _, _, _, _, _, _, _, _, _, _, _, _, _, _, _, _, _, _, _, _, _, _, _, _, _, _, _, _, .pointer (some ⟨b, 0, none⟩), .pointer (some ⟨b, 0, none⟩), .pointer (some ⟨b, 0, none⟩), _, _, _, _, _, _, _, _, _, _, _, _, _], []⟩ _)
  · intro u hu
    go_simp
  refine HT.take 3 (.pointer (some ⟨b, 1, none⟩)) rfl (by kernel_rfl) (fun _ _ _ h => h) (Or.inl ⟨by rfl, ?_⟩) (?_ : HT _ _ _ _ _ _ _ ⟨#[_, _, _, _, _, _, _, _, _, _, _, _, _, _, _, _, _, _, _, _, _, _, _, _, _, _, _, _, _, _, _, _, _, _, _, _, _, _, _, _, _, _, _, _, .pointer (some ⟨b, 0, none⟩), .pointer (some ⟨b, 0, none⟩), .pointer (some ⟨b, 0, none⟩), .pointer (some ⟨b, 1, none⟩), _, _, _, _, _, _, _, _, _, _, _, _], []⟩ _)
  · intro u hu
    go_simp
  refine HT.take 4 (.slice (some ⟨ag, ao, none⟩) held.length c) rfl (by kernel_rfl) (fun _ _ _ h => h) (Or.inl ⟨by rfl, ?_⟩) (?_ : HT _ _ _ _ _ _ _ ⟨#[_, _, _, _, _, _, _, _, _, _, _, _, _, _, _, _, _, _, _, _, _, _, _, _, _, _, _, _, _, _, _, _, _, _, _, _, _, _, _, _, _, _, _, _, .pointer (some ⟨b, 0, none⟩), .pointer (some ⟨b, 0, none⟩), .pointer (some ⟨b, 0, none⟩), .pointer (some ⟨b, 1, none⟩), .slice (some ⟨ag, ao, none⟩) held.length c, _, _, _, _, _, _, _, _, _, _, _], []⟩ _)
  · intro u hu
    obtain ⟨y0, y1, y2⟩ := hu.cells3
    go_simp
  refine HT.take 5 (.int .i64 2) rfl (by kernel_rfl) (fun _ _ _ h => h) (Or.inl ⟨by rfl, ?_⟩) (?_ : HT _ _ _ _ _ _ _ ⟨#[_, _, _, _, _, _, _, _, _, _, _, _, _, _, _, _, _, _, _, _, _, _, _, _, _, _, _, _, _, _, _, _, _, _, _, _, _, _, _, _, _, _, _, _, .pointer (some ⟨b, 0, none⟩), .pointer (some ⟨b, 0, none⟩), .pointer (some ⟨b, 0, none⟩), .pointer (some ⟨b, 1, none⟩), .slice (some ⟨ag, ao, none⟩) held.length c, .int .i64 2, _, _, _, _, _, _, _, _, _, _], []⟩ _)
  · intro u hu
    go_simp
  refine HT.take 6 (.pointer (some ⟨b, 0, none⟩)) rfl (by kernel_rfl) (fun _ _ _ h => h) (Or.inl ⟨by rfl, ?_⟩) (?_ : HT _ _ _ _ _ _ _ ⟨#[_, _, _, _, _, _, _, _, _, _, _, _, _, _, _, _, _, _, _, _, _, _, _, _, _, _, _, _, _, _, _, _, _, _, _, _, _, _, _, _, _, _, _, _, .pointer (some ⟨b, 0, none⟩), .pointer (some ⟨b, 0, none⟩), .pointer (some ⟨b, 0, none⟩), .pointer (some ⟨b, 1, none⟩), .slice (some ⟨ag, ao, none⟩) held.length c, .int .i64 2, .pointer (some ⟨b, 0, none⟩), _, _, _, _, _, _, _, _, _], []⟩ _)
  · intro u hu
    go_simp
  refine HT.take 7 (.pointer (some ⟨b, 0, none⟩)) rfl (by kernel_rfl) (fun _ _ _ h => h) (Or.inl ⟨by rfl, ?_⟩) (?_ : HT _ _ _ _ _ _ _ ⟨#[_, _, _, _, _, _, _, _, _, _, _, _, _, _, _, _, _, _, _, _, _, _, _, _, _, _, _, _, _, _, _, _, _, _, _, _, _, _, _, _, _, _, _, _, .pointer (some ⟨b, 0, none⟩), .pointer (some ⟨b, 0, none⟩), .pointer (some ⟨b, 0, none⟩), .pointer (some ⟨b, 1, none⟩), .slice (some ⟨ag, ao, none⟩) held.length c, .int .i64 2, .pointer (some ⟨b, 0, none⟩), .pointer (some ⟨b, 0, none⟩), _, _, _, _, _, _, _, _], []⟩ _)
  · intro u hu
    go_simp
  refine HT.take 8 (.pointer (some ⟨b, 1, none⟩)) rfl (by kernel_rfl) (fun _ _ _ h => h) (Or.inl ⟨by rfl, ?_⟩) (?_ : HT _ _ _ _ _ _ _ ⟨#[_, _, _, _, _, _, _, _, _, _, _, _, _, _, _, _, _, _, _, _, _, _, _, _, _, _, _, _, _, _, _, _, _, _, _, _, _, _, _, _, _, _, _, _, .pointer (some ⟨b, 0, none⟩), .pointer (some ⟨b, 0, none⟩), .pointer (some ⟨b, 0, none⟩), .pointer (some ⟨b, 1, none⟩), .slice (some ⟨ag, ao, none⟩) held.length c, .int .i64 2, .pointer (some ⟨b, 0, none⟩), .pointer (some ⟨b, 0, none⟩), .pointer (some ⟨b, 1, none⟩), _, _, _, _, _, _, _], []⟩ _)
  · intro u hu
    go_simp
  refine HT.take 9 (.slice (some ⟨ag, ao, none⟩) held.length c) rfl (by kernel_rfl) (fun _ _ _ h => h) (Or.inl ⟨by rfl, ?_⟩) (?_ : HT _ _ _ _ _ _ _ ⟨#[_, _, _, _, _, _, _, _, _, _, _, _, _, _, _, _, _, _, _, _, _, _, _, _, _, _, _, _, _, _, _, _, _, _, _, _, _, _, _, _, _, _, _, _, .pointer (some ⟨b, 0, none⟩), .pointer (some ⟨b, 0, none⟩), .pointer (some ⟨b, 0, none⟩), .pointer (some ⟨b, 1, none⟩), .slice (some ⟨ag, ao, none⟩) held.length c, .int .i64 2, .pointer (some ⟨b, 0, none⟩), .pointer (some ⟨b, 0, none⟩), .pointer (some ⟨b, 1, none⟩), .slice (some ⟨ag, ao, none⟩) held.length c, _, _, _, _, _, _], []⟩ _)
  · intro u hu
    obtain ⟨y0, y1, y2⟩ := hu.cells3
    go_simp
  refine HT.take 10 (.int .i64 held.length) rfl (by kernel_rfl) (fun _ _ _ h => h) (Or.inl ⟨by rfl, ?_⟩) (?_ : HT _ _ _ _ _ _ _ ⟨#[_, _, _, _, _, _, _, _, _, _, _, _, _, _, _, _, _, _, _, _, _, _, _, _, _, _, _, _, _, _, _, _, _, _, _, _, _, _, _, _, _, _, _, _, .pointer (some ⟨b, 0, none⟩), .pointer (some ⟨b, 0, none⟩), .pointer (some ⟨b, 0, none⟩), .pointer (some ⟨b, 1, none⟩), .slice (some ⟨ag, ao, none⟩) held.length c, .int .i64 2, .pointer (some ⟨b, 0, none⟩), .pointer (some ⟨b, 0, none⟩), .pointer (some ⟨b, 1, none⟩), .slice (some ⟨ag, ao, none⟩) held.length c, .int .i64 held.length, _, _, _, _, _], []⟩ _)
  · intro u hu
    go_simp
  refine HT.take 11 (.int .i64 2) rfl (by kernel_rfl) (fun _ _ _ h => h) (Or.inl ⟨by rfl, ?_⟩) (?_ : HT _ _ _ _ _ _ _ ⟨#[_, _, _, _, _, _, _, _, _, _, _, _, _, _, _, _, _, _, _, _, _, _, _, _, _, _, _, _, _, _, _, _, _, _, _, _, _, _, _, _, _, _, _, _, .pointer (some ⟨b, 0, none⟩), .pointer (some ⟨b, 0, none⟩), .pointer (some ⟨b, 0, none⟩), .pointer (some ⟨b, 1, none⟩), .slice (some ⟨ag, ao, none⟩) held.length c, .int .i64 2, .pointer (some ⟨b, 0, none⟩), .pointer (some ⟨b, 0, none⟩), .pointer (some ⟨b, 1, none⟩), .slice (some ⟨ag, ao, none⟩) held.length c, .int .i64 held.length, .int .i64 2, _, _, _, _], []⟩ _)
  · intro u hu
    go_simp
    omega
  refine HT.take 12 (.slice (addA (some ⟨ag, ao, none⟩) c 2) (held.length - 2) (c - 2)) rfl (by kernel_rfl) (fun _ _ _ h => h) (Or.inl ⟨by rfl, ?_⟩) (?_ : HT _ _ _ _ _ _ _ ⟨#[_, _, _, _, _, _, _, _, _, _, _, _, _, _, _, _, _, _, _, _, _, _, _, _, _, _, _, _, _, _, _, _, _, _, _, _, _, _, _, _, _, _, _, _, .pointer (some ⟨b, 0, none⟩), .pointer (some ⟨b, 0, none⟩), .pointer (some ⟨b, 0, none⟩), .pointer (some ⟨b, 1, none⟩), .slice (some ⟨ag, ao, none⟩) held.length c, .int .i64 2, .pointer (some ⟨b, 0, none⟩), .pointer (some ⟨b, 0, none⟩), .pointer (some ⟨b, 1, none⟩), .slice (some ⟨ag, ao, none⟩) held.length c, .int .i64 held.length, .int .i64 2, .slice (addA (some ⟨ag, ao, none⟩) c 2) (held.length - 2) (c - 2), _, _, _], []⟩ _)
  · intro u hu
    go_simp
    rw [if_pos (by omega), addA_ite]
  refine HT.tail _ rfl rfl (by kernel_rfl) (fun hS => ?_)
  have HS := Lib.hid hS
  clear hS hS0
  obtain ⟨y0, y1, y2⟩ := HS.out.cells3
  have f1 := HS.out.free 1
  have HLW : Hid (Below w.heap.size w wd2) := Lib.hid (by rw [← hwd]; exact HS6.out.trans (Below.refl _ _).drew)
  go_wp2
  refine NoPanic.normal ?_
  go_wp2
  go_ret3
  have hkf : KeptB w.heap.size b w (wd2.setCell ⟨b, 1, none⟩ (.slice (addA (some ⟨ag, ao, none⟩) c 2) (held.length - 2) (c - 2))) := (KeptB.of_low HLW.out (Nat.le_refl _)).set 1 _
  have hld : (held.drop 2).length = held.length - 2 := List.length_drop
  refine ⟨by rw [HF.out]; rfl, ?_, hkf⟩
  rw [HF.out]
  refine ⟨addA (some ⟨ag, ao, none⟩) c 2, c - 2, HBX.out.turned hkf ?_ (by rw [hld]; exact HBX.out.row.drop hl2), fun k hk => own_add hk⟩
  rw [hld]
  exact HS.out.set 1 _
end Go.Proofs.YteehjkfmlcfffaaGreatDoor
