/- The walk of Next of a box of messages (printed by gen/boxnext.py). Conditions: at most 2^28 bytes in the box; the library's two tables of UTF-8; internal/bytealg.MaxLen; strconv's two error variables. -/
import Derived.Test.YteehjkfmlcfffaaGreatDoorBox
import Derived.Test.YteehjkfmlcfffaaGreatDoorPieceP
import Derived.Test.YteehjkfmlcfffaaGreatDoorBlockP
import Derived.Test.YteehjkfmlcfffaaGreatDoorChunkAA
namespace Go.Proofs.YteehjkfmlcfffaaGreatDoor
open Go.RowKit

/-- What Next answers. -/
def RetNext (B b : Nat) (w : World) (x : M.NX) (e : Ending) (w' : World) : Prop :=
  (∃ A9 c9 D9 d9 T9 k9, e = .returned (.tuple #[.agg #[.string x.q.m, .string x.q.t, .int .i64 x.q.v, .slice A9 x.q.fs.length c9, .int .i64 0, .string ⟨#[]⟩, .int .i64 0, .slice none 0 0, .slice D9 x.q.d.length d9, .slice T9 x.q.f.length k9], .bool x.ok, .int .i64 x.e]) ∧
    Row w' w.heap.size 148 2 A9 x.q.fs.length c9 (fcells x.q.fs) ∧ Row w' w.heap.size 5 1 D9 x.q.d.length d9 (bcells x.q.d) ∧ Row w' w.heap.size 148 2 T9 x.q.f.length k9 (fcells x.q.f)) ∧
  (∃ A' c', BoxM B b (.func (.func 20) #[] #[]) x.h x.bad A' c' w') ∧ KeptB B b w w'
theorem RetNext.zero {B b : Nat} {w w' : World} {x : M.NX} {code : Int} {h : List UInt8} {bad : Int} {A' : Option Addr} {c' : Nat} (hx : x = ⟨.bad 0, false, code, h, bad⟩) (hb : BoxM B b (.func (.func 20) #[] #[]) h bad A' c' w') (hk : KeptB B b w w') :
    RetNext B b w x (.returned (.tuple #[.agg #[.string ⟨#[]⟩, .string ⟨#[]⟩, .int .i64 0, .slice none 0 0, .int .i64 0, .string ⟨#[]⟩, .int .i64 0, .slice none 0 0, .slice none 0 0, .slice none 0 0], .bool false, .int .i64 code])) w' := by
  subst hx
  exact ⟨⟨none, 0, none, 0, none, 0, rfl, Row.none_ _ _ _ _, Row.none_ _ _ _ _, Row.none_ _ _ _ _⟩, ⟨_, _, hb⟩, hk⟩
set_option maxHeartbeats 8000000 in
set_option maxRecDepth 100000 in
theorem next_any (B b : Nat) (held : List UInt8) (bad : Int) (A : Option Addr) (c : Nat) (w : World) (h : BoxM B b (.func (.func 20) #[] #[]) held bad A c w) (hl : held.length ≤ 268435456) (ht : LibOk w) (he : ErrOk w) :
    Calls Tryz.prog 24 #[.pointer (some ⟨b, 0, none⟩)] w (RetNext B b w (M.next held bad)) := by
  have HBX := Lib.hid h
  have HCL := Lib.hid (fun (u : World) (hu : Below w.heap.size w u) => slicesClone_any A held.length c held u (by omega) rfl h.row.nilO (h.below hu).row.rd)
  have HRQ := Lib.hid (fun (A8 : Option Addr) (c8 : Nat) (b0 : Nat) (u : World) (hu : Below w.heap.size w u) (hr : CRow u b0 A8 held.length c8 held) => inboxRequestK_any A8 held.length c8 held u hl hr.2.1 hr.nilE hr.spotE hr.rd (ht.below hu) (he.below hu))
  have HT0 := Lib.hid (Two.start w #[.string ⟨#[]⟩, .string ⟨#[]⟩, .int .i64 0, .slice none 0 0, .int .i64 0, .string ⟨#[]⟩, .int .i64 0, .slice none 0 0, .slice none 0 0, .slice none 0 0] 29 #[.string ⟨#[]⟩, .string ⟨#[]⟩, .int .i64 0, .slice none 0 0, .int .i64 0, .string ⟨#[]⟩, .int .i64 0, .slice none 0 0, .slice none 0 0, .slice none 0 0] 29)
  have hbB := h.lt
  have hBw := h.le
  obtain ⟨G, hG⟩ : ∃ G, M.next held bad = G := ⟨_, rfl⟩
  have HG : Hid (G = if bad ≠ 0 then ⟨.bad 0, false, bad, held, bad⟩ else if (M.request held).e ≠ 0 then ⟨.bad 0, false, (M.request held).e, held, (M.request held).e⟩ else if (M.request held).n = 0 then ⟨.bad 0, false, 0, held, 0⟩ else ⟨M.request held, true, 0, held.drop (M.request held).n.toNat, 0⟩) := Lib.hid (by rw [← hG]; rfl)
  rw [hG]
  clear h ht he hG
  go_enter Tryz.func24, Tryz.ntmps24
  go_upto_region 2 with fail
  generalize (w.alloc (.cells #[.string ⟨#[]⟩, .string ⟨#[]⟩, .int .i64 0, .slice none 0 0, .int .i64 0, .string ⟨#[]⟩, .int .i64 0, .slice none 0 0, .slice none 0 0, .slice none 0 0] 29)).alloc (.cells #[.string ⟨#[]⟩, .string ⟨#[]⟩, .int .i64 0, .slice none 0 0, .int .i64 0, .string ⟨#[]⟩, .int .i64 0, .slice none 0 0, .slice none 0 0, .slice none 0 0] 29) = w0 at *
  have HY0 := Lib.hid (HBX.out.below HT0.out.2.2)
  obtain ⟨y0, y1, y2⟩ := HY0.out.blk.cells3
  by_cases hbad : bad = 0
  rotate_left
  · have HF := Lib.hid (HG.out.trans (if_pos hbad))
    have hbb : (bad != 0) = true := by rw [bne_iff_ne]; exact hbad
    clear HG HCL HRQ
    go_upto_region 3 with fail
    have hS0 : Two w #[.string ⟨#[]⟩, .string ⟨#[]⟩, .int .i64 0, .slice none 0 0, .int .i64 0, .string ⟨#[]⟩, .int .i64 0, .slice none 0 0, .slice none 0 0, .slice none 0 0] 29 #[.string ⟨#[]⟩, .string ⟨#[]⟩, .int .i64 0, .slice none 0 0, .int .i64 0, .string ⟨#[]⟩, .int .i64 0, .slice none 0 0, .slice none 0 0, .slice none 0 0] 29 w0.drew := HT0.out.drew
    clear HY0 HT0 y0 y1 y2
    refine wp_region_noPanic ?_
    refine HT.begin (n := 7) (S := (fun u => (∃ x0 x1 x2 x3 x4 x5 x6 x7 x8 x9, Blk u w.heap.size #[x0, x1, x2, x3, x4, x5, x6, x7, x8, x9] 29) ∧ Blk u (w.heap.size + 1) #[.string ⟨#[]⟩, .string ⟨#[]⟩, .int .i64 0, .slice none 0 0, .int .i64 0, .string ⟨#[]⟩, .int .i64 0, .slice none 0 0, .slice none 0 0, .slice none 0 0] 29 ∧ Below w.heap.size w u)) (by kernel_rfl) ⟨⟨_, _, _, _, _, _, _, _, _, _, hS0.1⟩, hS0.2.1, hS0.2.2⟩ ?_
    generalize w0.drew = wd at *
    refine HT.take 0 (.agg #[.string ⟨#[]⟩, .string ⟨#[]⟩, .int .i64 0, .slice none 0 0, .int .i64 0, .string ⟨#[]⟩, .int .i64 0, .slice none 0 0, .slice none 0 0, .slice none 0 0]) rfl (by kernel_rfl) (fun _ _ _ h => h) (Or.inl ⟨by rfl, ?_⟩) (?_ : HT _ _ _ _ _ _ _ ⟨#[_, _, _, _, _, _, _, _, _, _, _, _, _, _, .agg #[.string ⟨#[]⟩, .string ⟨#[]⟩, .int .i64 0, .slice none 0 0, .int .i64 0, .string ⟨#[]⟩, .int .i64 0, .slice none 0 0, .slice none 0 0, .slice none 0 0], _, _, _, _, _, _, _, _, _, _, _, _, _, _, _, _, _, _, _, _, _, _, _, _, _, _, _, _, _, _, _, _, _, _, _, _, _, _, _, _, _, _, _, _, _], []⟩ _)
    · intro u hu
      obtain ⟨q0, q1, q2, q3, q4, q5, q6, q7, q8, q9⟩ := hu.2.1.cells10
      go_simp
    refine HT.take 1 (.pointer (some ⟨b, 0, none⟩)) rfl (by kernel_rfl) (fun _ _ _ h => h) (Or.inl ⟨by rfl, ?_⟩) (?_ : HT _ _ _ _ _ _ _ ⟨#[_, _, _, _, _, _, _, _, _, _, _, _, _, _, .agg #[.string ⟨#[]⟩, .string ⟨#[]⟩, .int .i64 0, .slice none 0 0, .int .i64 0, .string ⟨#[]⟩, .int .i64 0, .slice none 0 0, .slice none 0 0, .slice none 0 0], .pointer (some ⟨b, 0, none⟩), _, _, _, _, _, _, _, _, _, _, _, _, _, _, _, _, _, _, _, _, _, _, _, _, _, _, _, _, _, _, _, _, _, _, _, _, _, _, _, _, _, _, _, _], []⟩ _)
    · intro u hu
      go_simp
    refine HT.take 2 (.pointer (some ⟨b, 0, none⟩)) rfl (by kernel_rfl) (fun _ _ _ h => h) (Or.inl ⟨by rfl, ?_⟩) (?_ : HT _ _ _ _ _ _ _ ⟨#[_, _, _, _, _, _, _, _, _, _, _, _, _, _, .agg #[.string ⟨#[]⟩, .string ⟨#[]⟩, .int .i64 0, .slice none 0 0, .int .i64 0, .string ⟨#[]⟩, .int .i64 0, .slice none 0 0, .slice none 0 0, .slice none 0 0], .pointer (some ⟨b, 0, none⟩), .pointer (some ⟨b, 0, none⟩), _, _, _, _, _, _, _, _, _, _, _, _, _, _, _, _, _, _, _, _, _, _, _, _, _, _, _, _, _, _, _, _, _, _, _, _, _, _, _, _, _, _, _], []⟩ _)
    · intro u hu
      go_simp
    refine HT.take 3 (.pointer (some ⟨b, 2, none⟩)) rfl (by kernel_rfl) (fun _ _ _ h => h) (Or.inl ⟨by rfl, ?_⟩) (?_ : HT _ _ _ _ _ _ _ ⟨#[_, _, _, _, _, _, _, _, _, _, _, _, _, _, .agg #[.string ⟨#[]⟩, .string ⟨#[]⟩, .int .i64 0, .slice none 0 0, .int .i64 0, .string ⟨#[]⟩, .int .i64 0, .slice none 0 0, .slice none 0 0, .slice none 0 0], .pointer (some ⟨b, 0, none⟩), .pointer (some ⟨b, 0, none⟩), .pointer (some ⟨b, 2, none⟩), _, _, _, _, _, _, _, _, _, _, _, _, _, _, _, _, _, _, _, _, _, _, _, _, _, _, _, _, _, _, _, _, _, _, _, _, _, _, _, _, _, _], []⟩ _)
    · intro u hu
      go_simp
    refine HT.take 4 (.int .i64 bad) rfl (by kernel_rfl) (fun _ _ _ h => h) (Or.inl ⟨by rfl, ?_⟩) (?_ : HT _ _ _ _ _ _ _ ⟨#[_, _, _, _, _, _, _, _, _, _, _, _, _, _, .agg #[.string ⟨#[]⟩, .string ⟨#[]⟩, .int .i64 0, .slice none 0 0, .int .i64 0, .string ⟨#[]⟩, .int .i64 0, .slice none 0 0, .slice none 0 0, .slice none 0 0], .pointer (some ⟨b, 0, none⟩), .pointer (some ⟨b, 0, none⟩), .pointer (some ⟨b, 2, none⟩), .int .i64 bad, _, _, _, _, _, _, _, _, _, _, _, _, _, _, _, _, _, _, _, _, _, _, _, _, _, _, _, _, _, _, _, _, _, _, _, _, _, _, _, _, _], []⟩ _)
    · intro u hu
      obtain ⟨y0, y1, y2⟩ := (HBX.out.below hu.2.2).blk.cells3
      go_simp
    refine HT.step 5 rfl (by kernel_rfl) (fun hS K hK => ?_)
    go_simp
    obtain ⟨⟨x0, x1, x2, x3, x4, x5, x6, x7, x8, x9, hs2⟩, hs3, hs1⟩ := hS
    have hs0 : Blk wd w.heap.size #[x0, x1, x2, x3, x4, x5, x6, x7, x8, x9] 29 := hs2
    obtain ⟨a0, a1, a2, a3, a4, a5, a6, a7, a8, a9⟩ := hs0.cells10
    obtain ⟨g0, g1, g2, g3, g4, g5, g6, g7, g8, g9⟩ := hs0.free10
    go_simp
    refine hK.out _ _ ⟨⟨_, _, _, _, _, _, _, _, _, _, hs2.set10 (.string ⟨#[]⟩) (.string ⟨#[]⟩) (.int .i64 0) (.slice none 0 0) (.int .i64 0) (.string ⟨#[]⟩) (.int .i64 0) (.slice none 0 0) (.slice none 0 0) (.slice none 0 0)⟩, hs3.far10 (show w.heap.size ≠ w.heap.size + 1 by omega) (.string ⟨#[]⟩) (.string ⟨#[]⟩) (.int .i64 0) (.slice none 0 0) (.int .i64 0) (.string ⟨#[]⟩) (.int .i64 0) (.slice none 0 0) (.slice none 0 0) (.slice none 0 0), below_ten hs1 (Nat.le_refl _) (.string ⟨#[]⟩) (.string ⟨#[]⟩) (.int .i64 0) (.slice none 0 0) (.int .i64 0) (.string ⟨#[]⟩) (.int .i64 0) (.slice none 0 0) (.slice none 0 0) (.slice none 0 0)⟩ ?_
    have HS := Lib.hid hs2
    have HW := Lib.hid hs1
    clear hK a0 a1 a2 a3 a4 a5 a6 a7 a8 a9 g0 g1 g2 g3 g4 g5 g6 g7 g8 g9 hs1 hs3 hs0
    refine HT.take 6 (.bool false) rfl (by kernel_rfl) (fun _ _ _ h => h) (Or.inl ⟨by rfl, ?_⟩) (?_ : HT _ _ _ _ _ _ _ ⟨#[_, _, _, .bool false, _, _, _, _, _, _, _, _, _, _, .agg #[.string ⟨#[]⟩, .string ⟨#[]⟩, .int .i64 0, .slice none 0 0, .int .i64 0, .string ⟨#[]⟩, .int .i64 0, .slice none 0 0, .slice none 0 0, .slice none 0 0], .pointer (some ⟨b, 0, none⟩), .pointer (some ⟨b, 0, none⟩), .pointer (some ⟨b, 2, none⟩), .int .i64 bad, _, _, _, _, _, _, _, _, _, _, _, _, _, _, _, _, _, _, _, _, _, _, _, _, _, _, _, _, _, _, _, _, _, _, _, _, _, _, _, _, _], []⟩ _)
    · intro u hu
      go_simp
    refine HT.tail _ rfl rfl (by kernel_rfl) (fun hS => ?_)
    clear hS hS0
    go_wp2
    refine NoPanic.normal ?_
    go_wp2
    obtain ⟨z0, z1, z2, z3, z4, z5, z6, z7, z8, z9⟩ := (HS.out.set10 (.string ⟨#[]⟩) (.string ⟨#[]⟩) (.int .i64 0) (.slice none 0 0) (.int .i64 0) (.string ⟨#[]⟩) (.int .i64 0) (.slice none 0 0) (.slice none 0 0) (.slice none 0 0)).cells10
    unfold ten at z0 z1 z2 z3 z4 z5 z6 z7 z8 z9
    refine bodyPost_ret (v := .tuple #[.agg #[.string ⟨#[]⟩, .string ⟨#[]⟩, .int .i64 0, .slice none 0 0, .int .i64 0, .string ⟨#[]⟩, .int .i64 0, .slice none 0 0, .slice none 0 0, .slice none 0 0], .bool false, .int .i64 bad]) (by simp [results, Tryz.results24, go_sem, z0, z1, z2, z3, z4, z5, z6, z7, z8, z9]) rfl ?_
    exact RetNext.zero HF.out (HBX.out.below (below_ten HW.out (Nat.le_refl _) (.string ⟨#[]⟩) (.string ⟨#[]⟩) (.int .i64 0) (.slice none 0 0) (.int .i64 0) (.string ⟨#[]⟩) (.int .i64 0) (.slice none 0 0) (.slice none 0 0) (.slice none 0 0))) (KeptB.of_below (below_ten HW.out (Nat.le_refl _) (.string ⟨#[]⟩) (.string ⟨#[]⟩) (.int .i64 0) (.slice none 0 0) (.int .i64 0) (.string ⟨#[]⟩) (.int .i64 0) (.slice none 0 0) (.slice none 0 0) (.slice none 0 0)) hBw)
  subst hbad
  have HG2 := Lib.hid (HG.out.trans (if_neg (fun h => h rfl)))
  clear HG
  obtain ⟨Q, hQ⟩ : ∃ Q, M.request held = Q := ⟨_, rfl⟩
  have hways := M.msg_ways held
  rw [hQ] at HRQ HG2 hways
  clear hQ
  go_upto_region 4 with fail
  have hS0 : Two w #[.string ⟨#[]⟩, .string ⟨#[]⟩, .int .i64 0, .slice none 0 0, .int .i64 0, .string ⟨#[]⟩, .int .i64 0, .slice none 0 0, .slice none 0 0, .slice none 0 0] 29 #[.string ⟨#[]⟩, .string ⟨#[]⟩, .int .i64 0, .slice none 0 0, .int .i64 0, .string ⟨#[]⟩, .int .i64 0, .slice none 0 0, .slice none 0 0, .slice none 0 0] 29 w0.drew := HT0.out.drew
  clear HY0 HT0 y0 y1 y2
  refine wp_region_noPanic ?_
  refine HT.begin (n := 17) (S := (Two w #[.string ⟨#[]⟩, .string ⟨#[]⟩, .int .i64 0, .slice none 0 0, .int .i64 0, .string ⟨#[]⟩, .int .i64 0, .slice none 0 0, .slice none 0 0, .slice none 0 0] 29 #[.string ⟨#[]⟩, .string ⟨#[]⟩, .int .i64 0, .slice none 0 0, .int .i64 0, .string ⟨#[]⟩, .int .i64 0, .slice none 0 0, .slice none 0 0, .slice none 0 0] 29)) (by kernel_rfl) hS0 ?_
  generalize w0.drew = wd at *
  refine HT.take 0 (.pointer (some ⟨b, 0, none⟩)) rfl (by kernel_rfl) (fun _ _ _ h => h) (Or.inl ⟨by rfl, ?_⟩) (?_ : HT _ _ _ _ _ _ _ ⟨#[_, _, _, _, _, _, _, _, _, _, _, _, _, _, _, _, _, _, _, _, .pointer (some ⟨b, 0, none⟩), _, _, _, _, _, _, _, _, _, _, _, _, _, _, _, _, _, _, _, _, _, _, _, _, _, _, _, _, _, _, _, _, _, _, _, _, _, _, _], []⟩ _)
  · intro u hu
    go_simp
  refine HT.take 1 (.pointer (some ⟨b, 0, none⟩)) rfl (by kernel_rfl) (fun _ _ _ h => h) (Or.inl ⟨by rfl, ?_⟩) (?_ : HT _ _ _ _ _ _ _ ⟨#[_, _, _, _, _, _, _, _, _, _, _, _, _, _, _, _, _, _, _, _, .pointer (some ⟨b, 0, none⟩), .pointer (some ⟨b, 0, none⟩), _, _, _, _, _, _, _, _, _, _, _, _, _, _, _, _, _, _, _, _, _, _, _, _, _, _, _, _, _, _, _, _, _, _, _, _, _, _], []⟩ _)
  · intro u hu
    go_simp
  refine HT.take 2 (.pointer (some ⟨b, 0, none⟩)) rfl (by kernel_rfl) (fun _ _ _ h => h) (Or.inl ⟨by rfl, ?_⟩) (?_ : HT _ _ _ _ _ _ _ ⟨#[_, _, _, _, _, _, _, _, _, _, _, _, _, _, _, _, _, _, _, _, .pointer (some ⟨b, 0, none⟩), .pointer (some ⟨b, 0, none⟩), .pointer (some ⟨b, 0, none⟩), _, _, _, _, _, _, _, _, _, _, _, _, _, _, _, _, _, _, _, _, _, _, _, _, _, _, _, _, _, _, _, _, _, _, _, _, _], []⟩ _)
  · intro u hu
    go_simp
  refine HT.take 3 (.func (.func 20) #[] #[]) rfl (by kernel_rfl) (fun _ _ _ h => h) (Or.inl ⟨by rfl, ?_⟩) (?_ : HT _ _ _ _ _ _ _ ⟨#[_, _, _, _, _, _, _, _, _, _, _, _, _, _, _, _, _, _, _, _, .pointer (some ⟨b, 0, none⟩), .pointer (some ⟨b, 0, none⟩), .pointer (some ⟨b, 0, none⟩), .func (.func 20) #[] #[], _, _, _, _, _, _, _, _, _, _, _, _, _, _, _, _, _, _, _, _, _, _, _, _, _, _, _, _, _, _, _, _, _, _, _, _], []⟩ _)
  · intro u hu
    obtain ⟨y0, y1, y2⟩ := (HBX.out.below hu.2.2).blk.cells3
    go_simp
  refine HT.take 4 (.pointer (some ⟨b, 0, none⟩)) rfl (by kernel_rfl) (fun _ _ _ h => h) (Or.inl ⟨by rfl, ?_⟩) (?_ : HT _ _ _ _ _ _ _ ⟨#[_, _, _, _, _, _, _, _, _, _, _, _, _, _, _, _, _, _, _, _, .pointer (some ⟨b, 0, none⟩), .pointer (some ⟨b, 0, none⟩), .pointer (some ⟨b, 0, none⟩), .func (.func 20) #[] #[], .pointer (some ⟨b, 0, none⟩), _, _, _, _, _, _, _, _, _, _, _, _, _, _, _, _, _, _, _, _, _, _, _, _, _, _, _, _, _, _, _, _, _, _, _], []⟩ _)
  · intro u hu
    go_simp
  refine HT.take 5 (.pointer (some ⟨b, 0, none⟩)) rfl (by kernel_rfl) (fun _ _ _ h => h) (Or.inl ⟨by rfl, ?_⟩) (?_ : HT _ _ _ _ _ _ _ ⟨#[_, _, _, _, _, _, _, _, _, _, _, _, _, _, _, _, _, _, _, _, .pointer (some ⟨b, 0, none⟩), .pointer (some ⟨b, 0, none⟩), .pointer (some ⟨b, 0, none⟩), .func (.func 20) #[] #[], .pointer (some ⟨b, 0, none⟩), .pointer (some ⟨b, 0, none⟩), _, _, _, _, _, _, _, _, _, _, _, _, _, _, _, _, _, _, _, _, _, _, _, _, _, _, _, _, _, _, _, _, _, _], []⟩ _)
  · intro u hu
    go_simp
  refine HT.take 6 (.pointer (some ⟨b, 1, none⟩)) rfl (by kernel_rfl) (fun _ _ _ h => h) (Or.inl ⟨by rfl, ?_⟩) (?_ : HT _ _ _ _ _ _ _ ⟨#[_, _, _, _, _, _, _, _, _, _, _, _, _, _, _, _, _, _, _, _, .pointer (some ⟨b, 0, none⟩), .pointer (some ⟨b, 0, none⟩), .pointer (some ⟨b, 0, none⟩), .func (.func 20) #[] #[], .pointer (some ⟨b, 0, none⟩), .pointer (some ⟨b, 0, none⟩), .pointer (some ⟨b, 1, none⟩), _, _, _, _, _, _, _, _, _, _, _, _, _, _, _, _, _, _, _, _, _, _, _, _, _, _, _, _, _, _, _, _, _], []⟩ _)
  · intro u hu
    go_simp
  refine HT.take 7 (.slice A held.length c) rfl (by kernel_rfl) (fun _ _ _ h => h) (Or.inl ⟨by rfl, ?_⟩) (?_ : HT _ _ _ _ _ _ _ ⟨#[_, _, _, _, _, _, _, _, _, _, _, _, _, _, _, _, _, _, _, _, .pointer (some ⟨b, 0, none⟩), .pointer (some ⟨b, 0, none⟩), .pointer (some ⟨b, 0, none⟩), .func (.func 20) #[] #[], .pointer (some ⟨b, 0, none⟩), .pointer (some ⟨b, 0, none⟩), .pointer (some ⟨b, 1, none⟩), .slice A held.length c, _, _, _, _, _, _, _, _, _, _, _, _, _, _, _, _, _, _, _, _, _, _, _, _, _, _, _, _, _, _, _, _], []⟩ _)
  · intro u hu
    obtain ⟨y0, y1, y2⟩ := (HBX.out.below hu.2.2).blk.cells3
    go_simp
  refine HT.blockP (f0 := 3) [8, 9, 10, 11, 14] [12, 13] (fun j v u => match j with | 8 => ∃ A8 c8, v = .slice A8 held.length c8 ∧ CRow u w.heap.size A8 held.length c8 held | 9 => ∃ A9 c9 D9 d9 T9 k9, v = .tuple #[.agg #[.string Q.m, .string Q.t, .int .i64 Q.v, .slice A9 Q.fs.length c9, .int .i64 0, .string ⟨#[]⟩, .int .i64 0, .slice none 0 0, .slice D9 Q.d.length d9, .slice T9 Q.f.length k9], .int .i64 Q.n, .int .i64 Q.e] ∧ Row u w.heap.size 148 2 A9 Q.fs.length c9 (fcells Q.fs) ∧ Row u w.heap.size 5 1 D9 Q.d.length d9 (bcells Q.d) ∧ Row u w.heap.size 148 2 T9 Q.f.length k9 (fcells Q.f) | 10 => ∃ A9 c9 D9 d9 T9 k9, v = .tuple #[.agg #[.string Q.m, .string Q.t, .int .i64 Q.v, .slice A9 Q.fs.length c9, .int .i64 0, .string ⟨#[]⟩, .int .i64 0, .slice none 0 0, .slice D9 Q.d.length d9, .slice T9 Q.f.length k9], .int .i64 Q.n, .int .i64 Q.e] ∧ Row u w.heap.size 148 2 A9 Q.fs.length c9 (fcells Q.fs) ∧ Row u w.heap.size 5 1 D9 Q.d.length d9 (bcells Q.d) ∧ Row u w.heap.size 148 2 T9 Q.f.length k9 (fcells Q.f) | 11 => ∃ A9 c9 D9 d9 T9 k9, v = .agg #[.string Q.m, .string Q.t, .int .i64 Q.v, .slice A9 Q.fs.length c9, .int .i64 0, .string ⟨#[]⟩, .int .i64 0, .slice none 0 0, .slice D9 Q.d.length d9, .slice T9 Q.f.length k9] ∧ Row u w.heap.size 148 2 A9 Q.fs.length c9 (fcells Q.fs) ∧ Row u w.heap.size 5 1 D9 Q.d.length d9 (bcells Q.d) ∧ Row u w.heap.size 148 2 T9 Q.f.length k9 (fcells Q.f) | 14 => PtrBlk (w.heap.size + 2) #[.string ⟨#[]⟩, .string ⟨#[]⟩, .int .i64 0, .slice none 0 0, .int .i64 0, .string ⟨#[]⟩, .int .i64 0, .slice none 0 0, .slice none 0 0, .slice none 0 0] 29 v u | 12 => v = .int .i64 Q.n | 13 => v = .int .i64 Q.e | _ => True) (fun vs => ⟨#[_, _, _, _, _, _, vs 14, _, _, _, _, _, _, _, _, _, _, _, _, vs 10, .pointer (some ⟨b, 0, none⟩), .pointer (some ⟨b, 0, none⟩), .pointer (some ⟨b, 0, none⟩), .func (.func 20) #[] #[], .pointer (some ⟨b, 0, none⟩), .pointer (some ⟨b, 0, none⟩), .pointer (some ⟨b, 1, none⟩), .slice A held.length c, vs 8, vs 9, vs 11, vs 12, vs 13, _, _, _, _, _, _, _, _, _, _, _, _, _, _, _, _, _, _, _, _, _, _, _, _, _, _, _], []⟩) (fun _ => rfl) (by kernel_rfl) (fun _ _ _ _ _ _ _ h => h) (fun u u' hb h => h.below hb) (fun j v u u' hb h => by revert h; split <;> intro h <;> first | exact h.below hb | (obtain ⟨A8, c8, hv, hr⟩ := h; exact ⟨A8, c8, hv, hr.below hb⟩) | (obtain ⟨A9, c9, D9, d9, T9, k9, hv, hr, hd9, hf⟩ := h; exact ⟨A9, c9, D9, d9, T9, k9, hv, hr.below hb, hd9.below hb, hf.below hb⟩) | exact h | trivial) (List.forall_mem_cons.2 ⟨⟨_, rfl, ?_⟩, List.forall_mem_cons.2 ⟨⟨_, rfl, ?_⟩, List.forall_mem_cons.2 ⟨⟨_, rfl, ?_⟩, List.forall_mem_cons.2 ⟨⟨_, rfl, ?_⟩, List.forall_mem_cons.2 ⟨⟨_, rfl, ?_⟩, fun _ h => by cases h⟩⟩⟩⟩⟩) (List.forall_mem_cons.2 ⟨⟨_, rfl, ?_⟩, List.forall_mem_cons.2 ⟨⟨_, rfl, ?_⟩, fun _ h => by cases h⟩⟩) ?_
  · intro vs u hS hd K hK
    go_simp
    refine (HCL.out u hS.2.2).mono ?_
    rintro e w5 ⟨A8, c8, rfl, hr, hb⟩
    exact hK.out (.slice A8 held.length c8) _ ⟨A8, c8, rfl, hr.mono hS.2.2.size⟩ hb
  · intro vs u hS hd K hK
    obtain ⟨A8, c8, e8, hr8⟩ : (fun v u => ∃ A8 c8, v = .slice A8 held.length c8 ∧ CRow u w.heap.size A8 held.length c8 held) (vs 8) u := hd 8 (by simp) (by kernel_rfl)
    have hc := HRQ.out A8 c8 _ u hS.2.2 hr8
    rw [← e8] at hc
    have HC := Lib.hid hc
    clear hc e8 hr8 hd
    go_simp
    refine HC.out.mono ?_
    rintro e w5 ⟨A9, c9, D9, d9, T9, k9, rfl, hr, hd9, hf, hb⟩
    exact hK.out (.tuple #[.agg #[.string Q.m, .string Q.t, .int .i64 Q.v, .slice A9 Q.fs.length c9, .int .i64 0, .string ⟨#[]⟩, .int .i64 0, .slice none 0 0, .slice D9 Q.d.length d9, .slice T9 Q.f.length k9], .int .i64 Q.n, .int .i64 Q.e]) _ ⟨A9, c9, D9, d9, T9, k9, rfl, hr.mono hS.2.2.size, hd9.mono hS.2.2.size, hf.mono hS.2.2.size⟩ hb
  · intro vs u hS hd K hK
    have hd9 := hd 9 (by simp) (by kernel_rfl)
    go_simp
    exact hK.out (vs 9) _ hd9 (Below.refl _ _)
  · intro vs u hS hd K hK
    obtain ⟨A9, c9, D9, d9, T9, k9, e10, hr, hd9, hf⟩ : (fun v u => ∃ A9 c9 D9 d9 T9 k9, v = .tuple #[.agg #[.string Q.m, .string Q.t, .int .i64 Q.v, .slice A9 Q.fs.length c9, .int .i64 0, .string ⟨#[]⟩, .int .i64 0, .slice none 0 0, .slice D9 Q.d.length d9, .slice T9 Q.f.length k9], .int .i64 Q.n, .int .i64 Q.e] ∧ Row u w.heap.size 148 2 A9 Q.fs.length c9 (fcells Q.fs) ∧ Row u w.heap.size 5 1 D9 Q.d.length d9 (bcells Q.d) ∧ Row u w.heap.size 148 2 T9 Q.f.length k9 (fcells Q.f)) (vs 10) u := hd 10 (by simp) (by kernel_rfl)
    have hk : K ⟨#[_, _, _, _, _, _, vs 14, _, _, _, _, _, _, _, _, _, _, _, _, vs 10, .pointer (some ⟨b, 0, none⟩), .pointer (some ⟨b, 0, none⟩), .pointer (some ⟨b, 0, none⟩), .func (.func 20) #[] #[], .pointer (some ⟨b, 0, none⟩), .pointer (some ⟨b, 0, none⟩), .pointer (some ⟨b, 1, none⟩), .slice A held.length c, vs 8, vs 9, .agg #[.string Q.m, .string Q.t, .int .i64 Q.v, .slice A9 Q.fs.length c9, .int .i64 0, .string ⟨#[]⟩, .int .i64 0, .slice none 0 0, .slice D9 Q.d.length d9, .slice T9 Q.f.length k9], vs 12, vs 13, _, _, _, _, _, _, _, _, _, _, _, _, _, _, _, _, _, _, _, _, _, _, _, _, _, _, _], []⟩ u := hK.out (.agg #[.string Q.m, .string Q.t, .int .i64 Q.v, .slice A9 Q.fs.length c9, .int .i64 0, .string ⟨#[]⟩, .int .i64 0, .slice none 0 0, .slice D9 Q.d.length d9, .slice T9 Q.f.length k9]) _ ⟨A9, c9, D9, d9, T9, k9, rfl, hr, hd9, hf⟩ (Below.refl _ _)
    rw [e10] at hk
    clear hd hK hr hd9 hf
    go_simp
    exact hk
  · intro vs u hS hd K hK
    go_simp
    exact hK.out (.pointer (some ⟨u.heap.size, 0, none⟩)) _ ⟨_, rfl, hS.size, Blk.new u _ _⟩ ((Below.refl _ _).alloc (Nat.le_refl _) _)
  · intro vs u hS hd
    obtain ⟨A9, c9, D9, d9, T9, k9, e10, _, _, _⟩ : (fun v u => ∃ A9 c9 D9 d9 T9 k9, v = .tuple #[.agg #[.string Q.m, .string Q.t, .int .i64 Q.v, .slice A9 Q.fs.length c9, .int .i64 0, .string ⟨#[]⟩, .int .i64 0, .slice none 0 0, .slice D9 Q.d.length d9, .slice T9 Q.f.length k9], .int .i64 Q.n, .int .i64 Q.e] ∧ Row u w.heap.size 148 2 A9 Q.fs.length c9 (fcells Q.fs) ∧ Row u w.heap.size 5 1 D9 Q.d.length d9 (bcells Q.d) ∧ Row u w.heap.size 148 2 T9 Q.f.length k9 (fcells Q.f)) (vs 10) u := hd 10 (by simp) (by kernel_rfl)
    refine ⟨.int .i64 Q.n, rfl, Or.inl ⟨by rfl, ?_⟩⟩
    intro u2 hu2
    go_simp
  · intro vs u hS hd
    obtain ⟨A9, c9, D9, d9, T9, k9, e10, _, _, _⟩ : (fun v u => ∃ A9 c9 D9 d9 T9 k9, v = .tuple #[.agg #[.string Q.m, .string Q.t, .int .i64 Q.v, .slice A9 Q.fs.length c9, .int .i64 0, .string ⟨#[]⟩, .int .i64 0, .slice none 0 0, .slice D9 Q.d.length d9, .slice T9 Q.f.length k9], .int .i64 Q.n, .int .i64 Q.e] ∧ Row u w.heap.size 148 2 A9 Q.fs.length c9 (fcells Q.fs) ∧ Row u w.heap.size 5 1 D9 Q.d.length d9 (bcells Q.d) ∧ Row u w.heap.size 148 2 T9 Q.f.length k9 (fcells Q.f)) (vs 10) u := hd 10 (by simp) (by kernel_rfl)
    refine ⟨.int .i64 Q.e, rfl, Or.inl ⟨by rfl, ?_⟩⟩
    intro u2 hu2
    go_simp
  intro vs u hS hR
  have hv28 := hR 8 (by simp)
  generalize vs 8 = v28 at *
  have hv29 := hR 9 (by simp)
  generalize vs 9 = v29 at *
  have hv19 := hR 10 (by simp)
  generalize vs 10 = v19 at *
  have hv30 := hR 11 (by simp)
  generalize vs 11 = v30 at *
  have hv6 := hR 14 (by simp)
  generalize vs 14 = v6 at *
  have hv31 := hR 12 (by simp)
  generalize vs 12 = v31 at *
  have hv32 := hR 13 (by simp)
  generalize vs 13 = v32 at *
  clear hR
  refine (?_ : HT _ _ _ _ _ _ _ ⟨#[_, _, _, _, _, _, v6, _, _, _, _, _, _, _, _, _, _, _, _, v19, .pointer (some ⟨b, 0, none⟩), .pointer (some ⟨b, 0, none⟩), .pointer (some ⟨b, 0, none⟩), .func (.func 20) #[] #[], .pointer (some ⟨b, 0, none⟩), .pointer (some ⟨b, 0, none⟩), .pointer (some ⟨b, 1, none⟩), .slice A held.length c, v28, v29, v30, v31, v32, _, _, _, _, _, _, _, _, _, _, _, _, _, _, _, _, _, _, _, _, _, _, _, _, _, _, _], []⟩ _)
  clear hv28 hv29 hv19
  obtain ⟨A9, c9, D9, d9, T9, k9, rfl, hrF, hrD, hrT⟩ := hv30
  obtain rfl : v31 = .int .i64 Q.n := hv31
  obtain rfl : v32 = .int .i64 Q.e := hv32
  obtain ⟨b6, rfl, hb6, hk6⟩ := hv6
  refine HT.step 15 rfl (by kernel_rfl) (fun hS K hK => ?_)
  go_simp
  obtain ⟨a0, a1, a2, a3, a4, a5, a6, a7, a8, a9⟩ := hk6.cells10
  obtain ⟨g0, g1, g2, g3, g4, g5, g6, g7, g8, g9⟩ := hk6.free10
  go_simp
  refine hK.out _ _ ⟨hS.1.far10 (show b6 ≠ w.heap.size by omega) (.string Q.m) (.string Q.t) (.int .i64 Q.v) (.slice A9 Q.fs.length c9) (.int .i64 0) (.string ⟨#[]⟩) (.int .i64 0) (.slice none 0 0) (.slice D9 Q.d.length d9) (.slice T9 Q.f.length k9), hS.2.1.far10 (show b6 ≠ w.heap.size + 1 by omega) (.string Q.m) (.string Q.t) (.int .i64 Q.v) (.slice A9 Q.fs.length c9) (.int .i64 0) (.string ⟨#[]⟩) (.int .i64 0) (.slice none 0 0) (.slice D9 Q.d.length d9) (.slice T9 Q.f.length k9), below_ten hS.2.2 (show w.heap.size ≤ b6 by omega) (.string Q.m) (.string Q.t) (.int .i64 Q.v) (.slice A9 Q.fs.length c9) (.int .i64 0) (.string ⟨#[]⟩) (.int .i64 0) (.slice none 0 0) (.slice D9 Q.d.length d9) (.slice T9 Q.f.length k9)⟩ ?_
  have HT6 : Hid (Two w #[.string ⟨#[]⟩, .string ⟨#[]⟩, .int .i64 0, .slice none 0 0, .int .i64 0, .string ⟨#[]⟩, .int .i64 0, .slice none 0 0, .slice none 0 0, .slice none 0 0] 29 #[.string ⟨#[]⟩, .string ⟨#[]⟩, .int .i64 0, .slice none 0 0, .int .i64 0, .string ⟨#[]⟩, .int .i64 0, .slice none 0 0, .slice none 0 0, .slice none 0 0] 29 ((((((((((u.setCell ⟨b6, 0, none⟩ (.string Q.m)).setCell ⟨b6, 1, none⟩ (.string Q.t)).setCell ⟨b6, 2, none⟩ (.int .i64 Q.v)).setCell ⟨b6, 3, none⟩ (.slice A9 Q.fs.length c9)).setCell ⟨b6, 4, none⟩ (.int .i64 0)).setCell ⟨b6, 5, none⟩ (.string ⟨#[]⟩)).setCell ⟨b6, 6, none⟩ (.int .i64 0)).setCell ⟨b6, 7, none⟩ (.slice none 0 0)).setCell ⟨b6, 8, none⟩ (.slice D9 Q.d.length d9)).setCell ⟨b6, 9, none⟩ (.slice T9 Q.f.length k9))) := Lib.hid ⟨hS.1.far10 (show b6 ≠ w.heap.size by omega) (.string Q.m) (.string Q.t) (.int .i64 Q.v) (.slice A9 Q.fs.length c9) (.int .i64 0) (.string ⟨#[]⟩) (.int .i64 0) (.slice none 0 0) (.slice D9 Q.d.length d9) (.slice T9 Q.f.length k9), hS.2.1.far10 (show b6 ≠ w.heap.size + 1 by omega) (.string Q.m) (.string Q.t) (.int .i64 Q.v) (.slice A9 Q.fs.length c9) (.int .i64 0) (.string ⟨#[]⟩) (.int .i64 0) (.slice none 0 0) (.slice D9 Q.d.length d9) (.slice T9 Q.f.length k9), below_ten hS.2.2 (show w.heap.size ≤ b6 by omega) (.string Q.m) (.string Q.t) (.int .i64 Q.v) (.slice A9 Q.fs.length c9) (.int .i64 0) (.string ⟨#[]⟩) (.int .i64 0) (.slice none 0 0) (.slice D9 Q.d.length d9) (.slice T9 Q.f.length k9)⟩
  have HK6 : Hid (Blk ((((((((((u.setCell ⟨b6, 0, none⟩ (.string Q.m)).setCell ⟨b6, 1, none⟩ (.string Q.t)).setCell ⟨b6, 2, none⟩ (.int .i64 Q.v)).setCell ⟨b6, 3, none⟩ (.slice A9 Q.fs.length c9)).setCell ⟨b6, 4, none⟩ (.int .i64 0)).setCell ⟨b6, 5, none⟩ (.string ⟨#[]⟩)).setCell ⟨b6, 6, none⟩ (.int .i64 0)).setCell ⟨b6, 7, none⟩ (.slice none 0 0)).setCell ⟨b6, 8, none⟩ (.slice D9 Q.d.length d9)).setCell ⟨b6, 9, none⟩ (.slice T9 Q.f.length k9)) b6 #[.string Q.m, .string Q.t, .int .i64 Q.v, .slice A9 Q.fs.length c9, .int .i64 0, .string ⟨#[]⟩, .int .i64 0, .slice none 0 0, .slice D9 Q.d.length d9, .slice T9 Q.f.length k9] 29) := Lib.hid (hk6.set10 (.string Q.m) (.string Q.t) (.int .i64 Q.v) (.slice A9 Q.fs.length c9) (.int .i64 0) (.string ⟨#[]⟩) (.int .i64 0) (.slice none 0 0) (.slice D9 Q.d.length d9) (.slice T9 Q.f.length k9))
  have HF6 : Hid (Row ((((((((((u.setCell ⟨b6, 0, none⟩ (.string Q.m)).setCell ⟨b6, 1, none⟩ (.string Q.t)).setCell ⟨b6, 2, none⟩ (.int .i64 Q.v)).setCell ⟨b6, 3, none⟩ (.slice A9 Q.fs.length c9)).setCell ⟨b6, 4, none⟩ (.int .i64 0)).setCell ⟨b6, 5, none⟩ (.string ⟨#[]⟩)).setCell ⟨b6, 6, none⟩ (.int .i64 0)).setCell ⟨b6, 7, none⟩ (.slice none 0 0)).setCell ⟨b6, 8, none⟩ (.slice D9 Q.d.length d9)).setCell ⟨b6, 9, none⟩ (.slice T9 Q.f.length k9)) w.heap.size 148 2 A9 Q.fs.length c9 (fcells Q.fs)) := Lib.hid (hrF.farT10 hk6 neM (.string Q.m) (.string Q.t) (.int .i64 Q.v) (.slice A9 Q.fs.length c9) (.int .i64 0) (.string ⟨#[]⟩) (.int .i64 0) (.slice none 0 0) (.slice D9 Q.d.length d9) (.slice T9 Q.f.length k9))
  have HD6 : Hid (Row ((((((((((u.setCell ⟨b6, 0, none⟩ (.string Q.m)).setCell ⟨b6, 1, none⟩ (.string Q.t)).setCell ⟨b6, 2, none⟩ (.int .i64 Q.v)).setCell ⟨b6, 3, none⟩ (.slice A9 Q.fs.length c9)).setCell ⟨b6, 4, none⟩ (.int .i64 0)).setCell ⟨b6, 5, none⟩ (.string ⟨#[]⟩)).setCell ⟨b6, 6, none⟩ (.int .i64 0)).setCell ⟨b6, 7, none⟩ (.slice none 0 0)).setCell ⟨b6, 8, none⟩ (.slice D9 Q.d.length d9)).setCell ⟨b6, 9, none⟩ (.slice T9 Q.f.length k9)) w.heap.size 5 1 D9 Q.d.length d9 (bcells Q.d)) := Lib.hid (hrD.farT10 hk6 neMU (.string Q.m) (.string Q.t) (.int .i64 Q.v) (.slice A9 Q.fs.length c9) (.int .i64 0) (.string ⟨#[]⟩) (.int .i64 0) (.slice none 0 0) (.slice D9 Q.d.length d9) (.slice T9 Q.f.length k9))
  have HR6 : Hid (Row ((((((((((u.setCell ⟨b6, 0, none⟩ (.string Q.m)).setCell ⟨b6, 1, none⟩ (.string Q.t)).setCell ⟨b6, 2, none⟩ (.int .i64 Q.v)).setCell ⟨b6, 3, none⟩ (.slice A9 Q.fs.length c9)).setCell ⟨b6, 4, none⟩ (.int .i64 0)).setCell ⟨b6, 5, none⟩ (.string ⟨#[]⟩)).setCell ⟨b6, 6, none⟩ (.int .i64 0)).setCell ⟨b6, 7, none⟩ (.slice none 0 0)).setCell ⟨b6, 8, none⟩ (.slice D9 Q.d.length d9)).setCell ⟨b6, 9, none⟩ (.slice T9 Q.f.length k9)) w.heap.size 148 2 T9 Q.f.length k9 (fcells Q.f)) := Lib.hid (hrT.farT10 hk6 neM (.string Q.m) (.string Q.t) (.int .i64 Q.v) (.slice A9 Q.fs.length c9) (.int .i64 0) (.string ⟨#[]⟩) (.int .i64 0) (.slice none 0 0) (.slice D9 Q.d.length d9) (.slice T9 Q.f.length k9))
  clear hK a0 a1 a2 a3 a4 a5 a6 a7 a8 a9 g0 g1 g2 g3 g4 g5 g6 g7 g8 g9 hS hk6 hrF hrD hrT
  refine HT.take 16 (.int .i64 Q.n) rfl (by kernel_rfl) (fun _ _ _ h => h) (Or.inl ⟨by rfl, ?_⟩) (?_ : HT _ _ _ _ _ _ _ ⟨#[_, _, _, _, _, _, .pointer (some ⟨b6, 0, none⟩), .int .i64 Q.n, _, _, _, _, _, _, _, _, _, _, _, v19, .pointer (some ⟨b, 0, none⟩), .pointer (some ⟨b, 0, none⟩), .pointer (some ⟨b, 0, none⟩), .func (.func 20) #[] #[], .pointer (some ⟨b, 0, none⟩), .pointer (some ⟨b, 0, none⟩), .pointer (some ⟨b, 1, none⟩), .slice A held.length c, v28, v29, .agg #[.string Q.m, .string Q.t, .int .i64 Q.v, .slice A9 Q.fs.length c9, .int .i64 0, .string ⟨#[]⟩, .int .i64 0, .slice none 0 0, .slice D9 Q.d.length d9, .slice T9 Q.f.length k9], .int .i64 Q.n, .int .i64 Q.e, _, _, _, _, _, _, _, _, _, _, _, _, _, _, _, _, _, _, _, _, _, _, _, _, _, _, _], []⟩ _)
  · intro u hu
    go_simp
  refine HT.tail _ rfl rfl (by kernel_rfl) (fun hS => ?_)
  clear hS hS0 HCL HRQ
  go_wp2_with fail
  refine NoPanic.normal ?_
  go_upto_region 5 with fail
  generalize ((((((((((u.setCell ⟨b6, 0, none⟩ (.string Q.m)).setCell ⟨b6, 1, none⟩ (.string Q.t)).setCell ⟨b6, 2, none⟩ (.int .i64 Q.v)).setCell ⟨b6, 3, none⟩ (.slice A9 Q.fs.length c9)).setCell ⟨b6, 4, none⟩ (.int .i64 0)).setCell ⟨b6, 5, none⟩ (.string ⟨#[]⟩)).setCell ⟨b6, 6, none⟩ (.int .i64 0)).setCell ⟨b6, 7, none⟩ (.slice none 0 0)).setCell ⟨b6, 8, none⟩ (.slice D9 Q.d.length d9)).setCell ⟨b6, 9, none⟩ (.slice T9 Q.f.length k9)) = w6 at *
  refine (?_ : _)
  have hbz : w.heap.size ≤ w.heap.size + 1 := Nat.le_succ _
  rcases hways with ⟨E, hq⟩ | ⟨hE, k, hk0, hkl, hN, _⟩
  · have e1 : Q.e = E := by rw [hq]; rfl
    have e2 : Q.n = 0 := by rw [hq]; rfl
    rw [e1, e2] at HG2
    by_cases hE : E = 0
    · have HF := Lib.hid (HG2.out.trans ((if_neg (fun h => h hE)).trans (if_pos rfl)))
      rw [e1, e2, hE]
      clear HG2 e1 e2 hE hq HK6 HF6 HD6 HR6
      obtain ⟨q0, q1, q2, q3, q4, q5, q6, q7, q8, q9⟩ := HT6.out.2.1.cells10
      obtain ⟨a0, a1, a2, a3, a4, a5, a6, a7, a8, a9⟩ := HT6.out.1.cells10
      obtain ⟨g0, g1, g2, g3, g4, g5, g6, g7, g8, g9⟩ := HT6.out.1.free10
      go_wp2
      obtain ⟨z0, z1, z2, z3, z4, z5, z6, z7, z8, z9⟩ := (HT6.out.1.set10 (.string ⟨#[]⟩) (.string ⟨#[]⟩) (.int .i64 0) (.slice none 0 0) (.int .i64 0) (.string ⟨#[]⟩) (.int .i64 0) (.slice none 0 0) (.slice none 0 0) (.slice none 0 0)).cells10
      unfold ten at z0 z1 z2 z3 z4 z5 z6 z7 z8 z9
      refine bodyPost_ret (v := .tuple #[.agg #[.string ⟨#[]⟩, .string ⟨#[]⟩, .int .i64 0, .slice none 0 0, .int .i64 0, .string ⟨#[]⟩, .int .i64 0, .slice none 0 0, .slice none 0 0, .slice none 0 0], .bool false, .int .i64 0]) (by simp [results, Tryz.results24, go_sem, z0, z1, z2, z3, z4, z5, z6, z7, z8, z9]) rfl ?_
      exact RetNext.zero HF.out (HBX.out.below (below_ten HT6.out.2.2 (Nat.le_refl _) (.string ⟨#[]⟩) (.string ⟨#[]⟩) (.int .i64 0) (.slice none 0 0) (.int .i64 0) (.string ⟨#[]⟩) (.int .i64 0) (.slice none 0 0) (.slice none 0 0) (.slice none 0 0))) (KeptB.of_below (below_ten HT6.out.2.2 (Nat.le_refl _) (.string ⟨#[]⟩) (.string ⟨#[]⟩) (.int .i64 0) (.slice none 0 0) (.int .i64 0) (.string ⟨#[]⟩) (.int .i64 0) (.slice none 0 0) (.slice none 0 0) (.slice none 0 0)) hBw)
    · have HF := Lib.hid (HG2.out.trans (if_pos hE))
      have hEb : (E != 0) = true := by rw [bne_iff_ne]; exact hE
      rw [e1, e2]
      rw [e1, e2] at *
      clear HG2 e1 e2 hq HK6 HF6 HD6 HR6
      have HX6 := Lib.hid (HBX.out.below HT6.out.2.2)
      obtain ⟨y0, y1, y2⟩ := HX6.out.blk.cells3
      have f2 := HX6.out.blk.free 2
      have hbw : b ≠ w.heap.size := by omega
      have hbw1 : b ≠ w.heap.size + 1 := by omega
      go_upto_region 7 with fail
      have HB7 : Hid (Blk (w6.setCell ⟨b, 2, none⟩ (.int .i64 E)) b #[(.func (.func 20) #[] #[]), .slice A held.length c, .int .i64 E] 138) := Lib.hid (HX6.out.blk.set 2 _)
      have HK7 : Hid (KeptB w.heap.size b w (w6.setCell ⟨b, 2, none⟩ (.int .i64 E))) := Lib.hid ((KeptB.of_low HT6.out.2.2 (Nat.le_refl _)).set 2 _)
      have HR7 := Lib.hid (HT6.out.1.far 2 (.int .i64 E) hbw)
      have HN7 := Lib.hid (HT6.out.2.1.far 2 (.int .i64 E) hbw1)
      clear HT6 HX6 y0 y1 y2 f2
      generalize w6.setCell ⟨b, 2, none⟩ (.int .i64 E) = w7 at *
      obtain ⟨q0, q1, q2, q3, q4, q5, q6, q7, q8, q9⟩ := HN7.out.cells10
      obtain ⟨a0, a1, a2, a3, a4, a5, a6, a7, a8, a9⟩ := HR7.out.cells10
      obtain ⟨g0, g1, g2, g3, g4, g5, g6, g7, g8, g9⟩ := HR7.out.free10
      go_wp2
      obtain ⟨z0, z1, z2, z3, z4, z5, z6, z7, z8, z9⟩ := (HR7.out.set10 (.string ⟨#[]⟩) (.string ⟨#[]⟩) (.int .i64 0) (.slice none 0 0) (.int .i64 0) (.string ⟨#[]⟩) (.int .i64 0) (.slice none 0 0) (.slice none 0 0) (.slice none 0 0)).cells10
      unfold ten at z0 z1 z2 z3 z4 z5 z6 z7 z8 z9
      refine bodyPost_ret (v := .tuple #[.agg #[.string ⟨#[]⟩, .string ⟨#[]⟩, .int .i64 0, .slice none 0 0, .int .i64 0, .string ⟨#[]⟩, .int .i64 0, .slice none 0 0, .slice none 0 0, .slice none 0 0], .bool false, .int .i64 E]) (by simp [results, Tryz.results24, go_sem, z0, z1, z2, z3, z4, z5, z6, z7, z8, z9]) rfl ?_
      have hkf := HK7.out.trans (KeptB.of_low (below_ten (Below.refl w.heap.size w7) (Nat.le_refl _) (.string ⟨#[]⟩) (.string ⟨#[]⟩) (.int .i64 0) (.slice none 0 0) (.int .i64 0) (.string ⟨#[]⟩) (.int .i64 0) (.slice none 0 0) (.slice none 0 0) (.slice none 0 0)) (Nat.le_refl _))
      exact RetNext.zero HF.out (HBX.out.turned hkf (HB7.out.far10 hbw.symm (.string ⟨#[]⟩) (.string ⟨#[]⟩) (.int .i64 0) (.slice none 0 0) (.int .i64 0) (.string ⟨#[]⟩) (.int .i64 0) (.slice none 0 0) (.slice none 0 0) (.slice none 0 0)) HBX.out.row) (hkf.mono hBw)
  · have hn0 : ¬ Q.n = 0 := by omega
    have hnb : (Q.n != 0) = true := by rw [bne_iff_ne]; exact hn0
    have hEb : (Q.e != 0) = false := by rw [hE]; rfl
    have HF : Hid (G = ⟨Q, true, 0, held.drop k, 0⟩) := Lib.hid (by rw [HG2.out, if_neg (by omega), if_neg hn0, hN, Int.toNat_natCast])
    have hle0 : (decide (Q.n ≤ 0)) = false := decide_eq_false (by omega)
    clear HG2
    have HX6 := Lib.hid (HBX.out.below HT6.out.2.2)
    have hbw : b ≠ w.heap.size := by omega
    have hbw1 : b ≠ b6 := by omega
    have hcl : held.length ≤ c := HBX.out.row.2.1
    rw [hN, hE]
    have hkb : ((k : Int) != 0) = true := by rw [bne_iff_ne]; omega
    have hkd : ¬ (k : Int) ≤ 0 := by omega
    obtain ⟨ag, ao, rfl⟩ : ∃ (ag ao : Nat), A = some ⟨ag, ao, none⟩ := by
      rcases HBX.out.row.2.2 with h | ⟨g, o, h, _⟩
      · omega
      · exact ⟨g, o, h⟩
    go_upto_region 10 with fail
    have HT7 : Hid (Two w #[.string ⟨#[]⟩, .string ⟨#[]⟩, .int .i64 0, .slice none 0 0, .int .i64 0, .string ⟨#[]⟩, .int .i64 0, .slice none 0 0, .slice none 0 0, .slice none 0 0] 29 #[.string ⟨#[]⟩, .string ⟨#[]⟩, .int .i64 0, .slice none 0 0, .int .i64 0, .string ⟨#[]⟩, .int .i64 0, .slice none 0 0, .slice none 0 0, .slice none 0 0] 29 w6.drew) := Lib.hid HT6.out.drew
    have HK7 : Hid (Blk w6.drew b6 #[.string Q.m, .string Q.t, .int .i64 Q.v, .slice A9 Q.fs.length c9, .int .i64 0, .string ⟨#[]⟩, .int .i64 0, .slice none 0 0, .slice D9 Q.d.length d9, .slice T9 Q.f.length k9] 29) := Lib.hid HK6.out
    have HF7 : Hid (Row w6.drew w.heap.size 148 2 A9 Q.fs.length c9 (fcells Q.fs)) := Lib.hid HF6.out.drew
    have HD7 : Hid (Row w6.drew w.heap.size 5 1 D9 Q.d.length d9 (bcells Q.d)) := Lib.hid HD6.out.drew
    have HR7 : Hid (Row w6.drew w.heap.size 148 2 T9 Q.f.length k9 (fcells Q.f)) := Lib.hid HR6.out.drew
    clear HT6 HK6 HF6 HD6 HR6
    have hS0 : Blk w6.drew b #[(.func (.func 20) #[] #[]), .slice (some ⟨ag, ao, none⟩) held.length c, .int .i64 0] 138 := HX6.out.blk
    refine wp_region_noPanic ?_
    refine HT.begin (n := 13) (S := (fun u => Blk u b #[(.func (.func 20) #[] #[]), .slice (some ⟨ag, ao, none⟩) held.length c, .int .i64 0] 138)) (by kernel_rfl) hS0 ?_
    generalize w6.drew = wd at *
    refine HT.take 0 (.pointer (some ⟨b, 0, none⟩)) rfl (by kernel_rfl) (fun _ _ _ h => h) (Or.inl ⟨by rfl, ?_⟩) (?_ : HT _ _ _ _ _ _ _ ⟨#[_, _, _, _, _, _, _, _, _, _, _, _, _, _, _, _, _, _, _, _, _, _, _, _, _, _, _, _, _, _, _, _, _, _, _, _, _, _, _, _, _, _, _, _, .pointer (some ⟨b, 0, none⟩), _, _, _, _, _, _, _, _, _, _, _, _, _, _, _], []⟩ _)
    · intro u hu
      go_simp
    refine HT.take 1 (.pointer (some ⟨b, 0, none⟩)) rfl (by kernel_rfl) (fun _ _ _ h => h) (Or.inl ⟨by rfl, ?_⟩) (?_ : HT _ _ _ _ _ _ _ ⟨#[_, _, _, _, _, _, _, _, _, _, _, _, _, _, _, _, _, _, _, _, _, _, _, _, _, _, _, _, _, _, _, _, _, _, _, _, _, _, _, _, _, _, _, _, .pointer (some ⟨b, 0, none⟩), .pointer (some ⟨b, 0, none⟩), _, _, _, _, _, _, _, _, _, _, _, _, _, _], []⟩ _)
    · intro u hu
      go_simp
    refine HT.take 2 (.pointer (some ⟨b, 0, none⟩)) rfl (by kernel_rfl) (fun _ _ _ h => h) (Or.inl ⟨by rfl, ?_⟩) (?_ : HT _ _ _ _ _ _ _ ⟨#[_, _, _, _, _, _, _, _, _, _, _, _, _, _, _, _, _, _, _, _, _, _, _, _, _, _, _, _, _, _, _, _, _, _, _, _, _, _, _, _, _, _, _, _, .pointer (some ⟨b, 0, none⟩), .pointer (some ⟨b, 0, none⟩), .pointer (some ⟨b, 0, none⟩), _, _, _, _, _, _, _, _, _, _, _, _, _], []⟩ _)
    · intro u hu
      go_simp
    refine HT.take 3 (.pointer (some ⟨b, 1, none⟩)) rfl (by kernel_rfl) (fun _ _ _ h => h) (Or.inl ⟨by rfl, ?_⟩) (?_ : HT _ _ _ _ _ _ _ ⟨#[_, _, _, _, _, _, _, _, _, _, _, _, _, _, _, _, _, _, _, _, _, _, _, _, _, _, _, _, _, _, _, _, _, _, _, _, _, _, _, _, _, _, _, _, .pointer (some ⟨b, 0, none⟩), .pointer (some ⟨b, 0, none⟩), .pointer (some ⟨b, 0, none⟩), .pointer (some ⟨b, 1, none⟩), _, _, _, _, _, _, _, _, _, _, _, _], []⟩ _)
    · intro u hu
      go_simp
    refine HT.take 4 (.slice (some ⟨ag, ao, none⟩) held.length c) rfl (by kernel_rfl) (fun _ _ _ h => h) (Or.inl ⟨by rfl, ?_⟩) (?_ : HT _ _ _ _ _ _ _ ⟨#[_, _, _, _, _, _, _, _, _, _, _, _, _, _, _, _, _, _, _, _, _, _, _, _, _, _, _, _, _, _, _, _, _, _, _, _, _, _, _, _, _, _, _, _, .pointer (some ⟨b, 0, none⟩), .pointer (some ⟨b, 0, none⟩), .pointer (some ⟨b, 0, none⟩), .pointer (some ⟨b, 1, none⟩), .slice (some ⟨ag, ao, none⟩) held.length c, _, _, _, _, _, _, _, _, _, _, _], []⟩ _)
    · intro u hu
      obtain ⟨y0, y1, y2⟩ := hu.cells3
      go_simp
    refine HT.take 5 (.int .i64 k) rfl (by kernel_rfl) (fun _ _ _ h => h) (Or.inl ⟨by rfl, ?_⟩) (?_ : HT _ _ _ _ _ _ _ ⟨#[_, _, _, _, _, _, _, _, _, _, _, _, _, _, _, _, _, _, _, _, _, _, _, _, _, _, _, _, _, _, _, _, _, _, _, _, _, _, _, _, _, _, _, _, .pointer (some ⟨b, 0, none⟩), .pointer (some ⟨b, 0, none⟩), .pointer (some ⟨b, 0, none⟩), .pointer (some ⟨b, 1, none⟩), .slice (some ⟨ag, ao, none⟩) held.length c, .int .i64 k, _, _, _, _, _, _, _, _, _, _], []⟩ _)
    · intro u hu
      go_simp
    refine HT.take 6 (.pointer (some ⟨b, 0, none⟩)) rfl (by kernel_rfl) (fun _ _ _ h => h) (Or.inl ⟨by rfl, ?_⟩) (?_ : HT _ _ _ _ _ _ _ ⟨#[_, _, _, _, _, _, _, _, _, _, _, _, _, _, _, _, _, _, _, _, _, _, _, _, _, _, _, _, _, _, _, _, _, _, _, _, _, _, _, _, _, _, _, _, .pointer (some ⟨b, 0, none⟩), .pointer (some ⟨b, 0, none⟩), .pointer (some ⟨b, 0, none⟩), .pointer (some ⟨b, 1, none⟩), .slice (some ⟨ag, ao, none⟩) held.length c, .int .i64 k, .pointer (some ⟨b, 0, none⟩), _, _, _, _, _, _, _, _, _], []⟩ _)
    · intro u hu
      go_simp
    refine HT.take 7 (.pointer (some ⟨b, 0, none⟩)) rfl (by kernel_rfl) (fun _ _ _ h => h) (Or.inl ⟨by rfl, ?_⟩) (?_ : HT _ _ _ _ _ _ _ ⟨#[_, _, _, _, _, _, _, _, _, _, _, _, _, _, _, _, _, _, _, _, _, _, _, _, _, _, _, _, _, _, _, _, _, _, _, _, _, _, _, _, _, _, _, _, .pointer (some ⟨b, 0, none⟩), .pointer (some ⟨b, 0, none⟩), .pointer (some ⟨b, 0, none⟩), .pointer (some ⟨b, 1, none⟩), .slice (some ⟨ag, ao, none⟩) held.length c, .int .i64 k, .pointer (some ⟨b, 0, none⟩), .pointer (some ⟨b, 0, none⟩), _, _, _, _, _, _, _, _], []⟩ _)
    · intro u hu
      go_simp
    refine HT.take 8 (.pointer (some ⟨b, 1, none⟩)) rfl (by kernel_rfl) (fun _ _ _ h => h) (Or.inl ⟨by rfl, ?_⟩) (?_ : HT _ _ _ _ _ _ _ ⟨#[_, _, _, _, _, _, _, _, _, _, _, _, _, _, _, _, _, _, _, _, _, _, _, _, _, _, _, _, _, _, _, _, _, _, _, _, _, _, _, _, _, _, _, _, .pointer (some ⟨b, 0, none⟩), .pointer (some ⟨b, 0, none⟩), .pointer (some ⟨b, 0, none⟩), .pointer (some ⟨b, 1, none⟩), .slice (some ⟨ag, ao, none⟩) held.length c, .int .i64 k, .pointer (some ⟨b, 0, none⟩), .pointer (some ⟨b, 0, none⟩), .pointer (some ⟨b, 1, none⟩), _, _, _, _, _, _, _], []⟩ _)
    · intro u hu
      go_simp
    refine HT.take 9 (.slice (some ⟨ag, ao, none⟩) held.length c) rfl (by kernel_rfl) (fun _ _ _ h => h) (Or.inl ⟨by rfl, ?_⟩) (?_ : HT _ _ _ _ _ _ _ ⟨#[_, _, _, _, _, _, _, _, _, _, _, _, _, _, _, _, _, _, _, _, _, _, _, _, _, _, _, _, _, _, _, _, _, _, _, _, _, _, _, _, _, _, _, _, .pointer (some ⟨b, 0, none⟩), .pointer (some ⟨b, 0, none⟩), .pointer (some ⟨b, 0, none⟩), .pointer (some ⟨b, 1, none⟩), .slice (some ⟨ag, ao, none⟩) held.length c, .int .i64 k, .pointer (some ⟨b, 0, none⟩), .pointer (some ⟨b, 0, none⟩), .pointer (some ⟨b, 1, none⟩), .slice (some ⟨ag, ao, none⟩) held.length c, _, _, _, _, _, _], []⟩ _)
    · intro u hu
      obtain ⟨y0, y1, y2⟩ := hu.cells3
      go_simp
    refine HT.take 10 (.int .i64 held.length) rfl (by kernel_rfl) (fun _ _ _ h => h) (Or.inl ⟨by rfl, ?_⟩) (?_ : HT _ _ _ _ _ _ _ ⟨#[_, _, _, _, _, _, _, _, _, _, _, _, _, _, _, _, _, _, _, _, _, _, _, _, _, _, _, _, _, _, _, _, _, _, _, _, _, _, _, _, _, _, _, _, .pointer (some ⟨b, 0, none⟩), .pointer (some ⟨b, 0, none⟩), .pointer (some ⟨b, 0, none⟩), .pointer (some ⟨b, 1, none⟩), .slice (some ⟨ag, ao, none⟩) held.length c, .int .i64 k, .pointer (some ⟨b, 0, none⟩), .pointer (some ⟨b, 0, none⟩), .pointer (some ⟨b, 1, none⟩), .slice (some ⟨ag, ao, none⟩) held.length c, .int .i64 held.length, _, _, _, _, _], []⟩ _)
    · intro u hu
      go_simp
    refine HT.take 11 (.int .i64 k) rfl (by kernel_rfl) (fun _ _ _ h => h) (Or.inl ⟨by rfl, ?_⟩) (?_ : HT _ _ _ _ _ _ _ ⟨#[_, _, _, _, _, _, _, _, _, _, _, _, _, _, _, _, _, _, _, _, _, _, _, _, _, _, _, _, _, _, _, _, _, _, _, _, _, _, _, _, _, _, _, _, .pointer (some ⟨b, 0, none⟩), .pointer (some ⟨b, 0, none⟩), .pointer (some ⟨b, 0, none⟩), .pointer (some ⟨b, 1, none⟩), .slice (some ⟨ag, ao, none⟩) held.length c, .int .i64 k, .pointer (some ⟨b, 0, none⟩), .pointer (some ⟨b, 0, none⟩), .pointer (some ⟨b, 1, none⟩), .slice (some ⟨ag, ao, none⟩) held.length c, .int .i64 held.length, .int .i64 k, _, _, _, _], []⟩ _)
    · intro u hu
      go_simp
      omega
    refine HT.take 12 (.slice (addA (some ⟨ag, ao, none⟩) c k) (held.length - k) (c - k)) rfl (by kernel_rfl) (fun _ _ _ h => h) (Or.inl ⟨by rfl, ?_⟩) (?_ : HT _ _ _ _ _ _ _ ⟨#[_, _, _, _, _, _, _, _, _, _, _, _, _, _, _, _, _, _, _, _, _, _, _, _, _, _, _, _, _, _, _, _, _, _, _, _, _, _, _, _, _, _, _, _, .pointer (some ⟨b, 0, none⟩), .pointer (some ⟨b, 0, none⟩), .pointer (some ⟨b, 0, none⟩), .pointer (some ⟨b, 1, none⟩), .slice (some ⟨ag, ao, none⟩) held.length c, .int .i64 k, .pointer (some ⟨b, 0, none⟩), .pointer (some ⟨b, 0, none⟩), .pointer (some ⟨b, 1, none⟩), .slice (some ⟨ag, ao, none⟩) held.length c, .int .i64 held.length, .int .i64 k, .slice (addA (some ⟨ag, ao, none⟩) c k) (held.length - k) (c - k), _, _, _], []⟩ _)
    · intro u hu
      go_simp
      rw [addA_ite]
    refine HT.tail _ rfl rfl (by kernel_rfl) (fun hS => ?_)
    have HS := Lib.hid hS
    clear hS hS0 HX6
    obtain ⟨y0, y1, y2⟩ := HS.out.cells3
    have f1 := HS.out.free 1
    go_wp2_with fail
    refine NoPanic.normal ?_
    go_upto_region 11 with fail
    have HB8 : Hid (Blk (wd.setCell ⟨b, 1, none⟩ (.slice (addA (some ⟨ag, ao, none⟩) c k) (held.length - k) (c - k))) b #[(.func (.func 20) #[] #[]), .slice (addA (some ⟨ag, ao, none⟩) c k) (held.length - k) (c - k), .int .i64 0] 138) := Lib.hid (HS.out.set 1 _)
    have HK8 : Hid (KeptB w.heap.size b w (wd.setCell ⟨b, 1, none⟩ (.slice (addA (some ⟨ag, ao, none⟩) c k) (held.length - k) (c - k)))) := Lib.hid ((KeptB.of_low HT7.out.2.2 (Nat.le_refl _)).set 1 _)
    have HR8 := Lib.hid (HT7.out.1.far 1 (.slice (addA (some ⟨ag, ao, none⟩) c k) (held.length - k) (c - k)) hbw)
    have HQ8 := Lib.hid (HK7.out.far 1 (.slice (addA (some ⟨ag, ao, none⟩) c k) (held.length - k) (c - k)) hbw1)
    have HF8 := Lib.hid (HF7.out.farT HS.out (by decide) 1 (.slice (addA (some ⟨ag, ao, none⟩) c k) (held.length - k) (c - k)))
    have HD8 := Lib.hid (HD7.out.farT HS.out (by decide) 1 (.slice (addA (some ⟨ag, ao, none⟩) c k) (held.length - k) (c - k)))
    have HT8 := Lib.hid (HR7.out.farT HS.out (by decide) 1 (.slice (addA (some ⟨ag, ao, none⟩) c k) (held.length - k) (c - k)))
    clear HT7 HK7 HF7 HD7 HR7 HS y0 y1 y2 f1
    generalize (wd.setCell ⟨b, 1, none⟩ (.slice (addA (some ⟨ag, ao, none⟩) c k) (held.length - k) (c - k))) = w8 at *
    obtain ⟨q0, q1, q2, q3, q4, q5, q6, q7, q8, q9⟩ := HQ8.out.cells10
    obtain ⟨a0, a1, a2, a3, a4, a5, a6, a7, a8, a9⟩ := HR8.out.cells10
    obtain ⟨g0, g1, g2, g3, g4, g5, g6, g7, g8, g9⟩ := HR8.out.free10
    go_wp2
    obtain ⟨z0, z1, z2, z3, z4, z5, z6, z7, z8, z9⟩ := (HR8.out.set10 (.string Q.m) (.string Q.t) (.int .i64 Q.v) (.slice A9 Q.fs.length c9) (.int .i64 0) (.string ⟨#[]⟩) (.int .i64 0) (.slice none 0 0) (.slice D9 Q.d.length d9) (.slice T9 Q.f.length k9)).cells10
    unfold ten at z0 z1 z2 z3 z4 z5 z6 z7 z8 z9
    refine bodyPost_ret (v := .tuple #[.agg #[.string Q.m, .string Q.t, .int .i64 Q.v, .slice A9 Q.fs.length c9, .int .i64 0, .string ⟨#[]⟩, .int .i64 0, .slice none 0 0, .slice D9 Q.d.length d9, .slice T9 Q.f.length k9], .bool true, .int .i64 0]) (by simp [results, Tryz.results24, go_sem, z0, z1, z2, z3, z4, z5, z6, z7, z8, z9]) rfl ?_
    have hkf : KeptB w.heap.size b w (ten w8 w.heap.size (.string Q.m) (.string Q.t) (.int .i64 Q.v) (.slice A9 Q.fs.length c9) (.int .i64 0) (.string ⟨#[]⟩) (.int .i64 0) (.slice none 0 0) (.slice D9 Q.d.length d9) (.slice T9 Q.f.length k9)) := HK8.out.trans (KeptB.of_low (below_ten (Below.refl w.heap.size w8) (Nat.le_refl _) (.string Q.m) (.string Q.t) (.int .i64 Q.v) (.slice A9 Q.fs.length c9) (.int .i64 0) (.string ⟨#[]⟩) (.int .i64 0) (.slice none 0 0) (.slice D9 Q.d.length d9) (.slice T9 Q.f.length k9)) (Nat.le_refl _))
    have hld : (held.drop k).length = held.length - k := List.length_drop
    rw [HF.out]
    refine ⟨⟨A9, c9, D9, d9, T9, k9, rfl, HF8.out.farT10 HR8.out neM (.string Q.m) (.string Q.t) (.int .i64 Q.v) (.slice A9 Q.fs.length c9) (.int .i64 0) (.string ⟨#[]⟩) (.int .i64 0) (.slice none 0 0) (.slice D9 Q.d.length d9) (.slice T9 Q.f.length k9), HD8.out.farT10 HR8.out neMU (.string Q.m) (.string Q.t) (.int .i64 Q.v) (.slice A9 Q.fs.length c9) (.int .i64 0) (.string ⟨#[]⟩) (.int .i64 0) (.slice none 0 0) (.slice D9 Q.d.length d9) (.slice T9 Q.f.length k9), HT8.out.farT10 HR8.out neM (.string Q.m) (.string Q.t) (.int .i64 Q.v) (.slice A9 Q.fs.length c9) (.int .i64 0) (.string ⟨#[]⟩) (.int .i64 0) (.slice none 0 0) (.slice D9 Q.d.length d9) (.slice T9 Q.f.length k9)⟩, ⟨addA (some ⟨ag, ao, none⟩) c k, c - k, HBX.out.turned hkf ?_ (by rw [hld]; exact HBX.out.row.drop hkl)⟩, hkf.mono hBw⟩
    rw [hld]
    exact HB8.out.far10 hbw.symm (.string Q.m) (.string Q.t) (.int .i64 Q.v) (.slice A9 Q.fs.length c9) (.int .i64 0) (.string ⟨#[]⟩) (.int .i64 0) (.slice none 0 0) (.slice D9 Q.d.length d9) (.slice T9 Q.f.length k9)
end Go.Proofs.YteehjkfmlcfffaaGreatDoor
