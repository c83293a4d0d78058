/- The walks of the document's body and Request (printed by gen/msgr.py). Conditions: a row of at most 2^28 bytes. The walk of the document's Request of whole messages (printed by gen/msgs.py). Conditions: a row of at most 2^28 bytes. The walk of SameMessage, of two messages that read alike (printed by gen/msgt.py). Conditions: lists of at most 2^40 elements. -/
import Derived.Test.YteehjkfmlcfffaaGreatDoorMsgA
import Derived.Test.YteehjkfmlcfffaaGreatDoorChunkRA
import Derived.Test.YteehjkfmlcfffaaGreatDoorChunkAA
import Derived.IntWalk
import Derived.Test.YteehjkfmlcfffaaGreatDoorRegionA
import Derived.Test.YteehjkfmlcfffaaGreatDoorReplyA
import Derived.Test.YteehjkfmlcfffaaGreatDoorSameQ
namespace Go.Proofs.YteehjkfmlcfffaaGreatDoor
open Go.RowKit

/-- A body answered. -/
def RetBody (w : World) (r : M.BD) (e : Ending) (w' : World) : Prop :=
  ∃ D d T j, e = .returned (.tuple #[.slice D r.d.length d, .slice T r.f.length j, .int .i64 r.n, .int .i64 r.e]) ∧ CRow w' w.heap.size D r.d.length d r.d ∧ Row w' w.heap.size 148 2 T r.f.length j (fcells r.f) ∧ Below w.heap.size w w'
theorem RetBody.bad {w w' : World} {r : M.BD} {code : Int} (hb : Below w.heap.size w w') (h : r = .bad code) : RetBody w r (.returned (.tuple #[.slice none 0 0, .slice none 0 0, .int .i64 0, .int .i64 code])) w' := by
  subst h
  exact ⟨none, 0, none, 0, rfl, CRow.none_ _ _, Row.none_ _ _ _ _, hb⟩
/-- A list of bytes out of another: where it begins. -/
theorem addA_some {b o c k : Nat} : ∃ a : Addr, addA (some ⟨b, o, none⟩) c k = some a ∧ a.spot = none := by
  by_cases h : k = c
  · exact ⟨⟨b, o, none⟩, by rw [h]; exact addA_end, rfl⟩
  · exact ⟨⟨b, o + k, none⟩, addA_in h, rfl⟩
set_option maxHeartbeats 4000000 in
set_option maxRecDepth 100000 in
theorem refBody_any (A : Option Addr) (c : Nat) (bs : List UInt8) (N : Nat) (k z : Int) (w : World) (hnm : bs.length ≤ 268435456) (hnc : bs.length ≤ c) (hN0 : 0 < N) (hN : N ≤ bs.length) (hk : k = 0 ∨ k = 1 ∨ k = 2) (hz0 : 0 ≤ z) (hz : z ≤ 65536) (hzk : k ≠ 1 → z = 0) (hx : Rd w A bs.length 1 (bcells bs)) :
    Calls Tryz.prog 70 #[.slice A bs.length c, .int .i64 N, .agg #[.int .i64 k, .int .i64 z]] w (RetBody w (M.body bs N k z)) := by
  obtain ⟨b, o, rfl, _, _⟩ := hx.2 (by omega)
  obtain ⟨Z, rfl⟩ : ∃ Z : Nat, z = (Z : Int) := ⟨z.toNat, by omega⟩
  have HK1 := Lib.hid (Blk.new w #[.int .i64 k, .int .i64 Z] 130)
  have HL1 : Hid (Below w.heap.size w (w.alloc (.cells #[.int .i64 k, .int .i64 Z] 130))) := Lib.hid ((Below.refl w.heap.size w).alloc (Nat.le_refl _) _)
  have HX := Lib.hid (fun (u : World) (hu : Below w.heap.size w u) => hx.below hu)
  clear hx
  obtain ⟨y0, y1⟩ := HK1.out.cells2
  rcases hk with rfl | rfl | rfl
  · obtain rfl : Z = 0 := by have := hzk (by decide); omega
    rw [M.body_none]
    go_enter Tryz.func70, Tryz.ntmps70
    go_wp2
    refine bodyPost_ret (v := .tuple #[.slice none 0 0, .slice none 0 0, .int .i64 N, .int .i64 0]) (by simp [results, Tryz.results70, go_sem]) rfl ?_
    exact ⟨none, 0, none, 0, by simp, CRow.none_ _ _, Row.none_ _ _ _ _, HL1.out⟩
  · by_cases hs : (bs.length : Int) < (N : Int) + (Z : Int)
    · have HR := Lib.hid (M.body_short hs)
      have hsi : (bs.length : Int) - (N : Int) < (Z : Int) := by omega
      go_enter Tryz.func70, Tryz.ntmps70
      go_wp2
      refine bodyPost_ret (v := .tuple #[.slice none 0 0, .slice none 0 0, .int .i64 0, .int .i64 0]) (by simp [results, Tryz.results70, go_sem]) rfl ?_
      exact RetBody.bad HL1.out HR.out
    · have HR := Lib.hid (M.body_len hs)
      have hsi : ¬ (bs.length : Int) - (N : Int) < (Z : Int) := by omega
      have hZ : N + Z ≤ bs.length := by omega
      have hlen : ((bs.drop N).take Z).length = Z := by rw [List.length_take, List.length_drop]; omega
      obtain ⟨a, ha, _⟩ := addA_some (b := b) (o := o) (c := c) (k := N)
      have HCB := Lib.hid (fun (u : World) (hu : Below w.heap.size w u) => show Calls Tryz.prog 21 #[.slice (some a) Z (c - N)] u (RetC u ((bs.drop N).take Z)) from by
        have := copyBytes_any (some a) (c - N) ((bs.drop N).take Z) u (by omega) (by rw [hlen, ← ha]; exact ((HX.out u hu).fromA hnc hN).upto (by omega))
        rwa [hlen] at this)
      obtain ⟨D, hD⟩ : ∃ D, (bs.drop N).take Z = D := ⟨_, rfl⟩
      have HLD : Hid (D.length = Z) := Lib.hid (by rw [← hD]; exact hlen)
      have HR2 : Hid (M.body bs N 1 Z = ⟨D, [], N + Z, 0⟩) := Lib.hid (by rw [HR.out, Int.toNat_natCast, hD])
      rw [hD] at HCB
      rw [HR2.out]
      have hAI : (if c = N then some (⟨b, o, none⟩ : Addr) else some ⟨b, o + N, none⟩) = some a := by rw [← ha, addA_ite]
      have hwr : IntKind.i64.wrap ((N : Int) + (Z : Int)) = (N : Int) + (Z : Int) := IntWalk.i64_in _ (by omega)
      have hTN : ((N : Int) + (Z : Int)).toNat = N + Z := by omega
      clear HR HR2 hD hlen ha
      have hli : (N : Int) + (Z : Int) ≤ (c : Int) := by omega
      have hni : (N : Int) ≤ (c : Int) := by omega
      have hsz : ((N : Int) + (Z : Int) - (N : Int)).toNat = Z := by omega
      go_enter Tryz.func70, Tryz.ntmps70
      go_wp2_with fail
      have hS0 : Blk (w.alloc (.cells #[.int .i64 1, .int .i64 Z] 130)).drew w.heap.size #[.int .i64 1, .int .i64 Z] 130 ∧ Below w.heap.size w (w.alloc (.cells #[.int .i64 1, .int .i64 Z] 130)).drew := ⟨HK1.out.drew, HL1.out.drew⟩
      clear y0 y1
      refine HT.begin (n := 14) (S := (fun v => Blk v w.heap.size #[.int .i64 1, .int .i64 Z] 130 ∧ Below w.heap.size w v)) (by kernel_rfl) hS0 ?_
      generalize (w.alloc (.cells #[.int .i64 1, .int .i64 Z] 130)).drew = u2 at *
      refine HT.take 0 (.slice (some ⟨b, o, none⟩) bs.length c) rfl (by kernel_rfl) (fun _ _ _ h => h) (Or.inl ⟨by rfl, ?_⟩) (?_ : HT _ _ _ _ _ _ _ ⟨#[_, _, _, _, _, _, _, _, _, _, _, _, _, _, _, _, _, _, _, _, _, _, _, _, _, .slice (some ⟨b, o, none⟩) bs.length c, _, _, _, _, _, _, _, _, _, _, _, _, _, _, _, _, _, _, _, _, _, _, _, _, _, _, _, _, _, _, _, _, _, _, _], []⟩ _)
      · intro u hu
        go_simp
      refine HT.take 1 (.int .i64 N) rfl (by kernel_rfl) (fun _ _ _ h => h) (Or.inl ⟨by rfl, ?_⟩) (?_ : HT _ _ _ _ _ _ _ ⟨#[_, _, _, _, _, _, _, _, _, _, _, _, _, _, _, _, _, _, _, _, _, _, _, _, _, .slice (some ⟨b, o, none⟩) bs.length c, .int .i64 N, _, _, _, _, _, _, _, _, _, _, _, _, _, _, _, _, _, _, _, _, _, _, _, _, _, _, _, _, _, _, _, _, _, _], []⟩ _)
      · intro u hu
        go_simp
      refine HT.take 2 (.int .i64 N) rfl (by kernel_rfl) (fun _ _ _ h => h) (Or.inl ⟨by rfl, ?_⟩) (?_ : HT _ _ _ _ _ _ _ ⟨#[_, _, _, _, _, _, _, _, _, _, _, _, _, _, _, _, _, _, _, _, _, _, _, _, _, .slice (some ⟨b, o, none⟩) bs.length c, .int .i64 N, .int .i64 N, _, _, _, _, _, _, _, _, _, _, _, _, _, _, _, _, _, _, _, _, _, _, _, _, _, _, _, _, _, _, _, _, _], []⟩ _)
      · intro u hu
        go_simp
      refine HT.take 3 (.pointer (some ⟨w.heap.size, 1, none⟩)) rfl (by kernel_rfl) (fun _ _ _ h => h) (Or.inl ⟨by rfl, ?_⟩) (?_ : HT _ _ _ _ _ _ _ ⟨#[_, _, _, _, _, _, _, _, _, _, _, _, _, _, _, _, _, _, _, _, _, _, _, _, _, .slice (some ⟨b, o, none⟩) bs.length c, .int .i64 N, .int .i64 N, .pointer (some ⟨w.heap.size, 1, none⟩), _, _, _, _, _, _, _, _, _, _, _, _, _, _, _, _, _, _, _, _, _, _, _, _, _, _, _, _, _, _, _, _], []⟩ _)
      · intro u hu
        go_simp
      refine HT.take 4 (.int .i64 Z) rfl (by kernel_rfl) (fun _ _ _ h => h) (Or.inl ⟨by rfl, ?_⟩) (?_ : HT _ _ _ _ _ _ _ ⟨#[_, _, _, _, _, _, _, _, _, _, _, _, _, _, _, _, _, _, _, _, _, _, _, _, _, .slice (some ⟨b, o, none⟩) bs.length c, .int .i64 N, .int .i64 N, .pointer (some ⟨w.heap.size, 1, none⟩), .int .i64 Z, _, _, _, _, _, _, _, _, _, _, _, _, _, _, _, _, _, _, _, _, _, _, _, _, _, _, _, _, _, _, _], []⟩ _)
      · intro u hu
        obtain ⟨x0, x1⟩ := hu.1.cells2
        go_simp
      refine HT.take 5 (.int .i64 (N + Z)) rfl (by kernel_rfl) (fun _ _ _ h => h) (Or.inl ⟨by rfl, ?_⟩) (?_ : HT _ _ _ _ _ _ _ ⟨#[_, _, _, _, _, _, _, _, _, _, _, _, _, _, _, _, _, _, _, _, _, _, _, _, _, .slice (some ⟨b, o, none⟩) bs.length c, .int .i64 N, .int .i64 N, .pointer (some ⟨w.heap.size, 1, none⟩), .int .i64 Z, .int .i64 (N + Z), _, _, _, _, _, _, _, _, _, _, _, _, _, _, _, _, _, _, _, _, _, _, _, _, _, _, _, _, _, _], []⟩ _)
      · intro u hu
        go_simp
      refine HT.take 6 (.slice (some a) Z (c - N)) rfl (by kernel_rfl) (fun _ _ _ h => h) (Or.inl ⟨by rfl, ?_⟩) (?_ : HT _ _ _ _ _ _ _ ⟨#[_, _, _, _, _, _, _, _, _, _, _, _, _, _, _, _, _, _, _, _, _, _, _, _, _, .slice (some ⟨b, o, none⟩) bs.length c, .int .i64 N, .int .i64 N, .pointer (some ⟨w.heap.size, 1, none⟩), .int .i64 Z, .int .i64 (N + Z), .slice (some a) Z (c - N), _, _, _, _, _, _, _, _, _, _, _, _, _, _, _, _, _, _, _, _, _, _, _, _, _, _, _, _, _], []⟩ _)
      · intro u hu
        go_simp
        intro h
        omega
      refine HT.take 8 (.int .i64 N) rfl (by kernel_rfl) (fun _ _ _ h => h) (Or.inl ⟨by rfl, ?_⟩) (?_ : HT _ _ _ _ _ _ _ ⟨#[_, _, _, _, _, _, _, _, _, _, _, _, _, _, _, _, _, _, _, _, _, _, _, _, _, .slice (some ⟨b, o, none⟩) bs.length c, .int .i64 N, .int .i64 N, .pointer (some ⟨w.heap.size, 1, none⟩), .int .i64 Z, .int .i64 (N + Z), .slice (some a) Z (c - N), _, .int .i64 N, _, _, _, _, _, _, _, _, _, _, _, _, _, _, _, _, _, _, _, _, _, _, _, _, _, _, _], []⟩ _)
      · intro u hu
        go_simp
      refine HT.take 9 (.pointer (some ⟨w.heap.size, 1, none⟩)) rfl (by kernel_rfl) (fun _ _ _ h => h) (Or.inl ⟨by rfl, ?_⟩) (?_ : HT _ _ _ _ _ _ _ ⟨#[_, _, _, _, _, _, _, _, _, _, _, _, _, _, _, _, _, _, _, _, _, _, _, _, _, .slice (some ⟨b, o, none⟩) bs.length c, .int .i64 N, .int .i64 N, .pointer (some ⟨w.heap.size, 1, none⟩), .int .i64 Z, .int .i64 (N + Z), .slice (some a) Z (c - N), _, .int .i64 N, .pointer (some ⟨w.heap.size, 1, none⟩), _, _, _, _, _, _, _, _, _, _, _, _, _, _, _, _, _, _, _, _, _, _, _, _, _, _], []⟩ _)
      · intro u hu
        go_simp
      refine HT.take 10 (.int .i64 Z) rfl (by kernel_rfl) (fun _ _ _ h => h) (Or.inl ⟨by rfl, ?_⟩) (?_ : HT _ _ _ _ _ _ _ ⟨#[_, _, _, _, _, _, _, _, _, _, _, _, _, _, _, _, _, _, _, _, _, _, _, _, _, .slice (some ⟨b, o, none⟩) bs.length c, .int .i64 N, .int .i64 N, .pointer (some ⟨w.heap.size, 1, none⟩), .int .i64 Z, .int .i64 (N + Z), .slice (some a) Z (c - N), _, .int .i64 N, .pointer (some ⟨w.heap.size, 1, none⟩), .int .i64 Z, _, _, _, _, _, _, _, _, _, _, _, _, _, _, _, _, _, _, _, _, _, _, _, _, _], []⟩ _)
      · intro u hu
        obtain ⟨x0, x1⟩ := hu.1.cells2
        go_simp
      refine HT.take 11 (.int .i64 (N + Z)) rfl (by kernel_rfl) (fun _ _ _ h => h) (Or.inl ⟨by rfl, ?_⟩) (?_ : HT _ _ _ _ _ _ _ ⟨#[_, _, _, _, _, _, _, _, _, _, _, _, _, _, _, _, _, _, _, _, _, _, _, _, _, .slice (some ⟨b, o, none⟩) bs.length c, .int .i64 N, .int .i64 N, .pointer (some ⟨w.heap.size, 1, none⟩), .int .i64 Z, .int .i64 (N + Z), .slice (some a) Z (c - N), _, .int .i64 N, .pointer (some ⟨w.heap.size, 1, none⟩), .int .i64 Z, .int .i64 (N + Z), _, _, _, _, _, _, _, _, _, _, _, _, _, _, _, _, _, _, _, _, _, _, _, _], []⟩ _)
      · intro u hu
        go_simp
      refine HT.step 7 rfl (by kernel_rfl) (fun hS K hK => ?_)
      go_simp
      refine (HCB.out _ hS.2).mono ?_
      rintro e u3 ⟨D2, d2, rfl, hr3, hb3⟩
      have HLZ := Lib.hid hS.2.size
      refine hK.out _ _ ⟨hS.1.below hb3, below_then hS.2.size hS.2 hb3⟩ ?_
      clear hK hS
      refine (?_ : HT _ _ _ _ _ _ _ ⟨#[_, _, _, _, _, _, _, _, _, _, _, _, _, _, _, _, _, _, _, _, _, _, _, _, _, .slice (some ⟨b, o, none⟩) bs.length c, .int .i64 N, .int .i64 N, .pointer (some ⟨w.heap.size, 1, none⟩), .int .i64 Z, .int .i64 (N + Z), .slice (some a) Z (c - N), .slice D2 D.length d2, .int .i64 N, .pointer (some ⟨w.heap.size, 1, none⟩), .int .i64 Z, .int .i64 (N + Z), _, _, _, _, _, _, _, _, _, _, _, _, _, _, _, _, _, _, _, _, _, _, _, _], []⟩ _)
      refine HT.take 12 (.slice D2 D.length d2) rfl (by kernel_rfl) (fun _ _ _ h => h) (Or.inl ⟨by rfl, ?_⟩) (?_ : HT _ _ _ _ _ _ _ ⟨#[_, _, _, _, _, _, .slice D2 D.length d2, _, _, _, _, _, _, _, _, _, _, _, _, _, _, _, _, _, _, .slice (some ⟨b, o, none⟩) bs.length c, .int .i64 N, .int .i64 N, .pointer (some ⟨w.heap.size, 1, none⟩), .int .i64 Z, .int .i64 (N + Z), .slice (some a) Z (c - N), .slice D2 D.length d2, .int .i64 N, .pointer (some ⟨w.heap.size, 1, none⟩), .int .i64 Z, .int .i64 (N + Z), _, _, _, _, _, _, _, _, _, _, _, _, _, _, _, _, _, _, _, _, _, _, _, _], []⟩ _)
      · intro u hu
        go_simp
      refine HT.take 13 (.slice none 0 0) rfl (by kernel_rfl) (fun _ _ _ h => h) (Or.inl ⟨by rfl, ?_⟩) (?_ : HT _ _ _ _ _ _ _ ⟨#[_, _, _, _, _, _, .slice D2 D.length d2, .slice none 0 0, _, _, _, _, _, _, _, _, _, _, _, _, _, _, _, _, _, .slice (some ⟨b, o, none⟩) bs.length c, .int .i64 N, .int .i64 N, .pointer (some ⟨w.heap.size, 1, none⟩), .int .i64 Z, .int .i64 (N + Z), .slice (some a) Z (c - N), .slice D2 D.length d2, .int .i64 N, .pointer (some ⟨w.heap.size, 1, none⟩), .int .i64 Z, .int .i64 (N + Z), _, _, _, _, _, _, _, _, _, _, _, _, _, _, _, _, _, _, _, _, _, _, _, _], []⟩ _)
      · intro u hu
        go_simp
      refine HT.tail _ rfl rfl (by kernel_rfl) (fun hS => ?_)
      have HL3 := Lib.hid hS.2
      have HR3 := Lib.hid (hr3.mono (base' := w.heap.size) HLZ.out)
      clear hS hr3 hb3 HCB HX
      go_wp2
      refine bodyPost_ret (v := .tuple #[.slice D2 D.length d2, .slice none 0 0, .int .i64 (N + Z), .int .i64 0]) (by simp [results, Tryz.results70, go_sem]) rfl ?_
      exact ⟨D2, d2, none, 0, rfl, HR3.out, Row.none_ _ _ _ _, HL3.out⟩
  · obtain rfl : Z = 0 := by have := hzk (by decide); omega
    have hdn : (C.decode (bs.drop N)).n ≤ bs.length - N := by
      by_cases h : (C.decode (bs.drop N)).n = 0
      · omega
      · have := (C.decode_cut h).1
        rwa [List.length_drop] at this
    have hlen : (bs.drop N).length = bs.length - N := List.length_drop
    obtain ⟨a, ha, _⟩ := addA_some (b := b) (o := o) (c := c) (k := N)
    have HCD := Lib.hid (fun (u : World) (hu : Below w.heap.size w u) => show Calls Tryz.prog 146 #[.slice (some a) (bs.length - N) (c - N)] u (RetCD u (C.decode (bs.drop N))) from by
      have := refDecode_any (some a) (c - N) (bs.drop N) u (by omega) (by omega) (by rw [hlen, ← ha]; exact (HX.out u hu).fromA hnc hN)
      rwa [hlen] at this)
    have hAI : (if c = N then some (⟨b, o, none⟩ : Addr) else some ⟨b, o + N, none⟩) = some a := by rw [← ha, addA_ite]
    have HAI := Lib.hid hAI
    have hni : (N : Int) ≤ (c : Int) := by omega
    have hnl : (N : Int) ≤ (bs.length : Int) := by omega
    have HBB := Lib.hid (fun h => M.body_cut (bs := bs) (N := N) (z := ((0 : Nat) : Int)) h)
    have HBG := Lib.hid (fun h => M.body_chunks (bs := bs) (N := N) (z := ((0 : Nat) : Int)) h)
    obtain ⟨R, hR⟩ : ∃ R, M.body bs N 2 ((0 : Nat) : Int) = R := ⟨_, rfl⟩
    rw [hR] at HBB HBG ⊢
    obtain ⟨Q, hQ⟩ : ∃ Q, C.decode (bs.drop N) = Q := ⟨_, rfl⟩
    rw [hQ] at HBB HBG HCD hdn
    obtain ⟨qd, qf, qn, qe⟩ := Q
    replace hdn : qn ≤ bs.length - N := hdn
    have HCC := Lib.hid (HCD.out _ HL1.out)
    clear hR hQ HCD HX hlen ha hAI
    by_cases hNc : c = N
    · subst hNc
      obtain rfl : a = ⟨b, o, none⟩ := by have := HAI.out; rw [if_pos rfl] at this; exact (Option.some.inj this).symm
      have hc0 : c - c = 0 := by omega
      have hl0 : bs.length - c = 0 := by omega
      rw [hc0, hl0] at HCC
      obtain rfl : qn = 0 := by omega
      have HR := Lib.hid (HBB.out (.inr rfl))
      clear HBB HBG HAI
      go_enter Tryz.func70, Tryz.ntmps70
      go_wp2_with fail
      refine HCC.out.mono ?_
      rintro e w2 ⟨A2, c2, T2, t2, rfl, hr2, hf2, hb2⟩
      have HL2 := Lib.hid (below_then HL1.out.size HL1.out hb2)
      clear hr2 hf2 hb2 HCC HL1 HK1 y0 y1
      by_cases hqe : qe = 0
      · subst hqe
        go_wp2
        refine bodyPost_ret (v := .tuple #[.slice none 0 0, .slice none 0 0, .int .i64 0, .int .i64 0]) (by simp [results, Tryz.results70, go_sem]) rfl ?_
        exact RetBody.bad HL2.out HR.out
      · have hqb : (qe != 0) = true := by rw [bne_iff_ne]; exact hqe
        go_wp2
        refine bodyPost_ret (v := .tuple #[.slice none 0 0, .slice none 0 0, .int .i64 0, .int .i64 qe]) (by simp [results, Tryz.results70, go_sem]) rfl ?_
        exact RetBody.bad HL2.out HR.out
    · obtain rfl : a = ⟨b, o + N, none⟩ := by have := HAI.out; rw [if_neg hNc] at this; exact (Option.some.inj this).symm
      have hNi : (N : Int) < c := by omega
      clear HAI
      go_enter Tryz.func70, Tryz.ntmps70
      go_wp2_with fail
      refine HCC.out.mono ?_
      rintro e w2 ⟨A2, c2, T2, t2, rfl, hr2, hf2, hb2⟩
      have HL2 := Lib.hid (below_then HL1.out.size HL1.out hb2)
      have HR2 := Lib.hid (hr2.crow.mono (base' := w.heap.size) HL1.out.size)
      have HF2 := Lib.hid (hf2.mono (base' := w.heap.size) HL1.out.size)
      clear hr2 hf2 hb2 HCC HL1 HK1 y0 y1
      by_cases hqe : qe = 0
      · subst hqe
        by_cases hqn : qn = 0
        · have HR := Lib.hid (HBB.out (.inr hqn))
          subst hqn
          clear HBB HBG
          go_wp2
          refine bodyPost_ret (v := .tuple #[.slice none 0 0, .slice none 0 0, .int .i64 0, .int .i64 0]) (by simp [results, Tryz.results70, go_sem]) rfl ?_
          exact RetBody.bad HL2.out HR.out
        · have HR := Lib.hid (HBG.out (by rintro (h | h); exact h rfl; exact hqn h))
          have hqi : ¬ (qn : Int) = 0 := by omega
          have hqb : ((qn : Int) == 0) = false := beq_eq_false_iff_ne.2 hqi
          clear HBB HBG
          go_wp2
          refine bodyPost_ret (v := .tuple #[.slice A2 qd.length c2, .slice T2 qf.length t2, .int .i64 (N + qn), .int .i64 0]) (by simp [results, Tryz.results70, go_sem]) rfl ?_
          rw [HR.out]
          exact ⟨A2, c2, T2, t2, rfl, HR2.out, HF2.out, HL2.out⟩
      · have HR := Lib.hid (HBB.out (.inl hqe))
        have hqb : (qe != 0) = true := by rw [bne_iff_ne]; exact hqe
        clear HBB HBG
        go_wp2
        refine bodyPost_ret (v := .tuple #[.slice none 0 0, .slice none 0 0, .int .i64 0, .int .i64 qe]) (by simp [results, Tryz.results70, go_sem]) rfl ?_
        exact RetBody.bad HL2.out HR.out
end Go.Proofs.YteehjkfmlcfffaaGreatDoor

namespace Go.Proofs.YteehjkfmlcfffaaGreatDoor
open Go.RowKit

set_option maxHeartbeats 4000000 in
set_option maxRecDepth 100000 in
theorem refMessage_any (A : Option Addr) (n c : Nat) (bs : List UInt8) (w : World) (hnm : n ≤ 268435456) (hnc : n ≤ c) (hx : Rd w A n 1 (bcells bs)) :
    Calls Tryz.prog 25 #[.slice A n c] w (RetMsg w (M.request bs)) := by
  have hll := rd_len hx
  subst hll
  have HQ := Lib.hid (fun (u : World) (hu : Below w.heap.size w u) => refRequest_any2 A bs.length c bs u (by omega) hnc (hx.below hu))
  have hfb := P.request_bulk bs
  have hw := M.req_ways bs
  obtain ⟨G, hG⟩ : ∃ G, M.request bs = G := ⟨_, rfl⟩
  have HG : Hid (G = if (P.request bs).e ≠ 0 ∨ (P.request bs).n = 0 then .bad (P.request bs).e else M.framed bs (P.request bs) (F.frame (P.request bs).v (P.request bs).fs 0)) := Lib.hid (by rw [← hG]; rfl)
  rw [hG]
  obtain ⟨Q, hQ⟩ : ∃ Q, P.request bs = Q := ⟨_, rfl⟩
  rw [hQ] at HQ hfb hw HG
  obtain ⟨s, t, v, fs, N, E⟩ := Q
  have hfb2 : F.bulk fs ≤ 1073741824 := by
    have : F.bulk fs ≤ bs.length := hfb
    omega
  replace hw : (E = 0 ∧ N = 0) ∨ (E ≠ 0 ∧ N = 0) ∨ (E = 0 ∧ ∃ k : Nat, 0 < k ∧ k ≤ bs.length ∧ N = (k : Int)) := hw
  replace HG : Hid (G = if E ≠ 0 ∨ N = 0 then .bad E else M.framed bs ⟨s, t, v, fs, N, E⟩ (F.frame v fs 0)) := HG
  have hlb := F.len_le_bulk fs
  have HFR := Lib.hid (fun (A1 : Option Addr) (c1 : Nat) (u : World) (hr : Rd u A1 fs.length 2 (fcells fs)) => refOfRequest_any s t v A1 c1 fs u hfb2 hr)
  have hkd := P.frame_kinds v fs
  have hkr := F.frame_range v fs 0
  obtain ⟨FR, hFR⟩ : ∃ FR, F.frame v fs 0 = FR := ⟨_, rfl⟩
  rw [hFR] at HFR HG hkd hkr
  obtain ⟨fk, fn, fe⟩ := FR
  replace hkd : fk = 0 ∨ fk = 1 ∨ fk = 2 := hkd
  obtain ⟨hn0, hn1, hn2⟩ : 0 ≤ fn ∧ fn ≤ 65536 ∧ (fk ≠ 1 → fn = 0) := hkr
  have HFI := Lib.hid (fun (k : Nat) (h1 : 0 < k) (h2 : k ≤ bs.length) (u : World) (hu : Below w.heap.size w u) =>
    refBody_any A c bs k fk fn u hnm hnc h1 h2 hkd hn0 hn1 hn2 (hx.below hu))
  have HX0 := Lib.hid (Blk.new w #[.string ⟨#[]⟩, .string ⟨#[]⟩, .int .i64 0, .slice none 0 0, .int .i64 0, .string ⟨#[]⟩, .int .i64 0, .slice none 0 0, .slice none 0 0, .slice none 0 0] 29)
  have HL0 := Lib.hid ((Below.refl w.heap.size w).alloc (Nat.le_refl _) (.cells #[.string ⟨#[]⟩, .string ⟨#[]⟩, .int .i64 0, .slice none 0 0, .int .i64 0, .string ⟨#[]⟩, .int .i64 0, .slice none 0 0, .slice none 0 0, .slice none 0 0] 29))
  clear hx hQ hG hFR hfb hn2
  go_enter Tryz.func25, Tryz.ntmps25
  go_upto_region 1 with fail
  generalize w.alloc (.cells #[.string ⟨#[]⟩, .string ⟨#[]⟩, .int .i64 0, .slice none 0 0, .int .i64 0, .string ⟨#[]⟩, .int .i64 0, .slice none 0 0, .slice none 0 0, .slice none 0 0] 29) = w0 at *
  have hz0 := HX0.out.lt
  go_wp2_with fail
  refine (HQ.out _ HL0.out).mono ?_
  rintro e w1 ⟨A1, c1, rfl, hr1, hb1⟩
  have HX1 := Lib.hid ((HX0.out.below hb1).alloc (.cells #[.string s, .string t, .int .i64 v, .slice A1 fs.length c1] 25))
  have HL1 := Lib.hid ((below_then HL0.out.size HL0.out hb1).alloc (by have := HL0.out.size; have := hb1.size; omega) (.cells #[.string s, .string t, .int .i64 v, .slice A1 fs.length c1] 25))
  have HK1 := Lib.hid (Blk.new w1 #[.string s, .string t, .int .i64 v, .slice A1 fs.length c1] 25)
  have HR1 := Lib.hid ((hr1.mono (base' := w.heap.size + 1) (by omega)).alloc (.cells #[.string s, .string t, .int .i64 v, .slice A1 fs.length c1] 25))
  have hz1 : w.heap.size + 1 ≤ w1.heap.size := by have := hb1.size; omega
  clear hb1 hr1 HQ HX0 HL0 hz0
  go_upto_region 2 with fail
  generalize w1.alloc (.cells #[.string s, .string t, .int .i64 v, .slice A1 fs.length c1] 25) = w2 at *
  rcases hw with ⟨rfl, rfl⟩ | ⟨hE, rfl⟩ | ⟨rfl, k, hk0, hkn, rfl⟩
  · have HF := Lib.hid (HG.out.trans (if_pos (.inr rfl)))
    clear HG HFR HFI hkd
    obtain ⟨a0, a1, a2, a3, a4, a5, a6, a7, a8, a9⟩ := HX1.out.cells10
    obtain ⟨g0, g1, g2, g3, g4, g5, g6, g7, g8, g9⟩ := HX1.out.free10
    go_wp2
    obtain ⟨z0, z1, z2, z3, z4, z5, z6, z7, z8, z9⟩ := (HX1.out.set10 (.string ⟨#[]⟩) (.string ⟨#[]⟩) (.int .i64 0) (.slice none 0 0) (.int .i64 0) (.string ⟨#[]⟩) (.int .i64 0) (.slice none 0 0) (.slice none 0 0) (.slice none 0 0)).cells10
    unfold ten at z0 z1 z2 z3 z4 z5 z6 z7 z8 z9
    refine bodyPost_ret (v := .tuple #[.agg #[.string ⟨#[]⟩, .string ⟨#[]⟩, .int .i64 0, .slice none 0 0, .int .i64 0, .string ⟨#[]⟩, .int .i64 0, .slice none 0 0, .slice none 0 0, .slice none 0 0], .int .i64 0, .int .i64 0]) (by simp [results, Tryz.results25, go_sem, z0, z1, z2, z3, z4, z5, z6, z7, z8, z9]) rfl ?_
    exact RetMsg.bad (below_ten HL1.out (Nat.le_refl _) _ _ _ _ _ _ _ _ _ _) HF.out
  · have HF := Lib.hid (HG.out.trans (if_pos (.inl hE)))
    have hEb : (E != 0) = true := by rw [bne_iff_ne]; exact hE
    clear HG HFR HFI hkd
    obtain ⟨a0, a1, a2, a3, a4, a5, a6, a7, a8, a9⟩ := HX1.out.cells10
    obtain ⟨g0, g1, g2, g3, g4, g5, g6, g7, g8, g9⟩ := HX1.out.free10
    go_wp2
    obtain ⟨z0, z1, z2, z3, z4, z5, z6, z7, z8, z9⟩ := (HX1.out.set10 (.string ⟨#[]⟩) (.string ⟨#[]⟩) (.int .i64 0) (.slice none 0 0) (.int .i64 0) (.string ⟨#[]⟩) (.int .i64 0) (.slice none 0 0) (.slice none 0 0) (.slice none 0 0)).cells10
    unfold ten at z0 z1 z2 z3 z4 z5 z6 z7 z8 z9
    refine bodyPost_ret (v := .tuple #[.agg #[.string ⟨#[]⟩, .string ⟨#[]⟩, .int .i64 0, .slice none 0 0, .int .i64 0, .string ⟨#[]⟩, .int .i64 0, .slice none 0 0, .slice none 0 0, .slice none 0 0], .int .i64 0, .int .i64 E]) (by simp [results, Tryz.results25, go_sem, z0, z1, z2, z3, z4, z5, z6, z7, z8, z9]) rfl ?_
    exact RetMsg.bad (below_ten HL1.out (Nat.le_refl _) _ _ _ _ _ _ _ _ _ _) HF.out
  · have hNi : ¬ (k : Int) = 0 := by omega
    have hNb : ((k : Int) == 0) = false := beq_eq_false_iff_ne.2 hNi
    have HG2 := Lib.hid (HG.out.trans (if_neg (by rintro (h | h); exact h rfl; exact hNi h)))
    clear HG
    obtain ⟨q0, q1, q2, q3⟩ := HK1.out.cells4
    go_wp2_with fail
    refine (HFR.out A1 c1 _ HR1.out.rd).mono ?_
    rintro e w3 ⟨rfl, hb3⟩
    have HX3 := Lib.hid ((HX1.out.below hb3).alloc (.cells #[.int .i64 fk, .int .i64 fn] 130))
    have HL3 := Lib.hid ((below_then HL1.out.size HL1.out hb3).alloc (by have := HL1.out.size; have := hb3.size; omega) (.cells #[.int .i64 fk, .int .i64 fn] 130))
    have HK3 := Lib.hid ((HK1.out.below hb3).alloc (.cells #[.int .i64 fk, .int .i64 fn] 130))
    have HF3 := Lib.hid (Blk.new w3 #[.int .i64 fk, .int .i64 fn] 130)
    have HR3 := Lib.hid ((HR1.out.below hb3).alloc (.cells #[.int .i64 fk, .int .i64 fn] 130))
    have hz3 : w.heap.size + 1 ≤ w3.heap.size := by have := HK1.out.lt; have := hb3.size; omega
    clear hb3 HX1 HL1 HK1 HR1 HFR q0 q1 q2 q3
    go_upto_region 5 with fail
    have hz4 : w.heap.size + 1 ≤ (w3.alloc (.cells #[.int .i64 fk, .int .i64 fn] 130)).heap.size := by rw [World.size_alloc]; omega
    generalize w3.alloc (.cells #[.int .i64 fk, .int .i64 fn] 130) = w4 at *
    by_cases hfe : fe = 0
    · have HG3 : Hid (G = M.whole ⟨s, t, v, fs, (k : Int), 0⟩ (M.body bs k fk fn)) := Lib.hid (HG2.out.trans (if_neg (fun h => h hfe)))
      subst hfe
      obtain ⟨y0, y1⟩ := HF3.out.cells2
      go_wp2_with fail
      refine (HFI.out k hk0 hkn _ HL3.out).mono ?_
      rintro e w6 ⟨D, d, T, j, rfl, hd6, ht6, hb6⟩
      have HX6 := Lib.hid (HX3.out.below hb6)
      have HK6 := Lib.hid (HK3.out.below hb6)
      have HR6 := Lib.hid (HR3.out.below hb6)
      have HD6 := Lib.hid (hd6.mono hz4)
      have HV6 := Lib.hid (ht6.mono hz4)
      have HL6 := Lib.hid (below_then HL3.out.size HL3.out hb6)
      clear hb6 hd6 ht6 HX3 HL3 HK3 HF3 HR3 HFI y0 y1
      obtain ⟨BB, hBB⟩ : ∃ BB, M.body bs k fk fn = BB := ⟨_, rfl⟩
      rw [hBB] at HG3 HD6 HV6 ⊢
      clear hBB
      obtain ⟨bd, bf, bn, be⟩ := BB
      replace HD6 : Hid (CRow w6 (w.heap.size + 1) D bd.length d bd) := HD6
      replace HV6 : Hid (Row w6 (w.heap.size + 1) 148 2 T bf.length j (fcells bf)) := HV6
      replace HG3 : Hid (G = if be ≠ 0 ∨ bn = 0 then .bad be else ⟨s, t, v, fs, bd, bf, bn, 0⟩) := HG3
      go_upto_region 8 with fail
      by_cases hbe : be = 0
      · subst hbe
        by_cases hbn : bn = 0
        · have HF := Lib.hid (HG3.out.trans (if_pos (.inr hbn)))
          subst hbn
          clear HG3 HK6 HR6 HD6 HV6
          obtain ⟨a0, a1, a2, a3, a4, a5, a6, a7, a8, a9⟩ := HX6.out.cells10
          obtain ⟨g0, g1, g2, g3, g4, g5, g6, g7, g8, g9⟩ := HX6.out.free10
          go_wp2
          obtain ⟨z0, z1, z2, z3, z4, z5, z6, z7, z8, z9⟩ := (HX6.out.set10 (.string ⟨#[]⟩) (.string ⟨#[]⟩) (.int .i64 0) (.slice none 0 0) (.int .i64 0) (.string ⟨#[]⟩) (.int .i64 0) (.slice none 0 0) (.slice none 0 0) (.slice none 0 0)).cells10
          unfold ten at z0 z1 z2 z3 z4 z5 z6 z7 z8 z9
          refine bodyPost_ret (v := .tuple #[.agg #[.string ⟨#[]⟩, .string ⟨#[]⟩, .int .i64 0, .slice none 0 0, .int .i64 0, .string ⟨#[]⟩, .int .i64 0, .slice none 0 0, .slice none 0 0, .slice none 0 0], .int .i64 0, .int .i64 0]) (by simp [results, Tryz.results25, go_sem, z0, z1, z2, z3, z4, z5, z6, z7, z8, z9]) rfl ?_
          exact RetMsg.bad (below_ten HL6.out (Nat.le_refl _) _ _ _ _ _ _ _ _ _ _) HF.out
        · have HF := Lib.hid (HG3.out.trans (if_neg (by rintro (h | h); exact h rfl; exact hbn h)))
          have hbb : (bn == 0) = false := beq_eq_false_iff_ne.2 hbn
          clear HG3
          obtain ⟨a0, a1, a2, a3, a4, a5, a6, a7, a8, a9⟩ := HX6.out.cells10
          obtain ⟨g0, g1, g2, g3, g4, g5, g6, g7, g8, g9⟩ := HX6.out.free10
          obtain ⟨q0, q1, q2, q3⟩ := HK6.out.cells4
          go_wp2
          obtain ⟨z0, z1, z2, z3, z4, z5, z6, z7, z8, z9⟩ := (HX6.out.set10 (.string s) (.string t) (.int .i64 v) (.slice A1 fs.length c1) (.int .i64 0) (.string ⟨#[]⟩) (.int .i64 0) (.slice none 0 0) (.slice D bd.length d) (.slice T bf.length j)).cells10
          unfold ten at z0 z1 z2 z3 z4 z5 z6 z7 z8 z9
          refine bodyPost_ret (v := .tuple #[.agg #[.string s, .string t, .int .i64 v, .slice A1 fs.length c1, .int .i64 0, .string ⟨#[]⟩, .int .i64 0, .slice none 0 0, .slice D bd.length d, .slice T bf.length j], .int .i64 bn, .int .i64 0]) (by simp [results, Tryz.results25, go_sem, z0, z1, z2, z3, z4, z5, z6, z7, z8, z9]) rfl ?_
          rw [HF.out]
          exact ⟨A1, c1, D, d, T, j, rfl, (HR6.out.farT10 HX6.out neM _ _ _ _ _ _ _ _ _ _).mono (by omega), (HD6.out.far10 (by omega) _ _ _ _ _ _ _ _ _ _).mono (by omega), (HV6.out.farT10 HX6.out neM _ _ _ _ _ _ _ _ _ _).mono (by omega), below_ten HL6.out (Nat.le_refl _) _ _ _ _ _ _ _ _ _ _⟩
      · have HF := Lib.hid (HG3.out.trans (if_pos (.inl hbe)))
        have hbb : (be != 0) = true := by rw [bne_iff_ne]; exact hbe
        clear HG3 HK6 HR6 HD6 HV6
        obtain ⟨a0, a1, a2, a3, a4, a5, a6, a7, a8, a9⟩ := HX6.out.cells10
        obtain ⟨g0, g1, g2, g3, g4, g5, g6, g7, g8, g9⟩ := HX6.out.free10
        go_wp2
        obtain ⟨z0, z1, z2, z3, z4, z5, z6, z7, z8, z9⟩ := (HX6.out.set10 (.string ⟨#[]⟩) (.string ⟨#[]⟩) (.int .i64 0) (.slice none 0 0) (.int .i64 0) (.string ⟨#[]⟩) (.int .i64 0) (.slice none 0 0) (.slice none 0 0) (.slice none 0 0)).cells10
        unfold ten at z0 z1 z2 z3 z4 z5 z6 z7 z8 z9
        refine bodyPost_ret (v := .tuple #[.agg #[.string ⟨#[]⟩, .string ⟨#[]⟩, .int .i64 0, .slice none 0 0, .int .i64 0, .string ⟨#[]⟩, .int .i64 0, .slice none 0 0, .slice none 0 0, .slice none 0 0], .int .i64 0, .int .i64 be]) (by simp [results, Tryz.results25, go_sem, z0, z1, z2, z3, z4, z5, z6, z7, z8, z9]) rfl ?_
        exact RetMsg.bad (below_ten HL6.out (Nat.le_refl _) _ _ _ _ _ _ _ _ _ _) HF.out
    · have HF := Lib.hid (HG2.out.trans (if_pos hfe))
      have hfb : (fe != 0) = true := by rw [bne_iff_ne]; exact hfe
      clear HG2 HFI HK3 HF3 HR3
      obtain ⟨a0, a1, a2, a3, a4, a5, a6, a7, a8, a9⟩ := HX3.out.cells10
      obtain ⟨g0, g1, g2, g3, g4, g5, g6, g7, g8, g9⟩ := HX3.out.free10
      go_wp2
      obtain ⟨z0, z1, z2, z3, z4, z5, z6, z7, z8, z9⟩ := (HX3.out.set10 (.string ⟨#[]⟩) (.string ⟨#[]⟩) (.int .i64 0) (.slice none 0 0) (.int .i64 0) (.string ⟨#[]⟩) (.int .i64 0) (.slice none 0 0) (.slice none 0 0) (.slice none 0 0)).cells10
      unfold ten at z0 z1 z2 z3 z4 z5 z6 z7 z8 z9
      refine bodyPost_ret (v := .tuple #[.agg #[.string ⟨#[]⟩, .string ⟨#[]⟩, .int .i64 0, .slice none 0 0, .int .i64 0, .string ⟨#[]⟩, .int .i64 0, .slice none 0 0, .slice none 0 0, .slice none 0 0], .int .i64 0, .int .i64 fe]) (by simp [results, Tryz.results25, go_sem, z0, z1, z2, z3, z4, z5, z6, z7, z8, z9]) rfl ?_
      exact RetMsg.bad (below_ten HL3.out (Nat.le_refl _) _ _ _ _ _ _ _ _ _ _) HF.out
end Go.Proofs.YteehjkfmlcfffaaGreatDoor

namespace Go.Proofs.YteehjkfmlcfffaaGreatDoor
open Go.RowKit

theorem sameReqT (m t : ByteArray) (v : Int) (fs : List FD) (A A2 : Option Addr) (c c2 : Nat) (w : World) (hn : fs.length ≤ 1099511627776) (hx : Rd w A fs.length 2 (fcells fs)) (hy : Rd w A2 fs.length 2 (fcells fs)) :
    Calls Tryz.prog 34 #[.agg #[.string m, .string t, .int .i64 v, .slice A fs.length c], .agg #[.string m, .string t, .int .i64 v, .slice A2 fs.length c2]] w (RetB w true) := by
  have := sameRequest_any v v m m t t A A2 fs.length fs.length c c2 fs fs w hn hn hx hy rfl rfl
  simpa using this
theorem sameRespT (st : Int) (rs : ByteArray) (mi : Int) (gs : List FD) (A A2 : Option Addr) (c c2 : Nat) (w : World) (hn : gs.length ≤ 1099511627776) (hx : Rd w A gs.length 2 (fcells gs)) (hy : Rd w A2 gs.length 2 (fcells gs)) :
    Calls Tryz.prog 71 #[.agg #[.int .i64 st, .string rs, .int .i64 mi, .slice A gs.length c], .agg #[.int .i64 st, .string rs, .int .i64 mi, .slice A2 gs.length c2]] w (RetB w true) := by
  have := sameResponse_any st mi st mi rs rs A A2 gs.length gs.length c c2 gs gs w hn hn hx hy rfl rfl
  simpa using this
set_option maxHeartbeats 4000000 in
set_option maxRecDepth 100000 in
theorem sameMessage_any (m t : ByteArray) (v : Int) (fs : List FD) (st : Int) (rs : ByteArray) (mi : Int) (gs : List FD) (d : List UInt8) (f : List FD) (A A2 R R2 D D2 T T2 : Option Addr) (c c2 r r2 e e2 k k2 : Nat) (w : World)
    (hn1 : fs.length ≤ 1099511627776) (hn2 : gs.length ≤ 1099511627776) (hn3 : d.length ≤ 1099511627776) (hn4 : f.length ≤ 1099511627776)
    (ha : Rd w A fs.length 2 (fcells fs)) (ha2 : Rd w A2 fs.length 2 (fcells fs)) (hr : Rd w R gs.length 2 (fcells gs)) (hr2 : Rd w R2 gs.length 2 (fcells gs))
    (hd : Rd w D d.length 1 (bcells d)) (hd2 : Rd w D2 d.length 1 (bcells d)) (ht : Rd w T f.length 2 (fcells f)) (ht2 : Rd w T2 f.length 2 (fcells f)) :
    Calls Tryz.prog 16 #[.agg #[.string m, .string t, .int .i64 v, .slice A fs.length c, .int .i64 st, .string rs, .int .i64 mi, .slice R gs.length r, .slice D d.length e, .slice T f.length k], .agg #[.string m, .string t, .int .i64 v, .slice A2 fs.length c2, .int .i64 st, .string rs, .int .i64 mi, .slice R2 gs.length r2, .slice D2 d.length e2, .slice T2 f.length k2]] w (RetB w true) := by
  have H1 := Lib.hid (fun (u : World) (hu : Below w.heap.size w u) => sameReqT m t v fs A A2 c c2 u hn1 (ha.below hu) (ha2.below hu))
  have H2 := Lib.hid (fun (u : World) (hu : Below w.heap.size w u) => sameRespT st rs mi gs R R2 r r2 u hn2 (hr.below hu) (hr2.below hu))
  have H3 := Lib.hid (fun (u : World) (hu : Below w.heap.size w u) => sameBC D D2 d.length e e2 d u hn3 rfl (hd.below hu) (hd2.below hu))
  have H4 := Lib.hid (fun (u : World) (hu : Below w.heap.size w u) => sameFC T T2 f.length k k2 f u hn4 rfl (ht.below hu) (ht2.below hu))
  have HT0 := Lib.hid (Two.start w #[.string m, .string t, .int .i64 v, .slice A fs.length c, .int .i64 st, .string rs, .int .i64 mi, .slice R gs.length r, .slice D d.length e, .slice T f.length k] 29 #[.string m, .string t, .int .i64 v, .slice A2 fs.length c2, .int .i64 st, .string rs, .int .i64 mi, .slice R2 gs.length r2, .slice D2 d.length e2, .slice T2 f.length k2] 29)
  clear ha ha2 hr hr2 hd hd2 ht ht2
  go_enter Tryz.func16, Tryz.ntmps16
  go_upto_region 1 with fail
  generalize (w.alloc (.cells #[.string m, .string t, .int .i64 v, .slice A fs.length c, .int .i64 st, .string rs, .int .i64 mi, .slice R gs.length r, .slice D d.length e, .slice T f.length k] 29)).alloc (.cells #[.string m, .string t, .int .i64 v, .slice A2 fs.length c2, .int .i64 st, .string rs, .int .i64 mi, .slice R2 gs.length r2, .slice D2 d.length e2, .slice T2 f.length k2] 29) = w0 at *
  obtain ⟨a0, a1, a2, a3, a4, a5, a6, a7, a8, a9⟩ := HT0.out.1.cells10
  obtain ⟨b0, b1, b2, b3, b4, b5, b6, b7, b8, b9⟩ := HT0.out.2.1.cells10
  go_wp2_with fail
  refine (H1.out _ HT0.out.2.2).mono ?_
  rintro e w1 ⟨rfl, hb1⟩
  have HT1 := Lib.hid (HT0.out.below hb1)
  clear hb1 H1 HT0 a0 b0 a1 b1 a2 b2 a3 b3 a4 b4 a5 b5 a6 b6 a7 b7 a8 b8 a9 b9
  obtain ⟨a0, a1, a2, a3, a4, a5, a6, a7, a8, a9⟩ := HT1.out.1.cells10
  obtain ⟨b0, b1, b2, b3, b4, b5, b6, b7, b8, b9⟩ := HT1.out.2.1.cells10
  go_wp2_with fail
  refine (H2.out _ HT1.out.2.2).mono ?_
  rintro e w2 ⟨rfl, hb2⟩
  have HT2 := Lib.hid (HT1.out.below hb2)
  clear hb2 H2 HT1 a0 b0 a1 b1 a2 b2 a3 b3 a4 b4 a5 b5 a6 b6 a7 b7 a8 b8 a9 b9
  obtain ⟨a0, a1, a2, a3, a4, a5, a6, a7, a8, a9⟩ := HT2.out.1.cells10
  obtain ⟨b0, b1, b2, b3, b4, b5, b6, b7, b8, b9⟩ := HT2.out.2.1.cells10
  go_wp2_with fail
  refine (H3.out _ HT2.out.2.2).mono ?_
  rintro e w3 ⟨rfl, hb3⟩
  have HT3 := Lib.hid (HT2.out.below hb3)
  clear hb3 H3 HT2 a0 b0 a1 b1 a2 b2 a3 b3 a4 b4 a5 b5 a6 b6 a7 b7 a8 b8 a9 b9
  obtain ⟨a0, a1, a2, a3, a4, a5, a6, a7, a8, a9⟩ := HT3.out.1.cells10
  obtain ⟨b0, b1, b2, b3, b4, b5, b6, b7, b8, b9⟩ := HT3.out.2.1.cells10
  go_wp2_with fail
  refine (H4.out _ HT3.out.2.2).mono ?_
  rintro e w4 ⟨rfl, hb4⟩
  have HT4 := Lib.hid (HT3.out.below hb4)
  clear hb4 H4 HT3 a0 b0 a1 b1 a2 b2 a3 b3 a4 b4 a5 b5 a6 b6 a7 b7 a8 b8 a9 b9
  go_wp2
  go_ret
  exact ⟨rfl, HT4.out.2.2⟩
end Go.Proofs.YteehjkfmlcfffaaGreatDoor
