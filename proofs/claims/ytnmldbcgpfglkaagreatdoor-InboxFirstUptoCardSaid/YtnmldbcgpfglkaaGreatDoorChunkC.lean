/- The walk of the decoder's readData. -/
import Derived.Test.YtnmldbcgpfglkaaGreatDoorChunkB
import Derived.Test.YtnmldbcgpfglkaaGreatDoorRegionA
namespace Go.Proofs.YtnmldbcgpfglkaaGreatDoor
open Go.RowKit

theorem St.drew {w u : World} {st sz : Int} {A : Option Addr} {n c : Nat} {l : List UInt8} {Da : Option Addr} {dc : Nat} {data : List UInt8} {tv : Value} (h : St w u st sz A n c l Da dc data tv) : St w u.drew st sz A n c l Da dc data tv := h.below (Below.refl _ _).drew
theorem addA_ite {b o c k : Nat} : addA (some ⟨b, o, none⟩) c k = if c = k then some ⟨b, o, none⟩ else some ⟨b, o + k, none⟩ := by
  split
  · rename_i h
    rw [h]
    exact addA_end
  · exact addA_in (by omega)
/-- The data longer. -/
theorem St.more {w u v : World} {st sz : Int} {A : Option Addr} {n c : Nat} {l : List UInt8} {Da : Option Addr} {dc : Nat} {data : List UInt8} {tv : Value} (h : St w u st sz A n c l Da dc data tv) {Da' : Option Addr} {dc' : Nat} {data' : List UInt8} (hr : Row v (w.heap.size + 1) 5 1 Da' data'.length dc' (bcells data')) (ha : App u v Da dc Da' dc') : St w (v.setCell ⟨w.heap.size, 3, none⟩ (.slice Da' data'.length dc')) st sz A n c l Da' dc' data' tv := by
  have hlt := h.blk.lt
  have hb : Blk v w.heap.size #[.slice A n c, .int .i64 st, .int .i64 sz, .slice Da data.length dc, tv] 64 := h.blk.app ha (fun k hk => by have := (h.row.lt k hk).1; omega)
  have hl : Below w.heap.size w v := h.low.trans ((ha.below h.row (by omega)).mono (by omega))
  exact ⟨hb.set 3 (.slice Da' data'.length dc'), below_set hl (Nat.le_refl _) _ _, h.rd, h.cap, h.nil, h.plain, hr.farT hb St.ne8 _ _⟩
/-- What readData answers. -/
def RetRD (w : World) (z : Nat) (A : Option Addr) (n c : Nat) (l : List UInt8) (data : List UInt8) (tv : Value) (e : Ending) (w' : World) : Prop :=
  (n < z + 2 ∧ e = .returned (.tuple #[.bool false, .int .i64 0]) ∧ Below w.heap.size w w') ∨
  (¬ n < z + 2 ∧ P.crlf.isPrefixOf (l.drop z) = false ∧ e = .returned (.tuple #[.bool false, .int .i64 70]) ∧ Below w.heap.size w w') ∨
  (¬ n < z + 2 ∧ ¬ P.crlf.isPrefixOf (l.drop z) = false ∧ e = .returned (.tuple #[.bool true, .int .i64 0]) ∧
    ∃ Da' dc', St w w' 0 z (addA A c (z + 2)) (n - (z + 2)) (c - (z + 2)) (l.drop (z + 2)) Da' dc' (data ++ l.take z) tv)
set_option maxHeartbeats 4000000 in
set_option maxRecDepth 100000 in
theorem readData_any (w u : World) (z : Nat) (A : Option Addr) (n c : Nat) (l : List UInt8) (Da : Option Addr) (dc : Nat) (data : List UInt8) (tv : Value) (hS : St w u 1 z A n c l Da dc data tv) (hd : data.length + z ≤ 65536) (hn : n ≤ 1073741824) :
    Calls Tryz.prog 79 #[.pointer (some ⟨w.heap.size, 0, none⟩)] u (RetRD w z A n c l data tv) := by
  have hll := rd_len hS.rd
  have HS := Lib.hid hS
  have hcap := hS.cap
  obtain ⟨x0, x1, x2, x3, x4⟩ := hS.cells
  go_enter Tryz.func79, Tryz.ntmps79
  by_cases hz : n < z + 2
  · have hzi : (n : Int) < (z : Int) + 2 := by omega
    go_wp2
    go_region
    go_wp2
    go_ret2
    exact .inl ⟨hz, rfl, below_drewN HS.out.low 1⟩
  · obtain ⟨b, o, rfl, _, _⟩ := hS.rd.2 (by omega)
    have hzi : ¬ (n : Int) < (z : Int) + 2 := by omega
    have HZ := Lib.hid hz
    clear hS
    go_wp2
    go_region
    clear x0 x1 x2 x3 x4
    replace HS := Lib.hid HS.out.drew
    generalize u.drew = u1 at *
    go_wp2_with fail
    have hcc := Lib.run_convert_bytes_const (P := Tryz.prog) u1.drew 22 5 #[.int .u8 13, .int .u8 10] 2 2 Tryz.underlying22 Tryz.underlying5
    have HPX : Hid (∀ v : World, St w v 1 z (some ⟨b, o, none⟩) n c l Da dc data tv → ∀ B0, Rd v B0 2 1 (bcells P.crlf) → Calls Tryz.prog 90 #[.slice (some ⟨b, o + z, none⟩) (n - z) (c - z), .slice B0 2 2] v (RetP v (.bool (P.crlf.isPrefixOf (l.drop z))))) := Lib.hid fun v hv B0 hB =>
      bprefix_any _ B0 (n - z) (c - z) 2 2 (l.drop z) P.crlf v (by omega) ((hv.rd.from_ (by omega)).below hv.low) hB
    have hzc : (z : Int) ≤ c := by omega
    have hzc2 : ¬ (z : Int) = c := by omega
    have hzc3 : (z : Int) < c := by omega
    have hS0 := HS.out.drew
    refine wp_region_noPanic ?_
    refine HT.begin (n := 12) (S := (fun v => St w v 1 z (some ⟨b, o, none⟩) n c l Da dc data tv)) (by kernel_rfl) hS0 ?_
    generalize u1.drew = u2 at *
    refine HT.take 0 (.pointer (some ⟨w.heap.size, 0, none⟩)) rfl (by kernel_rfl) (fun _ _ _ h => h) (Or.inl ⟨by rfl, ?_⟩) (?_ : HT _ _ _ _ _ _ _ ⟨#[_, _, _, _, _, _, _, _, _, _, _, _, _, _, _, .pointer (some ⟨w.heap.size, 0, none⟩), _, _, _, _, _, _, _, _, _, _, _, _, _, _, _, _, _, _, _, _, _, _, _, _, _, _, _, _, _, _, _, _, _, _, _, _, _, _, _, _, _, _, _, _, _], []⟩ _)
    · intro u hu
      go_simp
    refine HT.take 1 (.pointer (some ⟨w.heap.size, 0, none⟩)) rfl (by kernel_rfl) (fun _ _ _ h => h) (Or.inl ⟨by rfl, ?_⟩) (?_ : HT _ _ _ _ _ _ _ ⟨#[_, _, _, _, _, _, _, _, _, _, _, _, _, _, _, .pointer (some ⟨w.heap.size, 0, none⟩), .pointer (some ⟨w.heap.size, 0, none⟩), _, _, _, _, _, _, _, _, _, _, _, _, _, _, _, _, _, _, _, _, _, _, _, _, _, _, _, _, _, _, _, _, _, _, _, _, _, _, _, _, _, _, _, _], []⟩ _)
    · intro u hu
      go_simp
    refine HT.take 2 (.pointer (some ⟨w.heap.size, 0, none⟩)) rfl (by kernel_rfl) (fun _ _ _ h => h) (Or.inl ⟨by rfl, ?_⟩) (?_ : HT _ _ _ _ _ _ _ ⟨#[_, _, _, _, _, _, _, _, _, _, _, _, _, _, _, .pointer (some ⟨w.heap.size, 0, none⟩), .pointer (some ⟨w.heap.size, 0, none⟩), .pointer (some ⟨w.heap.size, 0, none⟩), _, _, _, _, _, _, _, _, _, _, _, _, _, _, _, _, _, _, _, _, _, _, _, _, _, _, _, _, _, _, _, _, _, _, _, _, _, _, _, _, _, _, _], []⟩ _)
    · intro u hu
      go_simp
    refine HT.take 3 (.slice (some ⟨b, o, none⟩) n c) rfl (by kernel_rfl) (fun _ _ _ h => h) (Or.inl ⟨by rfl, ?_⟩) (?_ : HT _ _ _ _ _ _ _ ⟨#[_, _, _, _, _, _, _, _, _, _, _, _, _, _, _, .pointer (some ⟨w.heap.size, 0, none⟩), .pointer (some ⟨w.heap.size, 0, none⟩), .pointer (some ⟨w.heap.size, 0, none⟩), .slice (some ⟨b, o, none⟩) n c, _, _, _, _, _, _, _, _, _, _, _, _, _, _, _, _, _, _, _, _, _, _, _, _, _, _, _, _, _, _, _, _, _, _, _, _, _, _, _, _, _, _], []⟩ _)
    · intro u hu
      obtain ⟨x0, x1, x2, x3, x4⟩ := hu.cells
      go_simp
    refine HT.take 4 (.pointer (some ⟨w.heap.size, 0, none⟩)) rfl (by kernel_rfl) (fun _ _ _ h => h) (Or.inl ⟨by rfl, ?_⟩) (?_ : HT _ _ _ _ _ _ _ ⟨#[_, _, _, _, _, _, _, _, _, _, _, _, _, _, _, .pointer (some ⟨w.heap.size, 0, none⟩), .pointer (some ⟨w.heap.size, 0, none⟩), .pointer (some ⟨w.heap.size, 0, none⟩), .slice (some ⟨b, o, none⟩) n c, .pointer (some ⟨w.heap.size, 0, none⟩), _, _, _, _, _, _, _, _, _, _, _, _, _, _, _, _, _, _, _, _, _, _, _, _, _, _, _, _, _, _, _, _, _, _, _, _, _, _, _, _, _], []⟩ _)
    · intro u hu
      go_simp
    refine HT.take 5 (.pointer (some ⟨w.heap.size, 0, none⟩)) rfl (by kernel_rfl) (fun _ _ _ h => h) (Or.inl ⟨by rfl, ?_⟩) (?_ : HT _ _ _ _ _ _ _ ⟨#[_, _, _, _, _, _, _, _, _, _, _, _, _, _, _, .pointer (some ⟨w.heap.size, 0, none⟩), .pointer (some ⟨w.heap.size, 0, none⟩), .pointer (some ⟨w.heap.size, 0, none⟩), .slice (some ⟨b, o, none⟩) n c, .pointer (some ⟨w.heap.size, 0, none⟩), .pointer (some ⟨w.heap.size, 0, none⟩), _, _, _, _, _, _, _, _, _, _, _, _, _, _, _, _, _, _, _, _, _, _, _, _, _, _, _, _, _, _, _, _, _, _, _, _, _, _, _, _], []⟩ _)
    · intro u hu
      go_simp
    refine HT.take 6 (.pointer (some ⟨w.heap.size, 2, none⟩)) rfl (by kernel_rfl) (fun _ _ _ h => h) (Or.inl ⟨by rfl, ?_⟩) (?_ : HT _ _ _ _ _ _ _ ⟨#[_, _, _, _, _, _, _, _, _, _, _, _, _, _, _, .pointer (some ⟨w.heap.size, 0, none⟩), .pointer (some ⟨w.heap.size, 0, none⟩), .pointer (some ⟨w.heap.size, 0, none⟩), .slice (some ⟨b, o, none⟩) n c, .pointer (some ⟨w.heap.size, 0, none⟩), .pointer (some ⟨w.heap.size, 0, none⟩), .pointer (some ⟨w.heap.size, 2, none⟩), _, _, _, _, _, _, _, _, _, _, _, _, _, _, _, _, _, _, _, _, _, _, _, _, _, _, _, _, _, _, _, _, _, _, _, _, _, _, _], []⟩ _)
    · intro u hu
      go_simp
    refine HT.take 7 (.int .i64 z) rfl (by kernel_rfl) (fun _ _ _ h => h) (Or.inl ⟨by rfl, ?_⟩) (?_ : HT _ _ _ _ _ _ _ ⟨#[_, _, _, _, _, _, _, _, _, _, _, _, _, _, _, .pointer (some ⟨w.heap.size, 0, none⟩), .pointer (some ⟨w.heap.size, 0, none⟩), .pointer (some ⟨w.heap.size, 0, none⟩), .slice (some ⟨b, o, none⟩) n c, .pointer (some ⟨w.heap.size, 0, none⟩), .pointer (some ⟨w.heap.size, 0, none⟩), .pointer (some ⟨w.heap.size, 2, none⟩), .int .i64 z, _, _, _, _, _, _, _, _, _, _, _, _, _, _, _, _, _, _, _, _, _, _, _, _, _, _, _, _, _, _, _, _, _, _, _, _, _, _], []⟩ _)
    · intro u hu
      obtain ⟨x0, x1, x2, x3, x4⟩ := hu.cells
      go_simp
    refine HT.take 8 (.slice (some ⟨b, o + z, none⟩) (n - z) (c - z)) rfl (by kernel_rfl) (fun _ _ _ h => h) (Or.inl ⟨by rfl, ?_⟩) (?_ : HT _ _ _ _ _ _ _ ⟨#[_, _, _, _, _, _, _, _, _, _, _, _, _, _, _, .pointer (some ⟨w.heap.size, 0, none⟩), .pointer (some ⟨w.heap.size, 0, none⟩), .pointer (some ⟨w.heap.size, 0, none⟩), .slice (some ⟨b, o, none⟩) n c, .pointer (some ⟨w.heap.size, 0, none⟩), .pointer (some ⟨w.heap.size, 0, none⟩), .pointer (some ⟨w.heap.size, 2, none⟩), .int .i64 z, .slice (some ⟨b, o + z, none⟩) (n - z) (c - z), _, _, _, _, _, _, _, _, _, _, _, _, _, _, _, _, _, _, _, _, _, _, _, _, _, _, _, _, _, _, _, _, _, _, _, _, _], []⟩ _)
    · intro u hu
      go_simp
      rw [if_pos (show z ≤ n by omega), if_neg (show ¬ c = z by omega)]
    refine HT.step 9 rfl (by kernel_rfl) (fun hS K hK => ?_)
    go_simp
    refine hK.out _ _ (hS.alloc _) ?_
    clear hK
    refine HT.step 10 rfl (by kernel_rfl) (fun hS K hK => ?_)
    go_simp
    refine hK.out _ _ (hS0.alloc _) ?_
    clear hK hS hcc
    refine HT.step 11 rfl (by kernel_rfl) (fun hS K hK => ?_)
    go_simp
    refine (HPX.out _ hS _ (Rd.newRowM u2 5 #[.int .u8 13, .int .u8 10] (2, 3) 2 1 rfl)).mono ?_
    rintro e w' ⟨rfl, rfl⟩
    refine hK.out _ _ hS ?_
    clear hK
    refine HT.tail _ rfl rfl (by kernel_rfl) (fun hS => ?_)
    replace HS := Lib.hid hS
    generalize u2.alloc (.cells #[.int .u8 13, .int .u8 10] 5 (2, 3)) = u3 at *
    clear hS hS0
    by_cases hp : P.crlf.isPrefixOf (l.drop z) = false
    · rw [hp]
      have HP := Lib.hid hp
      clear hp
      go_wp2
      refine NoPanic.normal ?_
      go_wp2
      go_ret2
      exact .inr (.inl ⟨HZ.out, HP.out, rfl, HS.out.low⟩)
    · have HP := Lib.hid hp
      rw [Bool.not_eq_false] at hp
      rw [hp]
      clear hp
      go_wp2
      refine NoPanic.normal ?_
      go_wp2_with fail
      clear HPX
      obtain ⟨dl, hdl⟩ : ∃ dl, dl = data.length := ⟨_, rfl⟩
      have hlen : (data ++ l.take z).length = data.length + z := by rw [List.length_append, List.length_take]; omega
      have HLN := Lib.hid hlen
      clear hlen hdl
      have hS0 := HS.out.drew
      have hz2 : w.heap.size + 1 ≤ u3.heap.size := hS0.blk.lt
      refine wp_region_noPanic ?_
      refine HT.begin (n := 15) (S := (fun v => Blk v w.heap.size #[.slice (some ⟨b, o, none⟩) n c, .int .i64 1, .int .i64 z, .slice Da data.length dc, tv] 64)) (by kernel_rfl) hS0.blk ?_
      generalize u3.drew = u4 at *
      refine HT.take 0 (.pointer (some ⟨w.heap.size, 0, none⟩)) rfl (by kernel_rfl) (fun _ _ _ h => h) (Or.inl ⟨by rfl, ?_⟩) (?_ : HT _ _ _ _ _ _ _ ⟨#[_, _, _, _, _, _, _, _, _, _, _, _, _, _, _, _, _, _, _, _, _, _, _, _, _, _, _, _, .pointer (some ⟨w.heap.size, 0, none⟩), _, _, _, _, _, _, _, _, _, _, _, _, _, _, _, _, _, _, _, _, _, _, _, _, _, _, _, _, _, _, _, _], []⟩ _)
      · intro u hu
        go_simp
      refine HT.take 1 (.pointer (some ⟨w.heap.size, 0, none⟩)) rfl (by kernel_rfl) (fun _ _ _ h => h) (Or.inl ⟨by rfl, ?_⟩) (?_ : HT _ _ _ _ _ _ _ ⟨#[_, _, _, _, _, _, _, _, _, _, _, _, _, _, _, _, _, _, _, _, _, _, _, _, _, _, _, _, .pointer (some ⟨w.heap.size, 0, none⟩), .pointer (some ⟨w.heap.size, 0, none⟩), _, _, _, _, _, _, _, _, _, _, _, _, _, _, _, _, _, _, _, _, _, _, _, _, _, _, _, _, _, _, _], []⟩ _)
      · intro u hu
        go_simp
      refine HT.take 2 (.pointer (some ⟨w.heap.size, 0, none⟩)) rfl (by kernel_rfl) (fun _ _ _ h => h) (Or.inl ⟨by rfl, ?_⟩) (?_ : HT _ _ _ _ _ _ _ ⟨#[_, _, _, _, _, _, _, _, _, _, _, _, _, _, _, _, _, _, _, _, _, _, _, _, _, _, _, _, .pointer (some ⟨w.heap.size, 0, none⟩), .pointer (some ⟨w.heap.size, 0, none⟩), .pointer (some ⟨w.heap.size, 0, none⟩), _, _, _, _, _, _, _, _, _, _, _, _, _, _, _, _, _, _, _, _, _, _, _, _, _, _, _, _, _, _], []⟩ _)
      · intro u hu
        go_simp
      refine HT.take 3 (.pointer (some ⟨w.heap.size, 3, none⟩)) rfl (by kernel_rfl) (fun _ _ _ h => h) (Or.inl ⟨by rfl, ?_⟩) (?_ : HT _ _ _ _ _ _ _ ⟨#[_, _, _, _, _, _, _, _, _, _, _, _, _, _, _, _, _, _, _, _, _, _, _, _, _, _, _, _, .pointer (some ⟨w.heap.size, 0, none⟩), .pointer (some ⟨w.heap.size, 0, none⟩), .pointer (some ⟨w.heap.size, 0, none⟩), .pointer (some ⟨w.heap.size, 3, none⟩), _, _, _, _, _, _, _, _, _, _, _, _, _, _, _, _, _, _, _, _, _, _, _, _, _, _, _, _, _], []⟩ _)
      · intro u hu
        go_simp
      refine HT.take 4 (.slice Da data.length dc) rfl (by kernel_rfl) (fun _ _ _ h => h) (Or.inl ⟨by rfl, ?_⟩) (?_ : HT _ _ _ _ _ _ _ ⟨#[_, _, _, _, _, _, _, _, _, _, _, _, _, _, _, _, _, _, _, _, _, _, _, _, _, _, _, _, .pointer (some ⟨w.heap.size, 0, none⟩), .pointer (some ⟨w.heap.size, 0, none⟩), .pointer (some ⟨w.heap.size, 0, none⟩), .pointer (some ⟨w.heap.size, 3, none⟩), .slice Da data.length dc, _, _, _, _, _, _, _, _, _, _, _, _, _, _, _, _, _, _, _, _, _, _, _, _, _, _, _, _], []⟩ _)
      · intro u hu
        have x0 := hu.cell 0 rfl
        have x2 := hu.cell 2 rfl
        have x3 := hu.cell 3 rfl
        go_simp
      refine HT.take 5 (.pointer (some ⟨w.heap.size, 0, none⟩)) rfl (by kernel_rfl) (fun _ _ _ h => h) (Or.inl ⟨by rfl, ?_⟩) (?_ : HT _ _ _ _ _ _ _ ⟨#[_, _, _, _, _, _, _, _, _, _, _, _, _, _, _, _, _, _, _, _, _, _, _, _, _, _, _, _, .pointer (some ⟨w.heap.size, 0, none⟩), .pointer (some ⟨w.heap.size, 0, none⟩), .pointer (some ⟨w.heap.size, 0, none⟩), .pointer (some ⟨w.heap.size, 3, none⟩), .slice Da data.length dc, .pointer (some ⟨w.heap.size, 0, none⟩), _, _, _, _, _, _, _, _, _, _, _, _, _, _, _, _, _, _, _, _, _, _, _, _, _, _, _], []⟩ _)
      · intro u hu
        go_simp
      refine HT.take 6 (.pointer (some ⟨w.heap.size, 0, none⟩)) rfl (by kernel_rfl) (fun _ _ _ h => h) (Or.inl ⟨by rfl, ?_⟩) (?_ : HT _ _ _ _ _ _ _ ⟨#[_, _, _, _, _, _, _, _, _, _, _, _, _, _, _, _, _, _, _, _, _, _, _, _, _, _, _, _, .pointer (some ⟨w.heap.size, 0, none⟩), .pointer (some ⟨w.heap.size, 0, none⟩), .pointer (some ⟨w.heap.size, 0, none⟩), .pointer (some ⟨w.heap.size, 3, none⟩), .slice Da data.length dc, .pointer (some ⟨w.heap.size, 0, none⟩), .pointer (some ⟨w.heap.size, 0, none⟩), _, _, _, _, _, _, _, _, _, _, _, _, _, _, _, _, _, _, _, _, _, _, _, _, _, _], []⟩ _)
      · intro u hu
        go_simp
      refine HT.take 7 (.pointer (some ⟨w.heap.size, 0, none⟩)) rfl (by kernel_rfl) (fun _ _ _ h => h) (Or.inl ⟨by rfl, ?_⟩) (?_ : HT _ _ _ _ _ _ _ ⟨#[_, _, _, _, _, _, _, _, _, _, _, _, _, _, _, _, _, _, _, _, _, _, _, _, _, _, _, _, .pointer (some ⟨w.heap.size, 0, none⟩), .pointer (some ⟨w.heap.size, 0, none⟩), .pointer (some ⟨w.heap.size, 0, none⟩), .pointer (some ⟨w.heap.size, 3, none⟩), .slice Da data.length dc, .pointer (some ⟨w.heap.size, 0, none⟩), .pointer (some ⟨w.heap.size, 0, none⟩), .pointer (some ⟨w.heap.size, 0, none⟩), _, _, _, _, _, _, _, _, _, _, _, _, _, _, _, _, _, _, _, _, _, _, _, _, _], []⟩ _)
      · intro u hu
        go_simp
      refine HT.take 8 (.slice (some ⟨b, o, none⟩) n c) rfl (by kernel_rfl) (fun _ _ _ h => h) (Or.inl ⟨by rfl, ?_⟩) (?_ : HT _ _ _ _ _ _ _ ⟨#[_, _, _, _, _, _, _, _, _, _, _, _, _, _, _, _, _, _, _, _, _, _, _, _, _, _, _, _, .pointer (some ⟨w.heap.size, 0, none⟩), .pointer (some ⟨w.heap.size, 0, none⟩), .pointer (some ⟨w.heap.size, 0, none⟩), .pointer (some ⟨w.heap.size, 3, none⟩), .slice Da data.length dc, .pointer (some ⟨w.heap.size, 0, none⟩), .pointer (some ⟨w.heap.size, 0, none⟩), .pointer (some ⟨w.heap.size, 0, none⟩), .slice (some ⟨b, o, none⟩) n c, _, _, _, _, _, _, _, _, _, _, _, _, _, _, _, _, _, _, _, _, _, _, _, _], []⟩ _)
      · intro u hu
        have x0 := hu.cell 0 rfl
        have x2 := hu.cell 2 rfl
        have x3 := hu.cell 3 rfl
        go_simp
      refine HT.take 9 (.pointer (some ⟨w.heap.size, 0, none⟩)) rfl (by kernel_rfl) (fun _ _ _ h => h) (Or.inl ⟨by rfl, ?_⟩) (?_ : HT _ _ _ _ _ _ _ ⟨#[_, _, _, _, _, _, _, _, _, _, _, _, _, _, _, _, _, _, _, _, _, _, _, _, _, _, _, _, .pointer (some ⟨w.heap.size, 0, none⟩), .pointer (some ⟨w.heap.size, 0, none⟩), .pointer (some ⟨w.heap.size, 0, none⟩), .pointer (some ⟨w.heap.size, 3, none⟩), .slice Da data.length dc, .pointer (some ⟨w.heap.size, 0, none⟩), .pointer (some ⟨w.heap.size, 0, none⟩), .pointer (some ⟨w.heap.size, 0, none⟩), .slice (some ⟨b, o, none⟩) n c, .pointer (some ⟨w.heap.size, 0, none⟩), _, _, _, _, _, _, _, _, _, _, _, _, _, _, _, _, _, _, _, _, _, _, _], []⟩ _)
      · intro u hu
        go_simp
      refine HT.take 10 (.pointer (some ⟨w.heap.size, 0, none⟩)) rfl (by kernel_rfl) (fun _ _ _ h => h) (Or.inl ⟨by rfl, ?_⟩) (?_ : HT _ _ _ _ _ _ _ ⟨#[_, _, _, _, _, _, _, _, _, _, _, _, _, _, _, _, _, _, _, _, _, _, _, _, _, _, _, _, .pointer (some ⟨w.heap.size, 0, none⟩), .pointer (some ⟨w.heap.size, 0, none⟩), .pointer (some ⟨w.heap.size, 0, none⟩), .pointer (some ⟨w.heap.size, 3, none⟩), .slice Da data.length dc, .pointer (some ⟨w.heap.size, 0, none⟩), .pointer (some ⟨w.heap.size, 0, none⟩), .pointer (some ⟨w.heap.size, 0, none⟩), .slice (some ⟨b, o, none⟩) n c, .pointer (some ⟨w.heap.size, 0, none⟩), .pointer (some ⟨w.heap.size, 0, none⟩), _, _, _, _, _, _, _, _, _, _, _, _, _, _, _, _, _, _, _, _, _, _], []⟩ _)
      · intro u hu
        go_simp
      refine HT.take 11 (.pointer (some ⟨w.heap.size, 2, none⟩)) rfl (by kernel_rfl) (fun _ _ _ h => h) (Or.inl ⟨by rfl, ?_⟩) (?_ : HT _ _ _ _ _ _ _ ⟨#[_, _, _, _, _, _, _, _, _, _, _, _, _, _, _, _, _, _, _, _, _, _, _, _, _, _, _, _, .pointer (some ⟨w.heap.size, 0, none⟩), .pointer (some ⟨w.heap.size, 0, none⟩), .pointer (some ⟨w.heap.size, 0, none⟩), .pointer (some ⟨w.heap.size, 3, none⟩), .slice Da data.length dc, .pointer (some ⟨w.heap.size, 0, none⟩), .pointer (some ⟨w.heap.size, 0, none⟩), .pointer (some ⟨w.heap.size, 0, none⟩), .slice (some ⟨b, o, none⟩) n c, .pointer (some ⟨w.heap.size, 0, none⟩), .pointer (some ⟨w.heap.size, 0, none⟩), .pointer (some ⟨w.heap.size, 2, none⟩), _, _, _, _, _, _, _, _, _, _, _, _, _, _, _, _, _, _, _, _, _], []⟩ _)
      · intro u hu
        go_simp
      refine HT.take 12 (.int .i64 z) rfl (by kernel_rfl) (fun _ _ _ h => h) (Or.inl ⟨by rfl, ?_⟩) (?_ : HT _ _ _ _ _ _ _ ⟨#[_, _, _, _, _, _, _, _, _, _, _, _, _, _, _, _, _, _, _, _, _, _, _, _, _, _, _, _, .pointer (some ⟨w.heap.size, 0, none⟩), .pointer (some ⟨w.heap.size, 0, none⟩), .pointer (some ⟨w.heap.size, 0, none⟩), .pointer (some ⟨w.heap.size, 3, none⟩), .slice Da data.length dc, .pointer (some ⟨w.heap.size, 0, none⟩), .pointer (some ⟨w.heap.size, 0, none⟩), .pointer (some ⟨w.heap.size, 0, none⟩), .slice (some ⟨b, o, none⟩) n c, .pointer (some ⟨w.heap.size, 0, none⟩), .pointer (some ⟨w.heap.size, 0, none⟩), .pointer (some ⟨w.heap.size, 2, none⟩), .int .i64 z, _, _, _, _, _, _, _, _, _, _, _, _, _, _, _, _, _, _, _, _], []⟩ _)
      · intro u hu
        have x0 := hu.cell 0 rfl
        have x2 := hu.cell 2 rfl
        have x3 := hu.cell 3 rfl
        go_simp
      refine HT.take 13 (.slice (some ⟨b, o, none⟩) z c) rfl (by kernel_rfl) (fun _ _ _ h => h) (Or.inl ⟨by rfl, ?_⟩) (?_ : HT _ _ _ _ _ _ _ ⟨#[_, _, _, _, _, _, _, _, _, _, _, _, _, _, _, _, _, _, _, _, _, _, _, _, _, _, _, _, .pointer (some ⟨w.heap.size, 0, none⟩), .pointer (some ⟨w.heap.size, 0, none⟩), .pointer (some ⟨w.heap.size, 0, none⟩), .pointer (some ⟨w.heap.size, 3, none⟩), .slice Da data.length dc, .pointer (some ⟨w.heap.size, 0, none⟩), .pointer (some ⟨w.heap.size, 0, none⟩), .pointer (some ⟨w.heap.size, 0, none⟩), .slice (some ⟨b, o, none⟩) n c, .pointer (some ⟨w.heap.size, 0, none⟩), .pointer (some ⟨w.heap.size, 0, none⟩), .pointer (some ⟨w.heap.size, 2, none⟩), .int .i64 z, .slice (some ⟨b, o, none⟩) z c, _, _, _, _, _, _, _, _, _, _, _, _, _, _, _, _, _, _, _], []⟩ _)
      · intro u hu
        go_simp
        try rw [if_pos (show z ≤ c by omega)]
      refine HT.step 14 rfl (by kernel_rfl) (fun hS K hK => ?_)
      rw [if_pos (by rfl)]
      refine wpB _ (.tmp 32) (.tmp 41) rfl (w.heap.size + 1) Da data.length dc data rfl hS0.row (some ⟨b, o, none⟩) z c (l.take z) rfl ((hS0.rd.upto (by omega)).below hS0.low) (by omega) hS0.blk.lt ?_
      intro Da' dc' u5 hr5 ha5
      refine hK.out _ _ (hS.app ha5 (fun k hk => by have := (hS0.row.lt k hk).1; omega)) ?_
      clear hK hS
      rw [← HLN.out] at hr5
      refine (?_ : HT _ _ _ _ _ _ _ ⟨#[_, _, _, _, _, _, _, _, _, _, _, _, _, _, _, _, _, _, _, _, _, _, _, _, _, _, _, _, .pointer (some ⟨w.heap.size, 0, none⟩), .pointer (some ⟨w.heap.size, 0, none⟩), .pointer (some ⟨w.heap.size, 0, none⟩), .pointer (some ⟨w.heap.size, 3, none⟩), .slice Da data.length dc, .pointer (some ⟨w.heap.size, 0, none⟩), .pointer (some ⟨w.heap.size, 0, none⟩), .pointer (some ⟨w.heap.size, 0, none⟩), .slice (some ⟨b, o, none⟩) n c, .pointer (some ⟨w.heap.size, 0, none⟩), .pointer (some ⟨w.heap.size, 0, none⟩), .pointer (some ⟨w.heap.size, 2, none⟩), .int .i64 z, .slice (some ⟨b, o, none⟩) z c, .slice Da' (data.length + z) dc', _, _, _, _, _, _, _, _, _, _, _, _, _, _, _, _, _, _], []⟩ _)
      refine HT.tail _ rfl rfl (by kernel_rfl) (fun hS => ?_)
      have x3 := hS.cell 3 rfl
      have f3 := hS.free 3
      have HS6 := Lib.hid (hS0.more hr5 ha5)
      rw [HLN.out] at HS6
      clear hr5 ha5 hS hS0
      go_wp2
      refine NoPanic.normal ?_
      go_wp2_with fail
      clear x3 f3
      generalize u5.setCell ⟨w.heap.size, 3, none⟩ (.slice Da' (data.length + z) dc') = u6 at *
      
      have hS0 := HS6.out.drew
      refine wp_region_noPanic ?_
      refine HT.begin (n := 11) (S := (fun v => St w v 1 z (some ⟨b, o, none⟩) n c l Da' dc' (data ++ l.take z) tv)) (by kernel_rfl) hS0 ?_
      generalize u6.drew = u7 at *
      refine HT.take 0 (.pointer (some ⟨w.heap.size, 0, none⟩)) rfl (by kernel_rfl) (fun _ _ _ h => h) (Or.inl ⟨by rfl, ?_⟩) (?_ : HT _ _ _ _ _ _ _ ⟨#[_, _, _, _, _, _, _, _, _, _, _, _, _, _, _, _, _, _, _, _, _, _, _, _, _, _, _, _, _, _, _, _, _, _, _, _, _, _, _, _, _, _, _, _, _, .pointer (some ⟨w.heap.size, 0, none⟩), _, _, _, _, _, _, _, _, _, _, _, _, _, _, _], []⟩ _)
      · intro u hu
        go_simp
      refine HT.take 1 (.pointer (some ⟨w.heap.size, 0, none⟩)) rfl (by kernel_rfl) (fun _ _ _ h => h) (Or.inl ⟨by rfl, ?_⟩) (?_ : HT _ _ _ _ _ _ _ ⟨#[_, _, _, _, _, _, _, _, _, _, _, _, _, _, _, _, _, _, _, _, _, _, _, _, _, _, _, _, _, _, _, _, _, _, _, _, _, _, _, _, _, _, _, _, _, .pointer (some ⟨w.heap.size, 0, none⟩), .pointer (some ⟨w.heap.size, 0, none⟩), _, _, _, _, _, _, _, _, _, _, _, _, _, _], []⟩ _)
      · intro u hu
        go_simp
      refine HT.take 2 (.pointer (some ⟨w.heap.size, 0, none⟩)) rfl (by kernel_rfl) (fun _ _ _ h => h) (Or.inl ⟨by rfl, ?_⟩) (?_ : HT _ _ _ _ _ _ _ ⟨#[_, _, _, _, _, _, _, _, _, _, _, _, _, _, _, _, _, _, _, _, _, _, _, _, _, _, _, _, _, _, _, _, _, _, _, _, _, _, _, _, _, _, _, _, _, .pointer (some ⟨w.heap.size, 0, none⟩), .pointer (some ⟨w.heap.size, 0, none⟩), .pointer (some ⟨w.heap.size, 0, none⟩), _, _, _, _, _, _, _, _, _, _, _, _, _], []⟩ _)
      · intro u hu
        go_simp
      refine HT.take 3 (.pointer (some ⟨w.heap.size, 0, none⟩)) rfl (by kernel_rfl) (fun _ _ _ h => h) (Or.inl ⟨by rfl, ?_⟩) (?_ : HT _ _ _ _ _ _ _ ⟨#[_, _, _, _, _, _, _, _, _, _, _, _, _, _, _, _, _, _, _, _, _, _, _, _, _, _, _, _, _, _, _, _, _, _, _, _, _, _, _, _, _, _, _, _, _, .pointer (some ⟨w.heap.size, 0, none⟩), .pointer (some ⟨w.heap.size, 0, none⟩), .pointer (some ⟨w.heap.size, 0, none⟩), .pointer (some ⟨w.heap.size, 0, none⟩), _, _, _, _, _, _, _, _, _, _, _, _], []⟩ _)
      · intro u hu
        go_simp
      refine HT.take 4 (.slice (some ⟨b, o, none⟩) n c) rfl (by kernel_rfl) (fun _ _ _ h => h) (Or.inl ⟨by rfl, ?_⟩) (?_ : HT _ _ _ _ _ _ _ ⟨#[_, _, _, _, _, _, _, _, _, _, _, _, _, _, _, _, _, _, _, _, _, _, _, _, _, _, _, _, _, _, _, _, _, _, _, _, _, _, _, _, _, _, _, _, _, .pointer (some ⟨w.heap.size, 0, none⟩), .pointer (some ⟨w.heap.size, 0, none⟩), .pointer (some ⟨w.heap.size, 0, none⟩), .pointer (some ⟨w.heap.size, 0, none⟩), .slice (some ⟨b, o, none⟩) n c, _, _, _, _, _, _, _, _, _, _, _], []⟩ _)
      · intro u hu
        obtain ⟨x0, x1, x2, x3, x4⟩ := hu.cells
        go_simp
      refine HT.take 5 (.pointer (some ⟨w.heap.size, 0, none⟩)) rfl (by kernel_rfl) (fun _ _ _ h => h) (Or.inl ⟨by rfl, ?_⟩) (?_ : HT _ _ _ _ _ _ _ ⟨#[_, _, _, _, _, _, _, _, _, _, _, _, _, _, _, _, _, _, _, _, _, _, _, _, _, _, _, _, _, _, _, _, _, _, _, _, _, _, _, _, _, _, _, _, _, .pointer (some ⟨w.heap.size, 0, none⟩), .pointer (some ⟨w.heap.size, 0, none⟩), .pointer (some ⟨w.heap.size, 0, none⟩), .pointer (some ⟨w.heap.size, 0, none⟩), .slice (some ⟨b, o, none⟩) n c, .pointer (some ⟨w.heap.size, 0, none⟩), _, _, _, _, _, _, _, _, _, _], []⟩ _)
      · intro u hu
        go_simp
      refine HT.take 6 (.pointer (some ⟨w.heap.size, 0, none⟩)) rfl (by kernel_rfl) (fun _ _ _ h => h) (Or.inl ⟨by rfl, ?_⟩) (?_ : HT _ _ _ _ _ _ _ ⟨#[_, _, _, _, _, _, _, _, _, _, _, _, _, _, _, _, _, _, _, _, _, _, _, _, _, _, _, _, _, _, _, _, _, _, _, _, _, _, _, _, _, _, _, _, _, .pointer (some ⟨w.heap.size, 0, none⟩), .pointer (some ⟨w.heap.size, 0, none⟩), .pointer (some ⟨w.heap.size, 0, none⟩), .pointer (some ⟨w.heap.size, 0, none⟩), .slice (some ⟨b, o, none⟩) n c, .pointer (some ⟨w.heap.size, 0, none⟩), .pointer (some ⟨w.heap.size, 0, none⟩), _, _, _, _, _, _, _, _, _], []⟩ _)
      · intro u hu
        go_simp
      refine HT.take 7 (.pointer (some ⟨w.heap.size, 2, none⟩)) rfl (by kernel_rfl) (fun _ _ _ h => h) (Or.inl ⟨by rfl, ?_⟩) (?_ : HT _ _ _ _ _ _ _ ⟨#[_, _, _, _, _, _, _, _, _, _, _, _, _, _, _, _, _, _, _, _, _, _, _, _, _, _, _, _, _, _, _, _, _, _, _, _, _, _, _, _, _, _, _, _, _, .pointer (some ⟨w.heap.size, 0, none⟩), .pointer (some ⟨w.heap.size, 0, none⟩), .pointer (some ⟨w.heap.size, 0, none⟩), .pointer (some ⟨w.heap.size, 0, none⟩), .slice (some ⟨b, o, none⟩) n c, .pointer (some ⟨w.heap.size, 0, none⟩), .pointer (some ⟨w.heap.size, 0, none⟩), .pointer (some ⟨w.heap.size, 2, none⟩), _, _, _, _, _, _, _, _], []⟩ _)
      · intro u hu
        go_simp
      refine HT.take 8 (.int .i64 z) rfl (by kernel_rfl) (fun _ _ _ h => h) (Or.inl ⟨by rfl, ?_⟩) (?_ : HT _ _ _ _ _ _ _ ⟨#[_, _, _, _, _, _, _, _, _, _, _, _, _, _, _, _, _, _, _, _, _, _, _, _, _, _, _, _, _, _, _, _, _, _, _, _, _, _, _, _, _, _, _, _, _, .pointer (some ⟨w.heap.size, 0, none⟩), .pointer (some ⟨w.heap.size, 0, none⟩), .pointer (some ⟨w.heap.size, 0, none⟩), .pointer (some ⟨w.heap.size, 0, none⟩), .slice (some ⟨b, o, none⟩) n c, .pointer (some ⟨w.heap.size, 0, none⟩), .pointer (some ⟨w.heap.size, 0, none⟩), .pointer (some ⟨w.heap.size, 2, none⟩), .int .i64 z, _, _, _, _, _, _, _], []⟩ _)
      · intro u hu
        obtain ⟨x0, x1, x2, x3, x4⟩ := hu.cells
        go_simp
      refine HT.take 9 (.int .i64 ((z : Int) + 2)) rfl (by kernel_rfl) (fun _ _ _ h => h) (Or.inl ⟨by rfl, ?_⟩) (?_ : HT _ _ _ _ _ _ _ ⟨#[_, _, _, _, _, _, _, _, _, _, _, _, _, _, _, _, _, _, _, _, _, _, _, _, _, _, _, _, _, _, _, _, _, _, _, _, _, _, _, _, _, _, _, _, _, .pointer (some ⟨w.heap.size, 0, none⟩), .pointer (some ⟨w.heap.size, 0, none⟩), .pointer (some ⟨w.heap.size, 0, none⟩), .pointer (some ⟨w.heap.size, 0, none⟩), .slice (some ⟨b, o, none⟩) n c, .pointer (some ⟨w.heap.size, 0, none⟩), .pointer (some ⟨w.heap.size, 0, none⟩), .pointer (some ⟨w.heap.size, 2, none⟩), .int .i64 z, .int .i64 ((z : Int) + 2), _, _, _, _, _, _], []⟩ _)
      · intro u hu
        go_simp
        rw [IntKind.wrap_i64]
        omega
      refine HT.take 10 (.slice (addA (some ⟨b, o, none⟩) c (z + 2)) (n - (z + 2)) (c - (z + 2))) rfl (by kernel_rfl) (fun _ _ _ h => h) (Or.inl ⟨by rfl, ?_⟩) (?_ : HT _ _ _ _ _ _ _ ⟨#[_, _, _, _, _, _, _, _, _, _, _, _, _, _, _, _, _, _, _, _, _, _, _, _, _, _, _, _, _, _, _, _, _, _, _, _, _, _, _, _, _, _, _, _, _, .pointer (some ⟨w.heap.size, 0, none⟩), .pointer (some ⟨w.heap.size, 0, none⟩), .pointer (some ⟨w.heap.size, 0, none⟩), .pointer (some ⟨w.heap.size, 0, none⟩), .slice (some ⟨b, o, none⟩) n c, .pointer (some ⟨w.heap.size, 0, none⟩), .pointer (some ⟨w.heap.size, 0, none⟩), .pointer (some ⟨w.heap.size, 2, none⟩), .int .i64 z, .int .i64 ((z : Int) + 2), .slice (addA (some ⟨b, o, none⟩) c (z + 2)) (n - (z + 2)) (c - (z + 2)), _, _, _, _, _], []⟩ _)
      · intro u hu
        go_simp
        rw [if_pos (by omega), show ((z : Int) + 2).toNat = z + 2 by omega, addA_ite]
      refine HT.tail _ rfl rfl (by kernel_rfl) (fun hS => ?_)
      obtain ⟨x0, x1, x2, x3, x4⟩ := hS.cells
      obtain ⟨f0, f1, f2, f3, f4⟩ := hS.frees
      have HS8 := Lib.hid (hS.rest (z + 2) (by omega))
      clear hS hS0 HS6
      go_wp2
      refine NoPanic.normal ?_
      go_upto_region 7 with fail
      generalize u7.setCell ⟨w.heap.size, 0, none⟩ (.slice (addA (some ⟨b, o, none⟩) c (z + 2)) (n - (z + 2)) (c - (z + 2))) = u8 at *
      clear x0 x1 x2 x3 x4 f0 f1 f2 f3 f4
      have HS9 := Lib.hid (HS8.out.stage 0)
      obtain ⟨x0, x1, x2, x3, x4⟩ := HS8.out.cells
      obtain ⟨f0, f1, f2, f3, f4⟩ := HS8.out.frees
      go_wp2
      go_ret2
      exact .inr (.inr ⟨HZ.out, HP.out, rfl, _, _, HS9.out⟩)
end Go.Proofs.YtnmldbcgpfglkaaGreatDoor
