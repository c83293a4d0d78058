/- The walk of the disk's Append (printed by gen/disk3.py). Conditions: names, files and data of at most 2^40 bytes, at most 2^40 steps, names, files; the sum of the sizes within 2^60. -/
import Derived.Test.YtkempjcphpnocaaGreatDoorZ05
namespace Go.Proofs.YtkempjcphpnocaaGreatDoor
open Go Go.RowKit Go.Maps

set_option maxHeartbeats 4000000 in
theorem append_any (B : Nat) (M : DM) (s : D.Dsk) (nm : ByteArray) (A : Option Addr) (n c : Nat) (l : List UInt8) (w : World) (h : DkAt B M s w) (hs : s.Sml) (ok : s.Ok) (hu : s.used ≤ 1152921504606846976) (hrm : 0 ≤ s.room ∧ s.room ≤ 1152921504606846976) (hn : nm.size ≤ 1099511627776)
    (hl : l.length = n) (hln : n ≤ 1099511627776) (hx : Rd w A n 1 (bcells l)) (hA : 0 < n → ∀ a, A = some a → ¬ M.foot s a.block) :
    Calls Tryz.prog 68 #[.pointer (some ⟨M.d, 0, none⟩), .string nm, .slice A n c] w (RetStep B M s w (s.append nm l)) := by
  have HON := Lib.hid (on_any B M s nm none 0 0 0 [] w (fun u hg => h.below (grown_below hg)) ⟨hs.n0, hs.n⟩ hs.fails (by omega) rfl (fun x hx => by rw [List.mem_singleton.1 hx]; exact hn) (Row.none_ _ _ _ _) (Nat.zero_le _))
  obtain ⟨G, hG⟩ : ∃ G, s.append nm l = G := ⟨_, rfl⟩
  have HG : Hid (G = match s.look nm [] with | (s1, _, some no) => (if 0 < l.length ∧ s1.room < (s1.used : Int) + l.length then (s1, 92) else (s1.wrote no l, 0)) | (s1, e, none) => (s1, e)) := Lib.hid (by rw [← hG]; exact D.Dsk.on_look ..)
  rw [hG]
  have HX := Lib.hid hx
  have HA := Lib.hid hA
  clear hG h hx hA
  go_enter Tryz.func68, Tryz.ntmps68
  go_wp2_with fail
  refine HON.out.mono ?_
  rintro e w2 ⟨rfl, u, hg, hd2, hs2⟩
  have hst := (Stepped.below (grown_below hg) : Stepped M s w M s u).trans hs2
  have HX2 := Lib.hid (hst.rd HX.out HA.out)
  have HS2 := Lib.hid hst
  clear hg hs2 HON HX HA hst
  rcases s.look_or nm [] with ⟨k, e, hlk, he⟩ | ⟨k, no, hlk, hf⟩
  · rw [hlk] at hd2 HS2 HG
    rw [hlk]
    have HD2 := Lib.hid hd2
    have heb : (e == 0) = false := beq_eq_false_iff_ne.2 he
    clear hd2 hlk
    go_wp2
    go_ret
    exact ⟨by rw [HG.out]; rfl, M, by rw [HG.out]; exact HD2.out, by rw [HG.out]; exact HS2.out⟩
  rw [hlk] at hd2 HS2 HG
  rw [hlk]
  have hno := D.find_lt ok hf
  have okn : ({ s with n := k } : D.Dsk).Ok := ⟨ok.lens, ok.upN, ok.upS, ok.inN, ok.inS, ok.inP, ok.fold, ok.firms⟩
  have hsz := hs.size no
  have HG2 : Hid (G = if 0 < l.length ∧ s.room < (s.used : Int) + l.length then (({ s with n := k } : D.Dsk), (92 : Int)) else (({ s with n := k } : D.Dsk).wrote no l, 0)) := HG
  clear HG hlk hf
  dsimp only [D.ptrOf]
  have hss : ∀ no, ({ s with n := k } : D.Dsk).size no ≤ 1099511627776 := hs.size
  have hno2 : no < ({ s with n := k } : D.Dsk).data.length := hno
  have hsz2 : ({ s with n := k } : D.Dsk).size no ≤ 1099511627776 := hs.size no
  have hu2 : ({ s with n := k } : D.Dsk).used ≤ 1152921504606846976 := hu
  have HG3 : Hid (G = if 0 < l.length ∧ ({ s with n := k } : D.Dsk).room < ((({ s with n := k } : D.Dsk).used : Nat) : Int) + l.length then (({ s with n := k } : D.Dsk), (92 : Int)) else (({ s with n := k } : D.Dsk).wrote no l, 0)) := HG2
  have hrm2 : 0 ≤ ({ s with n := k } : D.Dsk).room ∧ ({ s with n := k } : D.Dsk).room ≤ 1152921504606846976 := hrm
  clear HG2 hsz hno hu hrm
  generalize ({ s with n := k } : D.Dsk) = T at *
  have HD2 := Lib.hid hd2
  have HOK := Lib.hid okn
  have HSS := Lib.hid hss
  clear hd2 okn hss
  by_cases h0 : n = 0
  · have hl0 : l = [] := List.eq_nil_of_length_eq_zero (by omega)
    subst hl0
    subst h0
    rw [if_neg (by simp)] at HG3
    go_upto_region 4 with fail
    go_region
    have HD3 := Lib.hid (HD2.out.below (Below.refl _ _).drew)
    have HS3 : Hid (Stepped M s w M T w2.drew) := Lib.hid (HS2.out.trans (Stepped.below (Below.refl _ _).drew))
    have HX3 : Hid (Rd w2.drew A 0 1 (bcells [])) := Lib.hid HX2.out.drew
    clear HD2 HS2 HX2
    generalize w2.drew = w3 at *
    have z1 : w3.cell? ⟨M.fa no, 1, none⟩ = some (.slice (M.da no) (T.size no) (M.dc no)) := (HD3.out.files no hno2).blk.cell 1 rfl
    have hB3 : B ≤ w3.heap.size := HD3.out.base
    go_wp2_with (at_builtin; refine appB _ rfl _ _ rfl B (M.da no) (T.size no) (M.dc no) (T.data.getD no []) rfl (HD3.out.files no hno2).row _ 0 _ [] rfl HX3.out (by omega) hB3 ?_; intro A1 c1 w4 hr4 ha4; have hF4 := (HD3.out.files no hno2).blk.keptG ha4.grown (fun e => ((HD3.out.files no hno2).row.tag e).ne (HD3.out.files no hno2).blk.tag (by decide) rfl); have f4 := hF4.free 1; have g4 : w4.cell? ⟨M.fa no, 1, none⟩ = some (.slice (M.da no) (T.size no) (M.dc no)) := hF4.cell 1 rfl)
    go_ret
    exact ⟨by rw [HG3.out]; rfl, _, by rw [HG3.out]; exact HD3.out.wrote hno2 ha4 hr4, by rw [HG3.out]; exact HS3.out.trans (Stepped.wrote hno2 ha4)⟩
  have hnp : 0 < n := Nat.pos_of_ne_zero h0
  have hnpi : (n : Int) > 0 := by omega
  have hS0 : DkAt B M T w2.drew ∧ Below w2.heap.size w2 w2.drew := ⟨HD2.out.below (Below.refl _ _).drew, (Below.refl _ _).drew⟩
  have hsum : ((T.used : Int) + n) ≤ 4611686018427387904 := by omega
  have hwr : IntKind.i64.wrap ((T.used : Int) + n) = (T.used : Int) + n := by rw [IntKind.wrap_i64]; omega
  by_cases hfull : T.room < (T.used : Int) + n
  · rw [if_pos (by rw [hl]; exact ⟨hnp, hfull⟩)] at HG3
    have hfi : ((T.used : Int) + n > T.room) := by omega
    go_upto_region 4 with fail
    refine wp_region_noPanic ?_
    refine HT.begin (n := 14) (S := (fun u => DkAt B M T u ∧ Below w2.heap.size w2 u)) (by kernel_rfl) hS0 ?_
    generalize w2.drew = wd at *
    refine HT.take 0 (.slice A n c) rfl (by kernel_rfl) (fun _ _ _ h => h) (Or.inl ⟨by rfl, ?_⟩) (?_ : HT _ _ _ _ _ _ _ ⟨#[_, _, _, _, _, _, _, _, _, _, _, _, _, _, _, _, _, _, .slice A n c, _, _, _, _, _, _, _, _, _, _, _, _, _, _, _, _, _, _, _, _, _, _, _], []⟩ _)
    · intro u hu
      go_simp
    refine HT.take 1 (.int .i64 n) rfl (by kernel_rfl) (fun _ _ _ h => h) (Or.inl ⟨by rfl, ?_⟩) (?_ : HT _ _ _ _ _ _ _ ⟨#[_, _, _, _, _, _, _, _, _, _, _, _, _, _, _, _, _, _, .slice A n c, .int .i64 n, _, _, _, _, _, _, _, _, _, _, _, _, _, _, _, _, _, _, _, _, _, _], []⟩ _)
    · intro u hu
      go_simp
    refine HT.take 2 (.bool true) rfl (by kernel_rfl) (fun _ _ _ h => h) (Or.inl ⟨by rfl, ?_⟩) (?_ : HT _ _ _ _ _ _ _ ⟨#[_, _, _, _, _, _, _, _, _, _, _, _, _, _, _, _, _, _, .slice A n c, .int .i64 n, .bool true, _, _, _, _, _, _, _, _, _, _, _, _, _, _, _, _, _, _, _, _, _], []⟩ _)
    · intro u hu
      go_simp
    refine HT.take 3 (.bool true) rfl (by kernel_rfl) (fun _ _ _ h => h) (Or.inl ⟨by rfl, ?_⟩) (?_ : HT _ _ _ _ _ _ _ ⟨#[_, _, _, _, _, _, _, _, _, _, _, _, _, _, _, _, _, _, .slice A n c, .int .i64 n, .bool true, .bool true, _, _, _, _, _, _, _, _, _, _, _, _, _, _, _, _, _, _, _, _], []⟩ _)
    · intro u hu
      go_simp
    refine HT.take 4 (.pointer (some ⟨M.d, 0, none⟩)) rfl (by kernel_rfl) (fun _ _ _ h => h) (Or.inl ⟨by rfl, ?_⟩) (?_ : HT _ _ _ _ _ _ _ ⟨#[_, _, _, _, _, _, _, _, _, _, _, _, _, _, _, _, _, _, .slice A n c, .int .i64 n, .bool true, .bool true, .pointer (some ⟨M.d, 0, none⟩), _, _, _, _, _, _, _, _, _, _, _, _, _, _, _, _, _, _, _], []⟩ _)
    · intro u hu
      go_simp
    refine HT.take 6 (.slice A n c) rfl (by kernel_rfl) (fun _ _ _ h => h) (Or.inl ⟨by rfl, ?_⟩) (?_ : HT _ _ _ _ _ _ _ ⟨#[_, _, _, _, _, _, _, _, _, _, _, _, _, _, _, _, _, _, .slice A n c, .int .i64 n, .bool true, .bool true, .pointer (some ⟨M.d, 0, none⟩), _, .slice A n c, _, _, _, _, _, _, _, _, _, _, _, _, _, _, _, _, _], []⟩ _)
    · intro u hu
      go_simp
    refine HT.take 7 (.int .i64 n) rfl (by kernel_rfl) (fun _ _ _ h => h) (Or.inl ⟨by rfl, ?_⟩) (?_ : HT _ _ _ _ _ _ _ ⟨#[_, _, _, _, _, _, _, _, _, _, _, _, _, _, _, _, _, _, .slice A n c, .int .i64 n, .bool true, .bool true, .pointer (some ⟨M.d, 0, none⟩), _, .slice A n c, .int .i64 n, _, _, _, _, _, _, _, _, _, _, _, _, _, _, _, _], []⟩ _)
    · intro u hu
      go_simp
    refine HT.take 9 (.pointer (some ⟨M.d, 0, none⟩)) rfl (by kernel_rfl) (fun _ _ _ h => h) (Or.inl ⟨by rfl, ?_⟩) (?_ : HT _ _ _ _ _ _ _ ⟨#[_, _, _, _, _, _, _, _, _, _, _, _, _, _, _, _, _, _, .slice A n c, .int .i64 n, .bool true, .bool true, .pointer (some ⟨M.d, 0, none⟩), _, .slice A n c, .int .i64 n, _, .pointer (some ⟨M.d, 0, none⟩), _, _, _, _, _, _, _, _, _, _, _, _, _, _], []⟩ _)
    · intro u hu
      go_simp
    refine HT.take 10 (.pointer (some ⟨M.d, 0, none⟩)) rfl (by kernel_rfl) (fun _ _ _ h => h) (Or.inl ⟨by rfl, ?_⟩) (?_ : HT _ _ _ _ _ _ _ ⟨#[_, _, _, _, _, _, _, _, _, _, _, _, _, _, _, _, _, _, .slice A n c, .int .i64 n, .bool true, .bool true, .pointer (some ⟨M.d, 0, none⟩), _, .slice A n c, .int .i64 n, _, .pointer (some ⟨M.d, 0, none⟩), .pointer (some ⟨M.d, 0, none⟩), _, _, _, _, _, _, _, _, _, _, _, _, _], []⟩ _)
    · intro u hu
      go_simp
    refine HT.take 11 (.pointer (some ⟨M.d, 4, none⟩)) rfl (by kernel_rfl) (fun _ _ _ h => h) (Or.inl ⟨by rfl, ?_⟩) (?_ : HT _ _ _ _ _ _ _ ⟨#[_, _, _, _, _, _, _, _, _, _, _, _, _, _, _, _, _, _, .slice A n c, .int .i64 n, .bool true, .bool true, .pointer (some ⟨M.d, 0, none⟩), _, .slice A n c, .int .i64 n, _, .pointer (some ⟨M.d, 0, none⟩), .pointer (some ⟨M.d, 0, none⟩), .pointer (some ⟨M.d, 4, none⟩), _, _, _, _, _, _, _, _, _, _, _, _], []⟩ _)
    · intro u hu
      go_simp
    refine HT.take 12 (.int .i64 T.room) rfl (by kernel_rfl) (fun _ _ _ h => h) (Or.inl ⟨by rfl, ?_⟩) (?_ : HT _ _ _ _ _ _ _ ⟨#[_, _, _, _, _, _, _, _, _, _, _, _, _, _, _, _, _, _, .slice A n c, .int .i64 n, .bool true, .bool true, .pointer (some ⟨M.d, 0, none⟩), _, .slice A n c, .int .i64 n, _, .pointer (some ⟨M.d, 0, none⟩), .pointer (some ⟨M.d, 0, none⟩), .pointer (some ⟨M.d, 4, none⟩), .int .i64 T.room, _, _, _, _, _, _, _, _, _, _, _], []⟩ _)
    · intro u hu
      obtain ⟨y0, y1, y2, y3, y4, y5, y6, y7⟩ := hu.1.cells
      go_simp
    refine HT.step 5 rfl (by kernel_rfl) (fun hS K hK => ?_)
    go_simp
    refine (used_any B M T _ hS.1 HSS.out HOK.out hu2).mono ?_
    rintro e w5 ⟨rfl, hb⟩
    refine hK.out _ _ ⟨hS.1.below hb, below_then hS.2.size hS.2 hb⟩ ?_
    clear hK hS hb
    refine HT.take 8 (.int .i64 ((T.used : Int) + n)) rfl (by kernel_rfl) (fun _ _ _ h => h) (Or.inl ⟨by rfl, ?_⟩) (?_ : HT _ _ _ _ _ _ _ ⟨#[_, _, _, _, _, _, _, _, _, _, _, _, _, _, _, _, _, _, .slice A n c, .int .i64 n, .bool true, .bool true, .pointer (some ⟨M.d, 0, none⟩), .int .i64 T.used, .slice A n c, .int .i64 n, .int .i64 ((T.used : Int) + n), .pointer (some ⟨M.d, 0, none⟩), .pointer (some ⟨M.d, 0, none⟩), .pointer (some ⟨M.d, 4, none⟩), .int .i64 T.room, _, _, _, _, _, _, _, _, _, _, _], []⟩ _)
    · intro u hu
      go_simp
    refine HT.take 13 (.bool true) rfl (by kernel_rfl) (fun _ _ _ h => h) (Or.inl ⟨by rfl, ?_⟩) (?_ : HT _ _ _ _ _ _ _ ⟨#[_, _, _, _, _, _, _, _, _, _, _, _, _, _, _, _, _, _, .slice A n c, .int .i64 n, .bool true, .bool true, .pointer (some ⟨M.d, 0, none⟩), .int .i64 T.used, .slice A n c, .int .i64 n, .int .i64 ((T.used : Int) + n), .pointer (some ⟨M.d, 0, none⟩), .pointer (some ⟨M.d, 0, none⟩), .pointer (some ⟨M.d, 4, none⟩), .int .i64 T.room, .bool true, _, _, _, _, _, _, _, _, _, _], []⟩ _)
    · intro u hu
      go_simp
    refine HT.tail _ rfl rfl (by kernel_rfl) (fun hS => ?_)
    have HD3 := Lib.hid hS.1
    have HBB := Lib.hid hS.2
    clear hS hS0
    go_wp2
    refine NoPanic.normal ?_
    go_wp2
    go_ret
    exact ⟨by rw [HG3.out]; rfl, M, by rw [HG3.out]; exact HD3.out, by rw [HG3.out]; exact HS2.out.trans (Stepped.below HBB.out)⟩
  · rw [if_neg (by rw [hl]; exact fun h => hfull h.2)] at HG3
    have hfi : ¬ ((T.used : Int) + n > T.room) := by omega
    go_upto_region 4 with fail
    refine wp_region_noPanic ?_
    refine HT.begin (n := 14) (S := (fun u => DkAt B M T u ∧ Below w2.heap.size w2 u)) (by kernel_rfl) hS0 ?_
    generalize w2.drew = wd at *
    refine HT.take 0 (.slice A n c) rfl (by kernel_rfl) (fun _ _ _ h => h) (Or.inl ⟨by rfl, ?_⟩) (?_ : HT _ _ _ _ _ _ _ ⟨#[_, _, _, _, _, _, _, _, _, _, _, _, _, _, _, _, _, _, .slice A n c, _, _, _, _, _, _, _, _, _, _, _, _, _, _, _, _, _, _, _, _, _, _, _], []⟩ _)
    · intro u hu
      go_simp
    refine HT.take 1 (.int .i64 n) rfl (by kernel_rfl) (fun _ _ _ h => h) (Or.inl ⟨by rfl, ?_⟩) (?_ : HT _ _ _ _ _ _ _ ⟨#[_, _, _, _, _, _, _, _, _, _, _, _, _, _, _, _, _, _, .slice A n c, .int .i64 n, _, _, _, _, _, _, _, _, _, _, _, _, _, _, _, _, _, _, _, _, _, _], []⟩ _)
    · intro u hu
      go_simp
    refine HT.take 2 (.bool true) rfl (by kernel_rfl) (fun _ _ _ h => h) (Or.inl ⟨by rfl, ?_⟩) (?_ : HT _ _ _ _ _ _ _ ⟨#[_, _, _, _, _, _, _, _, _, _, _, _, _, _, _, _, _, _, .slice A n c, .int .i64 n, .bool true, _, _, _, _, _, _, _, _, _, _, _, _, _, _, _, _, _, _, _, _, _], []⟩ _)
    · intro u hu
      go_simp
    refine HT.take 3 (.bool true) rfl (by kernel_rfl) (fun _ _ _ h => h) (Or.inl ⟨by rfl, ?_⟩) (?_ : HT _ _ _ _ _ _ _ ⟨#[_, _, _, _, _, _, _, _, _, _, _, _, _, _, _, _, _, _, .slice A n c, .int .i64 n, .bool true, .bool true, _, _, _, _, _, _, _, _, _, _, _, _, _, _, _, _, _, _, _, _], []⟩ _)
    · intro u hu
      go_simp
    refine HT.take 4 (.pointer (some ⟨M.d, 0, none⟩)) rfl (by kernel_rfl) (fun _ _ _ h => h) (Or.inl ⟨by rfl, ?_⟩) (?_ : HT _ _ _ _ _ _ _ ⟨#[_, _, _, _, _, _, _, _, _, _, _, _, _, _, _, _, _, _, .slice A n c, .int .i64 n, .bool true, .bool true, .pointer (some ⟨M.d, 0, none⟩), _, _, _, _, _, _, _, _, _, _, _, _, _, _, _, _, _, _, _], []⟩ _)
    · intro u hu
      go_simp
    refine HT.take 6 (.slice A n c) rfl (by kernel_rfl) (fun _ _ _ h => h) (Or.inl ⟨by rfl, ?_⟩) (?_ : HT _ _ _ _ _ _ _ ⟨#[_, _, _, _, _, _, _, _, _, _, _, _, _, _, _, _, _, _, .slice A n c, .int .i64 n, .bool true, .bool true, .pointer (some ⟨M.d, 0, none⟩), _, .slice A n c, _, _, _, _, _, _, _, _, _, _, _, _, _, _, _, _, _], []⟩ _)
    · intro u hu
      go_simp
    refine HT.take 7 (.int .i64 n) rfl (by kernel_rfl) (fun _ _ _ h => h) (Or.inl ⟨by rfl, ?_⟩) (?_ : HT _ _ _ _ _ _ _ ⟨#[_, _, _, _, _, _, _, _, _, _, _, _, _, _, _, _, _, _, .slice A n c, .int .i64 n, .bool true, .bool true, .pointer (some ⟨M.d, 0, none⟩), _, .slice A n c, .int .i64 n, _, _, _, _, _, _, _, _, _, _, _, _, _, _, _, _], []⟩ _)
    · intro u hu
      go_simp
    refine HT.take 9 (.pointer (some ⟨M.d, 0, none⟩)) rfl (by kernel_rfl) (fun _ _ _ h => h) (Or.inl ⟨by rfl, ?_⟩) (?_ : HT _ _ _ _ _ _ _ ⟨#[_, _, _, _, _, _, _, _, _, _, _, _, _, _, _, _, _, _, .slice A n c, .int .i64 n, .bool true, .bool true, .pointer (some ⟨M.d, 0, none⟩), _, .slice A n c, .int .i64 n, _, .pointer (some ⟨M.d, 0, none⟩), _, _, _, _, _, _, _, _, _, _, _, _, _, _], []⟩ _)
    · intro u hu
      go_simp
    refine HT.take 10 (.pointer (some ⟨M.d, 0, none⟩)) rfl (by kernel_rfl) (fun _ _ _ h => h) (Or.inl ⟨by rfl, ?_⟩) (?_ : HT _ _ _ _ _ _ _ ⟨#[_, _, _, _, _, _, _, _, _, _, _, _, _, _, _, _, _, _, .slice A n c, .int .i64 n, .bool true, .bool true, .pointer (some ⟨M.d, 0, none⟩), _, .slice A n c, .int .i64 n, _, .pointer (some ⟨M.d, 0, none⟩), .pointer (some ⟨M.d, 0, none⟩), _, _, _, _, _, _, _, _, _, _, _, _, _], []⟩ _)
    · intro u hu
      go_simp
    refine HT.take 11 (.pointer (some ⟨M.d, 4, none⟩)) rfl (by kernel_rfl) (fun _ _ _ h => h) (Or.inl ⟨by rfl, ?_⟩) (?_ : HT _ _ _ _ _ _ _ ⟨#[_, _, _, _, _, _, _, _, _, _, _, _, _, _, _, _, _, _, .slice A n c, .int .i64 n, .bool true, .bool true, .pointer (some ⟨M.d, 0, none⟩), _, .slice A n c, .int .i64 n, _, .pointer (some ⟨M.d, 0, none⟩), .pointer (some ⟨M.d, 0, none⟩), .pointer (some ⟨M.d, 4, none⟩), _, _, _, _, _, _, _, _, _, _, _, _], []⟩ _)
    · intro u hu
      go_simp
    refine HT.take 12 (.int .i64 T.room) rfl (by kernel_rfl) (fun _ _ _ h => h) (Or.inl ⟨by rfl, ?_⟩) (?_ : HT _ _ _ _ _ _ _ ⟨#[_, _, _, _, _, _, _, _, _, _, _, _, _, _, _, _, _, _, .slice A n c, .int .i64 n, .bool true, .bool true, .pointer (some ⟨M.d, 0, none⟩), _, .slice A n c, .int .i64 n, _, .pointer (some ⟨M.d, 0, none⟩), .pointer (some ⟨M.d, 0, none⟩), .pointer (some ⟨M.d, 4, none⟩), .int .i64 T.room, _, _, _, _, _, _, _, _, _, _, _], []⟩ _)
    · intro u hu
      obtain ⟨y0, y1, y2, y3, y4, y5, y6, y7⟩ := hu.1.cells
      go_simp
    refine HT.step 5 rfl (by kernel_rfl) (fun hS K hK => ?_)
    go_simp
    refine (used_any B M T _ hS.1 HSS.out HOK.out hu2).mono ?_
    rintro e w5 ⟨rfl, hb⟩
    refine hK.out _ _ ⟨hS.1.below hb, below_then hS.2.size hS.2 hb⟩ ?_
    clear hK hS hb
    refine HT.take 8 (.int .i64 ((T.used : Int) + n)) rfl (by kernel_rfl) (fun _ _ _ h => h) (Or.inl ⟨by rfl, ?_⟩) (?_ : HT _ _ _ _ _ _ _ ⟨#[_, _, _, _, _, _, _, _, _, _, _, _, _, _, _, _, _, _, .slice A n c, .int .i64 n, .bool true, .bool true, .pointer (some ⟨M.d, 0, none⟩), .int .i64 T.used, .slice A n c, .int .i64 n, .int .i64 ((T.used : Int) + n), .pointer (some ⟨M.d, 0, none⟩), .pointer (some ⟨M.d, 0, none⟩), .pointer (some ⟨M.d, 4, none⟩), .int .i64 T.room, _, _, _, _, _, _, _, _, _, _, _], []⟩ _)
    · intro u hu
      go_simp
    refine HT.take 13 (.bool false) rfl (by kernel_rfl) (fun _ _ _ h => h) (Or.inl ⟨by rfl, ?_⟩) (?_ : HT _ _ _ _ _ _ _ ⟨#[_, _, _, _, _, _, _, _, _, _, _, _, _, _, _, _, _, _, .slice A n c, .int .i64 n, .bool true, .bool true, .pointer (some ⟨M.d, 0, none⟩), .int .i64 T.used, .slice A n c, .int .i64 n, .int .i64 ((T.used : Int) + n), .pointer (some ⟨M.d, 0, none⟩), .pointer (some ⟨M.d, 0, none⟩), .pointer (some ⟨M.d, 4, none⟩), .int .i64 T.room, .bool false, _, _, _, _, _, _, _, _, _, _], []⟩ _)
    · intro u hu
      go_simp
    refine HT.tail _ rfl rfl (by kernel_rfl) (fun hS => ?_)
    have HD3 := Lib.hid hS.1
    have HBB := Lib.hid hS.2
    clear hS hS0
    go_wp2
    refine NoPanic.normal ?_
    have HS3 := Lib.hid (HS2.out.trans (Stepped.below HBB.out))
    have HX3 := Lib.hid (HX2.out.below HBB.out)
    clear HD2 HS2 HX2
    obtain ⟨w3, rfl⟩ : ∃ w3 : World, w3 = w5 := ⟨_, rfl⟩
    subst hl
    have z1 : w3.cell? ⟨M.fa no, 1, none⟩ = some (.slice (M.da no) (T.size no) (M.dc no)) := (HD3.out.files no hno2).blk.cell 1 rfl
    have hB3 : B ≤ w3.heap.size := HD3.out.base
    go_wp2_with (at_builtin; refine appB _ rfl _ _ rfl B (M.da no) (T.size no) (M.dc no) (T.data.getD no []) rfl (HD3.out.files no hno2).row _ l.length _ l rfl HX3.out (by omega) hB3 ?_; intro A1 c1 w4 hr4 ha4; have hF4 := (HD3.out.files no hno2).blk.keptG ha4.grown (fun e => ((HD3.out.files no hno2).row.tag e).ne (HD3.out.files no hno2).blk.tag (by decide) rfl); have f4 := hF4.free 1; have g4 : w4.cell? ⟨M.fa no, 1, none⟩ = some (.slice (M.da no) (T.size no) (M.dc no)) := hF4.cell 1 rfl)
    go_ret
    exact ⟨by rw [HG3.out]; rfl, _, by rw [HG3.out]; exact HD3.out.wrote hno2 ha4 hr4, by rw [HG3.out]; exact HS3.out.trans (Stepped.wrote hno2 ha4)⟩
end Go.Proofs.YtkempjcphpnocaaGreatDoor
