/- The walks of fields.Print and of the document's. Condition: a list of bulk at most 2^30. -/
import Derived.Test.YtcdbppoohlabnaaGreatDoorTokC
import Derived.Test.YtcdbppoohlabnaaGreatDoorRowA
import Derived.Test.YtcdbppoohlabnaaGreatDoorRegionA
import Derived.Test.YtcdbppoohlabnaaGreatDoorStripA
namespace Go.Proofs.YtcdbppoohlabnaaGreatDoor
open Go.RowKit

/-- Bytes and an error's number, answered. -/
def RetBE (w : World) (bs : List UInt8) (code : Int) (e : Ending) (w' : World) : Prop :=
  ∃ A c, e = .returned (.tuple #[.slice A bs.length c, .int .i64 code]) ∧ CRow w' w.heap.size A bs.length c bs ∧ Below w.heap.size w w'
theorem RetBE.none_ {w w' : World} {code : Int} {bs : List UInt8} {c : Int} (hb : Below w.heap.size w w') (h1 : bs = []) (h2 : c = code) : RetBE w bs c (.returned (.tuple #[.slice none 0 0, .int .i64 code])) w' := by
  subst h1
  subst h2
  exact ⟨none, 0, rfl, CRow.none_ _ _, hb⟩
theorem buffer_below {B b : Nat} {bs : List Value} {w w' : World} (h : Lib.IsBuffer 215 5 B b bs w) (hb : Below w.heap.size w w') : Lib.IsBuffer 215 5 B b bs w' := by
  have hlt := h.lt
  obtain ⟨hB, v, lr, hk, ho, hne⟩ := h
  refine ⟨hB, v, lr, (hb.block b hlt).trans hk, ho.kept (row := none) ⟨hb.os, hb.tape, hb.output, hb.size, fun k hk _ => hb.block k hk⟩ ?_, hne⟩
  cases v.ownBlock <;> simp
theorem row_of_own {w : World} {B n : Nat} {v : Value} {bs : List Value} (h : w.ownsRow B 5 1 v n bs) : ∃ A c, v = .slice A n c ∧ Row w B 5 1 A n c bs := by
  obtain ⟨h1, h2⟩ := h
  rcases h2 with ⟨hv, h0⟩ | ⟨g, cap, cur, hv, r⟩
  · subst h0
    exact ⟨none, 0, hv, .inl ⟨h1, .inl ⟨hv ▸ hv, rfl⟩⟩⟩
  · subst hv
    exact ⟨_, _, rfl, .inl ⟨h1, .inr ⟨g, cap, cur, rfl, r⟩⟩⟩
/-- The head of the list that is well. -/
def Well (fs : List FD) (k : Nat) : Prop := (fs.take k).all F.okF = true
theorem Well.step {fs : List FD} {k : Nat} (h : Well fs k) (hk : k < fs.length) (h1 : T.token (L (fs[k]).1) = true) (h2 : F.good (fs[k]).2 = true) : Well fs (k + 1) := by
  unfold Well at *
  rw [F.all_take_succ _ _ _ hk, h]
  unfold F.okF
  rw [h1, h2]
  rfl
theorem ok_no1 {fs : List FD} {k : Nat} (hk : k < fs.length) (h1 : T.token (L (fs[k]).1) = false) : fs.all F.okF = false := F.all_false_at _ _ k hk (by unfold F.okF; rw [h1]; rfl)
theorem ok_no2 {fs : List FD} {k : Nat} (hk : k < fs.length) (h1 : F.good (fs[k]).2 = false) : fs.all F.okF = false := F.all_false_at _ _ k hk (by unfold F.okF; rw [h1, Bool.and_false])
theorem bad_print {fs : List FD} (h : fs.all F.okF = false) : F.printB fs = [] ∧ F.printE fs = 40 := ⟨F.printB_bad (by rw [F.printE_bad h]; decide), F.printE_bad h⟩
theorem many_print {fs : List FD} (h : fs.all F.okF = true) (h2 : 100 < fs.length) : F.printB fs = [] ∧ F.printE fs = 42 := ⟨F.printB_bad (by rw [F.printE_many h h2]; decide), F.printE_many h h2⟩
theorem good_print {fs : List FD} (h : fs.all F.okF = true) (h2 : ¬ 100 < fs.length) : F.printB fs = F.lines fs ∧ F.printE fs = 0 := ⟨F.printB_ok (F.printE_ok h h2), F.printE_ok h h2⟩
theorem line_eq (f : FD) : L (f.1 ++ ⟨#[58, 32]⟩ ++ f.2 ++ ⟨#[13, 10]⟩) = F.line f := by
  simp only [L_append]
  rfl
theorem line_size (f : FD) : (f.1 ++ ⟨#[58, 32]⟩ ++ f.2 ++ ⟨#[13, 10]⟩).size = f.1.size + f.2.size + 4 := by
  rw [L_size, line_eq, F.line_len]

set_option maxRecDepth 100000 in
set_option maxHeartbeats 1000000 in
theorem print_any (A : Option Addr) (c : Nat) (fs : List FD) (w : World) (hf : F.bulk fs ≤ 1073741824) (hx : Rd w A fs.length 2 (fcells fs)) :
    Calls Tryz.prog 149 #[.slice A fs.length c] w (RetBE w (F.printB fs) (F.printE fs)) := by
  have hn : fs.length ≤ 1073741824 := by have := F.len_le_bulk fs; omega
  have HSM := Lib.hid (small_of_bulk hf)
  have hln := F.lines_len fs
  have hlt2 : (F.lines fs).length ≤ 4294967296 := by omega
  clear hln
  generalize hB : F.printB fs = PB at *
  generalize hE : F.printE fs = PE at *
  have HBAD := Lib.hid (fun (h : fs.all F.okF = false) => bad_print h)
  have HMANY := Lib.hid (fun (h : fs.all F.okF = true) (h2 : 100 < fs.length) => many_print h h2)
  have HGOOD := Lib.hid (fun (h : fs.all F.okF = true) (h2 : ¬ 100 < fs.length) => good_print h h2)
  rw [hB, hE] at HBAD HMANY HGOOD
  clear hB hE
  have HMB := Lib.hid (fun f (h : f ∈ fs) => F.mem_bulk h)
  go_enter Tryz.func149, Tryz.ntmps149
  go_wp2
  have HBUF0 := Lib.hid (Lib.fresh_isBuffer 215 5 w)
  have HB0 := Lib.hid ((Below.refl w.heap.size w).alloc (Nat.le_refl _) (.cells #[.slice none 0 0, .int .i64 0, .int .i8 0] 215))
  generalize w.alloc (.cells #[.slice none 0 0, .int .i64 0, .int .i8 0] 215) = w0 at *
  go_loopw [9] (fun i wr => ∃ k : Nat, k ≤ fs.length ∧ i = .int .i64 k ∧ Well fs k ∧ Lib.IsBuffer 215 5 w.heap.size w.heap.size (Lib.byteCells (F.lines (fs.take k))) wr ∧ Below w.heap.size w wr) (fun i _ => fs.length - (intOf i).toNat)
  case atStart => exact ⟨0, Nat.zero_le _, rfl, rfl, HBUF0.out, HB0.out⟩
  case round =>
    clear HBUF0 HB0
    obtain ⟨k, hk, rfl, hw, hbuf, hbel⟩ := hrel
    have HW := Lib.hid hw
    have HBUF := Lib.hid hbuf
    have HBEL := Lib.hid hbel
    clear hw hbuf hbel
    by_cases hlt : k < fs.length
    · obtain ⟨b, o, rfl, hb, d1, d2⟩ := (hx.below HBEL.out).field hlt rfl
      have hsn := F.lines_snoc fs k hlt
      have hst := fun h1 h2 => HW.out.step hlt h1 h2
      have hn1 := fun h => ok_no1 hlt h
      have hn2 := fun h => ok_no2 hlt h
      have hfm := HMB.out _ (List.getElem_mem hlt)
      have hfs := HSM.out _ (List.getElem_mem hlt)
      have htk := F.lines_take fs k
      generalize hfk : fs[k] = f at *
      have HSN := Lib.hid hsn
      have HST := Lib.hid hst
      have HN1 := Lib.hid hn1
      have HN2 := Lib.hid hn2
      have ha1 := hfs.1
      have ha2 := hfs.2
      have HTOK := Lib.hid (fun u => token_any f.1 u ha1)
      have HGD := Lib.hid (fun u => good_any f.2 u ha2)
      have hz := HBEL.out.size
      have hls : (F.lines (fs.take k)).length ≤ 4294967296 := by omega
      have hls2 : f.1.size + f.2.size + 1 ≤ 1073741824 := by omega
      clear hsn hst hn1 hn2 hfs hfk hfm htk
      rcases tf (T.token (L f.1)) with h1 | h1
      · rw [h1] at HTOK
        rcases tf (F.good f.2) with h2 | h2
        · rw [h2] at HGD
          have HST2 := Lib.hid (HST.out h1 h2)
          clear h1 h2 HST HN1 HN2
          go_wp2_with fail
          refine (HTOK.out _).mono ?_
          rintro e w' ⟨rfl, rfl⟩
          go_wp2_with fail
          refine (HGD.out _).mono ?_
          rintro e w2 ⟨rfl, hb2⟩
          have hk2 := (Blk.new wr #[.string f.1, .string f.2] 94).below hb2
          obtain ⟨x0, x1⟩ := hk2.cells2
          have HBUF2 := Lib.hid (buffer_below (buffer_below HBUF.out ((Below.refl _ _).alloc (Nat.le_refl _) (.cells #[.string f.1, .string f.2] 94))) hb2)
          have HBEL2 := Lib.hid (below_new HBEL.out hz hb2)
          have hz2 := HBEL2.out.size
          clear hk2 hb2 HBUF HBEL HTOK HGD d1 d2
          have hs1 : f.1.size + 2 ≤ 9223372036854775807 := by omega
          have hs2 : f.1.size + 2 + f.2.size ≤ 9223372036854775807 := by omega
          have hs3 : f.1.size + 2 + f.2.size + 2 ≤ 9223372036854775807 := by omega
          go_wp2_with fail
          refine (Tryz.Buffer_WriteString_k w.heap.size w.heap.size _ _ w2 HBUF2.out hz2 (Lib.byteCells_one _) (by rw [Lib.byteCells_length, line_size]; omega)).mono ?_
          rintro e w3 ⟨rfl, hbuf3, hb3, _⟩
          have HBUF3 : Hid (Lib.IsBuffer 215 5 w.heap.size w.heap.size (Lib.byteCells (F.lines (fs.take (k + 1)))) w3) := by
            have := hbuf3
            rw [show (f.1 ++ ⟨#[58, 32]⟩ ++ f.2 ++ ⟨#[13, 10]⟩ : ByteArray).data.toList = F.line f from line_eq f, ← Lib.byteCells_append, ← HSN.out] at this
            exact Lib.hid this
          have HBEL3 := Lib.hid (HBEL2.out.trans hb3)
          clear hbuf3 hb3 HBUF2 HBEL2 x0 x1
          go_wp2
          go_roundw
          case rel => exact ⟨k + 1, by omega, by go_num, HST2.out, HBUF3.out, HBEL3.out⟩
          case measure => simp [intOf]; omega
        · rw [h2] at HGD
          have HBD := Lib.hid (HBAD.out (HN2.out h2))
          clear h1 h2 HST HN1 HN2
          go_wp2_with fail
          refine (HTOK.out _).mono ?_
          rintro e w' ⟨rfl, rfl⟩
          go_wp2_with fail
          refine (HGD.out _).mono ?_
          rintro e w2 ⟨rfl, hb2⟩
          have HBEL2 := Lib.hid (below_new HBEL.out hz hb2)
          clear hb2 HBUF HBEL HTOK HGD d1 d2
          go_wp2
          refine bodyPost_ret (v := .tuple #[.slice none 0 0, .int .i64 40]) (by simp [results, Tryz.results149, go_sem]) rfl ?_
          exact RetBE.none_ HBEL2.out HBD.out.1 HBD.out.2
      · rw [h1] at HTOK
        have HBD := Lib.hid (HBAD.out (HN1.out h1))
        have HBEL2 := Lib.hid (HBEL.out.alloc hz (.cells #[.string f.1, .string f.2] 94))
        clear h1 HST HN1 HN2
        go_wp2_with fail
        refine (HTOK.out _).mono ?_
        rintro e w' ⟨rfl, rfl⟩
        clear HBUF HBEL HTOK HGD d1 d2
        go_wp2
        refine bodyPost_ret (v := .tuple #[.slice none 0 0, .int .i64 40]) (by simp [results, Tryz.results149, go_sem]) rfl ?_
        exact RetBE.none_ HBEL2.out HBD.out.1 HBD.out.2
    · have hkn : k = fs.length := by omega
      subst hkn
      have hall : fs.all F.okF = true := by have := HW.out; unfold Well at this; rwa [List.take_length] at this
      have hbuf := HBUF.out
      rw [List.take_length] at hbuf
      have HBF := Lib.hid hbuf
      clear hbuf HBUF HW hlt hk
      by_cases hm : 100 < fs.length
      · have HBD := Lib.hid (HMANY.out hall hm)
        clear hall
        go_wp2
        refine bodyPost_ret (v := .tuple #[.slice none 0 0, .int .i64 42]) (by simp [results, Tryz.results149, go_sem]) rfl ?_
        exact RetBE.none_ HBEL.out HBD.out.1 HBD.out.2
      · have HBD := Lib.hid (HGOOD.out hall hm)
        clear hall
        go_wp2_with fail
        refine (Tryz.Buffer_Bytes w.heap.size w.heap.size _ wr HBF.out).mono ?_
        rintro e w3 ⟨v, rfl, hown, q, rfl⟩
        obtain ⟨R, d, rfl, hrow⟩ := row_of_own hown
        have HR := Lib.hid hrow
        clear hown hrow
        go_wp2
        refine bodyPost_ret (v := .tuple #[.slice R (Lib.byteCells (F.lines fs)).length d, .int .i64 0]) (by simp [results, Tryz.results149, go_sem]) rfl ?_
        rw [HBD.out.1, HBD.out.2]
        have hl : (Lib.byteCells (F.lines fs)).length = (F.lines fs).length := Lib.byteCells_length _
        have hr := HR.out
        rw [hl] at hr ⊢
        exact ⟨R, d, rfl, Row.crow hr, below_drewN HBEL.out q⟩

set_option maxRecDepth 100000 in
set_option maxHeartbeats 2000000 in
theorem refPrint_any (A : Option Addr) (c : Nat) (fs : List FD) (w : World) (hf : F.bulk fs ≤ 1073741824) (hx : Rd w A fs.length 2 (fcells fs)) :
    Calls Tryz.prog 150 #[.slice A fs.length c] w (RetBE w (F.printB fs) (F.printE fs)) := by
  have hn : fs.length ≤ 1073741824 := by have := F.len_le_bulk fs; omega
  have HSM := Lib.hid (small_of_bulk hf)
  have hln := F.lines_len fs
  have hlt2 : (F.lines fs).length ≤ 4294967296 := by omega
  clear hln
  generalize hB : F.printB fs = PB at *
  generalize hE : F.printE fs = PE at *
  have HBAD := Lib.hid (fun (h : fs.all F.okF = false) => bad_print h)
  have HMANY := Lib.hid (fun (h : fs.all F.okF = true) (h2 : 100 < fs.length) => many_print h h2)
  have HGOOD := Lib.hid (fun (h : fs.all F.okF = true) (h2 : ¬ 100 < fs.length) => good_print h h2)
  rw [hB, hE] at HBAD HMANY HGOOD
  clear hB hE
  have HMB := Lib.hid (fun f (h : f ∈ fs) => F.mem_bulk h)
  go_enter Tryz.func150, Tryz.ntmps150
  go_wp2
  go_loopw [4] (fun i wr => ∃ k : Nat, k ≤ fs.length ∧ i = .int .i64 k ∧ Well fs k ∧ Below w.heap.size w wr) (fun i _ => fs.length - (intOf i).toNat)
  case atStart => exact ⟨0, Nat.zero_le _, rfl, rfl, Below.refl _ _⟩
  case round =>
    obtain ⟨k, hk, rfl, hw, hbel⟩ := hrel
    have HW := Lib.hid hw
    have HBEL := Lib.hid hbel
    clear hw hbel
    by_cases hlt : k < fs.length
    · obtain ⟨b, o, rfl, hb, d1, d2⟩ := (hx.below HBEL.out).field hlt rfl
      have hst := fun h1 h2 => HW.out.step hlt h1 h2
      have hn1 := fun h => ok_no1 hlt h
      have hn2 := fun h => ok_no2 hlt h
      have hfs := HSM.out _ (List.getElem_mem hlt)
      generalize hfk : fs[k] = f at *
      have HST := Lib.hid hst
      have HN1 := Lib.hid hn1
      have HN2 := Lib.hid hn2
      have ha1 := hfs.1
      have ha2 := hfs.2
      have HTOK := Lib.hid (fun u => refToken_any f.1 u ha1)
      have HGD := Lib.hid (fun u => refValue_any f.2 u ha2)
      clear hst hn1 hn2 hfs hfk
      rcases tf (T.token (L f.1)) with h1 | h1
      · rw [h1] at HTOK
        rcases tf (F.good f.2) with h2 | h2
        · rw [h2] at HGD
          have HST2 := Lib.hid (HST.out h1 h2)
          clear h1 h2 HST HN1 HN2
          go_wp2_with fail
          refine (HTOK.out _).mono ?_
          rintro e w' ⟨rfl, rfl⟩
          go_wp2_with fail
          refine (HGD.out _).mono ?_
          rintro e w2 ⟨rfl, hb2⟩
          have HBEL2 := Lib.hid (below_then HBEL.out.size HBEL.out hb2)
          clear hb2 HBEL HTOK HGD d1 d2
          go_wp2
          go_roundw
          case rel => exact ⟨k + 1, by omega, by go_num, HST2.out, HBEL2.out⟩
          case measure => simp [intOf]; omega
        · rw [h2] at HGD
          have HBD := Lib.hid (HBAD.out (HN2.out h2))
          clear h1 h2 HST HN1 HN2
          go_wp2_with fail
          refine (HTOK.out _).mono ?_
          rintro e w' ⟨rfl, rfl⟩
          go_wp2_with fail
          refine (HGD.out _).mono ?_
          rintro e w2 ⟨rfl, hb2⟩
          have HBEL2 := Lib.hid (below_then HBEL.out.size HBEL.out hb2)
          clear hb2 HBEL HTOK HGD d1 d2
          go_wp2
          refine bodyPost_ret (v := .tuple #[.slice none 0 0, .int .i64 40]) (by simp [results, Tryz.results150, go_sem]) rfl ?_
          exact RetBE.none_ HBEL2.out HBD.out.1 HBD.out.2
      · rw [h1] at HTOK
        have HBD := Lib.hid (HBAD.out (HN1.out h1))
        clear h1 HST HN1 HN2
        go_wp2_with fail
        refine (HTOK.out _).mono ?_
        rintro e w' ⟨rfl, rfl⟩
        clear HTOK HGD d1 d2
        go_wp2
        refine bodyPost_ret (v := .tuple #[.slice none 0 0, .int .i64 40]) (by simp [results, Tryz.results150, go_sem]) rfl ?_
        exact RetBE.none_ HBEL.out HBD.out.1 HBD.out.2
    · have hkn : k = fs.length := by omega
      subst hkn
      have hall : fs.all F.okF = true := by have := HW.out; unfold Well at this; rwa [List.take_length] at this
      clear HW hlt hk
      by_cases hm : 100 < fs.length
      · have HBD := Lib.hid (HMANY.out hall hm)
        clear hall
        go_wp2
        refine bodyPost_ret (v := .tuple #[.slice none 0 0, .int .i64 42]) (by simp [results, Tryz.results150, go_sem]) rfl ?_
        exact RetBE.none_ HBEL.out HBD.out.1 HBD.out.2
      · have HBD := Lib.hid (HGOOD.out hall hm)
        have hz0 := HBEL.out.size
        have HB0 := Lib.hid (HBEL.out.alloc hz0 (.cells #[] 5))
        clear hall HBEL
        obtain ⟨wo, hwo⟩ : ∃ wo : World, wo = wr := ⟨_, rfl⟩
        subst hwo
        go_wp2
        go_loopw [5, 6] (fun ov i wr => ∃ (k m : Nat) (O : Option Addr) (c1 : Nat), k ≤ fs.length ∧ i = .int .i64 k ∧ ov = .slice O m c1 ∧ m = (F.lines (fs.take k)).length ∧ CRow wr w.heap.size O m c1 (F.lines (fs.take k)) ∧ Below w.heap.size w wr) (fun _ i _ => fs.length - (intOf i).toNat)
        case atStart => exact ⟨0, 0, _, 0, Nat.zero_le _, rfl, rfl, rfl, ⟨rfl, Nat.le_refl _, .inl rfl⟩, HB0.out⟩
        case round =>
          clear HB0
          obtain ⟨k, m, O, c1, hk, rfl, rfl, hm0, hrow, hbel⟩ := hrel
          have HM := Lib.hid hm0
          have hml : m ≤ 4294967296 := by have := F.lines_take fs k; omega
          have HROW := Lib.hid hrow
          have HBEL := Lib.hid hbel
          clear hm0 hrow hbel
          by_cases hlt : k < fs.length
          · obtain ⟨b, o, rfl, hb, d1, d2⟩ := (hx.below HBEL.out).field hlt rfl
            have hsn := F.lines_snoc fs k hlt
            have hfm := HMB.out _ (List.getElem_mem hlt)
            generalize hfk : fs[k] = f at *
            have HSN := Lib.hid hsn
            have hls2 : f.1.size + f.2.size + 1 ≤ 1073741824 := by omega
            have hs1 : f.1.size + 2 ≤ 9223372036854775807 := by omega
            have hs2 : f.1.size + 2 + f.2.size ≤ 9223372036854775807 := by omega
            have hs3 : f.1.size + 2 + f.2.size + 2 ≤ 9223372036854775807 := by omega
            clear hsn hfk hfm
            go_wp2
            have hS0 : (wr.drew.cell? ⟨b, o + k * 2, none⟩ = some (.string f.1) ∧ wr.drew.cell? ⟨b, o + k * 2 + 1, none⟩ = some (.string f.2) ∧ CRow wr.drew w.heap.size O m c1 (F.lines (fs.take k)) ∧ Below w.heap.size w wr.drew ∧ b < wr.drew.heap.size) := ⟨d1, d2, HROW.out, HBEL.out.drew, hb⟩
            clear d1 d2 HROW HBEL hb
            refine wp_region_noPanic ?_
            refine HT.begin (n := 15) (S := (fun u => u.cell? ⟨b, o + k * 2, none⟩ = some (.string f.1) ∧ u.cell? ⟨b, o + k * 2 + 1, none⟩ = some (.string f.2) ∧ CRow u w.heap.size O m c1 (F.lines (fs.take k)) ∧ Below w.heap.size w u ∧ b < u.heap.size)) (by kernel_rfl) hS0 ?_
            refine HT.take 0 (.slice O m c1) rfl (by kernel_rfl) (fun _ _ _ h => h) (Or.inl ⟨by rfl, ?_⟩) (?_ : HT _ _ _ _ _ _ _ ⟨#[_, _, _, _, _, _, _, _, _, _, _, _, _, _, _, _, _, _, _, _, _, _, _, _, _, _, _, _, _, _, _, _, _, _, _, _, _, _, _, .slice O m c1, _, _, _, _, _, _, _, _, _, _, _, _, _, _, _, _], []⟩ _)
            · intro u hu
              go_simp
            refine HT.take 1 (.slice (some ⟨b, o, none⟩) fs.length c) rfl (by kernel_rfl) (fun _ _ _ h => h) (Or.inl ⟨by rfl, ?_⟩) (?_ : HT _ _ _ _ _ _ _ ⟨#[_, _, _, _, _, _, _, _, _, _, _, _, _, _, _, _, _, _, _, _, _, _, _, _, _, _, _, _, _, _, _, _, _, _, _, _, _, _, _, .slice O m c1, .slice (some ⟨b, o, none⟩) fs.length c, _, _, _, _, _, _, _, _, _, _, _, _, _, _, _], []⟩ _)
            · intro u hu
              go_simp
            refine HT.take 2 (.int .i64 k) rfl (by kernel_rfl) (fun _ _ _ h => h) (Or.inl ⟨by rfl, ?_⟩) (?_ : HT _ _ _ _ _ _ _ ⟨#[_, _, _, _, _, _, _, _, _, _, _, _, _, _, _, _, _, _, _, _, _, _, _, _, _, _, _, _, _, _, _, _, _, _, _, _, _, _, _, .slice O m c1, .slice (some ⟨b, o, none⟩) fs.length c, .int .i64 k, _, _, _, _, _, _, _, _, _, _, _, _, _, _], []⟩ _)
            · intro u hu
              go_simp
            refine HT.take 3 (.pointer (some ⟨b, o + k * 2, none⟩)) rfl (by kernel_rfl) (fun _ _ _ h => h) (Or.inl ⟨by rfl, ?_⟩) (?_ : HT _ _ _ _ _ _ _ ⟨#[_, _, _, _, _, _, _, _, _, _, _, _, _, _, _, _, _, _, _, _, _, _, _, _, _, _, _, _, _, _, _, _, _, _, _, _, _, _, _, .slice O m c1, .slice (some ⟨b, o, none⟩) fs.length c, .int .i64 k, .pointer (some ⟨b, o + k * 2, none⟩), _, _, _, _, _, _, _, _, _, _, _, _, _], []⟩ _)
            · intro u hu
              go_simp
            refine HT.take 4 (.pointer (some ⟨b, o + k * 2, none⟩)) rfl (by kernel_rfl) (fun _ _ _ h => h) (Or.inl ⟨by rfl, ?_⟩) (?_ : HT _ _ _ _ _ _ _ ⟨#[_, _, _, _, _, _, _, _, _, _, _, _, _, _, _, _, _, _, _, _, _, _, _, _, _, _, _, _, _, _, _, _, _, _, _, _, _, _, _, .slice O m c1, .slice (some ⟨b, o, none⟩) fs.length c, .int .i64 k, .pointer (some ⟨b, o + k * 2, none⟩), .pointer (some ⟨b, o + k * 2, none⟩), _, _, _, _, _, _, _, _, _, _, _, _], []⟩ _)
            · intro u hu
              go_simp
            refine HT.take 5 (.string f.1) rfl (by kernel_rfl) (fun _ _ _ h => h) (Or.inl ⟨by rfl, ?_⟩) (?_ : HT _ _ _ _ _ _ _ ⟨#[_, _, _, _, _, _, _, _, _, _, _, _, _, _, _, _, _, _, _, _, _, _, _, _, _, _, _, _, _, _, _, _, _, _, _, _, _, _, _, .slice O m c1, .slice (some ⟨b, o, none⟩) fs.length c, .int .i64 k, .pointer (some ⟨b, o + k * 2, none⟩), .pointer (some ⟨b, o + k * 2, none⟩), .string f.1, _, _, _, _, _, _, _, _, _, _, _], []⟩ _)
            · intro u hu
              obtain ⟨d1, _⟩ := hu
              go_simp
            refine HT.take 6 (.string (f.1 ++ ⟨#[58, 32]⟩)) rfl (by kernel_rfl) (fun _ _ _ h => h) (Or.inl ⟨by rfl, ?_⟩) (?_ : HT _ _ _ _ _ _ _ ⟨#[_, _, _, _, _, _, _, _, _, _, _, _, _, _, _, _, _, _, _, _, _, _, _, _, _, _, _, _, _, _, _, _, _, _, _, _, _, _, _, .slice O m c1, .slice (some ⟨b, o, none⟩) fs.length c, .int .i64 k, .pointer (some ⟨b, o + k * 2, none⟩), .pointer (some ⟨b, o + k * 2, none⟩), .string f.1, .string (f.1 ++ ⟨#[58, 32]⟩), _, _, _, _, _, _, _, _, _, _], []⟩ _)
            · intro u hu
              go_simp
            refine HT.take 7 (.slice (some ⟨b, o, none⟩) fs.length c) rfl (by kernel_rfl) (fun _ _ _ h => h) (Or.inl ⟨by rfl, ?_⟩) (?_ : HT _ _ _ _ _ _ _ ⟨#[_, _, _, _, _, _, _, _, _, _, _, _, _, _, _, _, _, _, _, _, _, _, _, _, _, _, _, _, _, _, _, _, _, _, _, _, _, _, _, .slice O m c1, .slice (some ⟨b, o, none⟩) fs.length c, .int .i64 k, .pointer (some ⟨b, o + k * 2, none⟩), .pointer (some ⟨b, o + k * 2, none⟩), .string f.1, .string (f.1 ++ ⟨#[58, 32]⟩), .slice (some ⟨b, o, none⟩) fs.length c, _, _, _, _, _, _, _, _, _], []⟩ _)
            · intro u hu
              go_simp
            refine HT.take 8 (.int .i64 k) rfl (by kernel_rfl) (fun _ _ _ h => h) (Or.inl ⟨by rfl, ?_⟩) (?_ : HT _ _ _ _ _ _ _ ⟨#[_, _, _, _, _, _, _, _, _, _, _, _, _, _, _, _, _, _, _, _, _, _, _, _, _, _, _, _, _, _, _, _, _, _, _, _, _, _, _, .slice O m c1, .slice (some ⟨b, o, none⟩) fs.length c, .int .i64 k, .pointer (some ⟨b, o + k * 2, none⟩), .pointer (some ⟨b, o + k * 2, none⟩), .string f.1, .string (f.1 ++ ⟨#[58, 32]⟩), .slice (some ⟨b, o, none⟩) fs.length c, .int .i64 k, _, _, _, _, _, _, _, _], []⟩ _)
            · intro u hu
              go_simp
            refine HT.take 9 (.pointer (some ⟨b, o + k * 2, none⟩)) rfl (by kernel_rfl) (fun _ _ _ h => h) (Or.inl ⟨by rfl, ?_⟩) (?_ : HT _ _ _ _ _ _ _ ⟨#[_, _, _, _, _, _, _, _, _, _, _, _, _, _, _, _, _, _, _, _, _, _, _, _, _, _, _, _, _, _, _, _, _, _, _, _, _, _, _, .slice O m c1, .slice (some ⟨b, o, none⟩) fs.length c, .int .i64 k, .pointer (some ⟨b, o + k * 2, none⟩), .pointer (some ⟨b, o + k * 2, none⟩), .string f.1, .string (f.1 ++ ⟨#[58, 32]⟩), .slice (some ⟨b, o, none⟩) fs.length c, .int .i64 k, .pointer (some ⟨b, o + k * 2, none⟩), _, _, _, _, _, _, _], []⟩ _)
            · intro u hu
              go_simp
            refine HT.take 10 (.pointer (some ⟨b, o + k * 2 + 1, none⟩)) rfl (by kernel_rfl) (fun _ _ _ h => h) (Or.inl ⟨by rfl, ?_⟩) (?_ : HT _ _ _ _ _ _ _ ⟨#[_, _, _, _, _, _, _, _, _, _, _, _, _, _, _, _, _, _, _, _, _, _, _, _, _, _, _, _, _, _, _, _, _, _, _, _, _, _, _, .slice O m c1, .slice (some ⟨b, o, none⟩) fs.length c, .int .i64 k, .pointer (some ⟨b, o + k * 2, none⟩), .pointer (some ⟨b, o + k * 2, none⟩), .string f.1, .string (f.1 ++ ⟨#[58, 32]⟩), .slice (some ⟨b, o, none⟩) fs.length c, .int .i64 k, .pointer (some ⟨b, o + k * 2, none⟩), .pointer (some ⟨b, o + k * 2 + 1, none⟩), _, _, _, _, _, _], []⟩ _)
            · intro u hu
              go_simp
            refine HT.take 11 (.string f.2) rfl (by kernel_rfl) (fun _ _ _ h => h) (Or.inl ⟨by rfl, ?_⟩) (?_ : HT _ _ _ _ _ _ _ ⟨#[_, _, _, _, _, _, _, _, _, _, _, _, _, _, _, _, _, _, _, _, _, _, _, _, _, _, _, _, _, _, _, _, _, _, _, _, _, _, _, .slice O m c1, .slice (some ⟨b, o, none⟩) fs.length c, .int .i64 k, .pointer (some ⟨b, o + k * 2, none⟩), .pointer (some ⟨b, o + k * 2, none⟩), .string f.1, .string (f.1 ++ ⟨#[58, 32]⟩), .slice (some ⟨b, o, none⟩) fs.length c, .int .i64 k, .pointer (some ⟨b, o + k * 2, none⟩), .pointer (some ⟨b, o + k * 2 + 1, none⟩), .string f.2, _, _, _, _, _], []⟩ _)
            · intro u hu
              obtain ⟨_, d2, _⟩ := hu
              go_simp
            refine HT.take 12 (.string (f.1 ++ ⟨#[58, 32]⟩ ++ f.2)) rfl (by kernel_rfl) (fun _ _ _ h => h) (Or.inl ⟨by rfl, ?_⟩) (?_ : HT _ _ _ _ _ _ _ ⟨#[_, _, _, _, _, _, _, _, _, _, _, _, _, _, _, _, _, _, _, _, _, _, _, _, _, _, _, _, _, _, _, _, _, _, _, _, _, _, _, .slice O m c1, .slice (some ⟨b, o, none⟩) fs.length c, .int .i64 k, .pointer (some ⟨b, o + k * 2, none⟩), .pointer (some ⟨b, o + k * 2, none⟩), .string f.1, .string (f.1 ++ ⟨#[58, 32]⟩), .slice (some ⟨b, o, none⟩) fs.length c, .int .i64 k, .pointer (some ⟨b, o + k * 2, none⟩), .pointer (some ⟨b, o + k * 2 + 1, none⟩), .string f.2, .string (f.1 ++ ⟨#[58, 32]⟩ ++ f.2), _, _, _, _], []⟩ _)
            · intro u hu
              go_simp
            refine HT.take 13 (.string (f.1 ++ ⟨#[58, 32]⟩ ++ f.2 ++ ⟨#[13, 10]⟩)) rfl (by kernel_rfl) (fun _ _ _ h => h) (Or.inl ⟨by rfl, ?_⟩) (?_ : HT _ _ _ _ _ _ _ ⟨#[_, _, _, _, _, _, _, _, _, _, _, _, _, _, _, _, _, _, _, _, _, _, _, _, _, _, _, _, _, _, _, _, _, _, _, _, _, _, _, .slice O m c1, .slice (some ⟨b, o, none⟩) fs.length c, .int .i64 k, .pointer (some ⟨b, o + k * 2, none⟩), .pointer (some ⟨b, o + k * 2, none⟩), .string f.1, .string (f.1 ++ ⟨#[58, 32]⟩), .slice (some ⟨b, o, none⟩) fs.length c, .int .i64 k, .pointer (some ⟨b, o + k * 2, none⟩), .pointer (some ⟨b, o + k * 2 + 1, none⟩), .string f.2, .string (f.1 ++ ⟨#[58, 32]⟩ ++ f.2), .string (f.1 ++ ⟨#[58, 32]⟩ ++ f.2 ++ ⟨#[13, 10]⟩), _, _, _], []⟩ _)
            · intro u hu
              go_simp
            obtain ⟨cc, W, hcv, hcr, hcb⟩ := conv_sbC wr.drew (f.1 ++ ⟨#[58, 32]⟩ ++ f.2 ++ ⟨#[13, 10]⟩)
            refine HT.step 14 rfl (by kernel_rfl) (fun hS K hK => ?_)
            go_simp
            refine hK.out _ _ ⟨(hcb.cell (p := ⟨b, o + k * 2, none⟩) hS.2.2.2.2).trans hS.1, (hcb.cell (p := ⟨b, o + k * 2 + 1, none⟩) hS.2.2.2.2).trans hS.2.1, hS.2.2.1.below hcb, below_then hS.2.2.2.1.size hS.2.2.2.1 hcb, Nat.lt_of_lt_of_le hS.2.2.2.2 hcb.size⟩ ?_
            clear hK hS hS0
            refine HT.tail _ rfl rfl (by kernel_rfl) (fun hS => ?_)
            have HR := Lib.hid hS.2.2.1
            have HB := Lib.hid hS.2.2.2.1
            have hz := HB.out.size
            have hls3 : (f.1 ++ ⟨#[58, 32]⟩ ++ f.2 ++ ⟨#[13, 10]⟩ : ByteArray).size = f.1.size + 2 + f.2.size + 2 := by rw [line_size]; omega
            have hcrd : Rd W (some ⟨wr.heap.size, 0, none⟩) (f.1.size + 2 + f.2.size + 2) 1 (bcells (F.line f)) := by
              have := hcr.rd
              rw [line_eq, hls3] at this
              exact this
            clear hS hcv hcr hcb hls3
            refine appC _ rfl (.tmp 39) (.tmp 53) rfl w.heap.size O m c1 (F.lines (fs.take k)) rfl HR.out _ _ cc (F.line f) rfl hcrd (by omega) hz ?_
            intro O2 c2 w4 hr4 ha4
            rw [← HSN.out] at hr4
            have HR4 := Lib.hid hr4
            have HB4 := Lib.hid (HB.out.trans (ha4.belowC HR.out hz))
            have HLL : Hid (m + (f.1.size + 2 + f.2.size + 2) = (F.lines (fs.take (k + 1))).length) := by
              rw [HSN.out, List.length_append, HM.out, F.line_len]
              exact Lib.hid (by omega)
            clear hr4 ha4 HR HB hcrd
            go_wp2
            refine NoPanic.normal ?_
            go_wp2
            go_roundw
            case rel => exact ⟨k + 1, _, O2, c2, by omega, by go_num, rfl, HLL.out, HR4.out, HB4.out⟩
            case measure => simp [intOf]; omega
          · have hkn : k = fs.length := by omega
            subst hkn
            have hrow := HROW.out
            have hm2 := HM.out
            rw [List.take_length] at hrow hm2
            have HR := Lib.hid hrow
            have HM2 := Lib.hid hm2
            clear hrow hm2 HROW HM hlt hk
            go_wp2
            refine bodyPost_ret (v := .tuple #[.slice O m c1, .int .i64 0]) (by simp [results, Tryz.results150, go_sem]) rfl ?_
            rw [HBD.out.1, HBD.out.2]
            have hr := HR.out
            rw [HM2.out] at hr ⊢
            exact ⟨O, c1, rfl, hr, HBEL.out⟩
end Go.Proofs.YtcdbppoohlabnaaGreatDoor
