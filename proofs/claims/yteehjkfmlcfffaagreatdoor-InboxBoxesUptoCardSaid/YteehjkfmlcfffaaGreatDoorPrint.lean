/- The walks of fields.Print and of the document's. Condition: a list of bulk at most 2^30. -/
import Derived.Test.YteehjkfmlcfffaaGreatDoorTokC
import Derived.Test.YteehjkfmlcfffaaGreatDoorRowA
import Derived.Test.YteehjkfmlcfffaaGreatDoorRegionA
import Derived.Test.YteehjkfmlcfffaaGreatDoorStripA
namespace Go.Proofs.YteehjkfmlcfffaaGreatDoor
open Go.RowKit

/-- Bytes and an error's number, answered. -/
def RetBE (w : World) (bs : List UInt8) (code : Int) (e : Ending) (w' : World) : Prop :=
  ∃ A c, e = .returned (.tuple #[.slice A bs.length c, .int .i64 code]) ∧ CRow w' w.heap.size A bs.length c bs ∧ Below w.heap.size w w'
theorem RetBE.none_ {w w' : World} {code : Int} {bs : List UInt8} {c : Int} (hb : Below w.heap.size w w') (h1 : bs = []) (h2 : c = code) : RetBE w bs c (.returned (.tuple #[.slice none 0 0, .int .i64 code])) w' := by
  subst h1
  subst h2
  exact ⟨none, 0, rfl, CRow.none_ _ _, hb⟩
theorem buffer_below {B b : Nat} {bs : List Value} {w w' : World} (h : Lib.IsBuffer 343 5 B b bs w) (hb : Below w.heap.size w w') : Lib.IsBuffer 343 5 B b bs w' := by
  have hlt := h.lt
  obtain ⟨hB, v, lr, hk, ho, hne⟩ := h
  refine ⟨hB, v, lr, (hb.block b hlt).trans hk, ho.kept (row := none) ⟨hb.os, hb.tape, hb.output, hb.size, fun k hk _ => hb.block k hk⟩ ?_, hne⟩
  cases v.ownBlock <;> simp
theorem row_of_own {w : World} {B n : Nat} {v : Value} {bs : List Value} (h : w.ownsRow B 5 1 v n bs) : ∃ A c, v = .slice A n c ∧ Row w B 5 1 A n c bs := by
  obtain ⟨h1, h2⟩ := h
  rcases h2 with ⟨hv, h0⟩ | ⟨g, cap, cur, hv, r⟩
  · subst h0
    exact ⟨none, 0, hv, .inl ⟨h1, .inl ⟨hv ▸ hv, rfl⟩⟩⟩
  · subst hv
    exact ⟨_, _, rfl, .inl ⟨h1, .inr ⟨g, cap, cur, rfl, r⟩⟩⟩
/-- The head of the list that is well. -/
def Well (fs : List FD) (k : Nat) : Prop := (fs.take k).all F.okF = true
theorem Well.step {fs : List FD} {k : Nat} (h : Well fs k) (hk : k < fs.length) (h1 : T.token (L (fs[k]).1) = true) (h2 : F.good (fs[k]).2 = true) : Well fs (k + 1) := by
  unfold Well at *
  rw [F.all_take_succ _ _ _ hk, h]
  unfold F.okF
  rw [h1, h2]
  rfl
theorem ok_no1 {fs : List FD} {k : Nat} (hk : k < fs.length) (h1 : T.token (L (fs[k]).1) = false) : fs.all F.okF = false := F.all_false_at _ _ k hk (by unfold F.okF; rw [h1]; rfl)
theorem ok_no2 {fs : List FD} {k : Nat} (hk : k < fs.length) (h1 : F.good (fs[k]).2 = false) : fs.all F.okF = false := F.all_false_at _ _ k hk (by unfold F.okF; rw [h1, Bool.and_false])
theorem bad_print {fs : List FD} (h : fs.all F.okF = false) : F.printB fs = [] ∧ F.printE fs = 40 := ⟨F.printB_bad (by rw [F.printE_bad h]; decide), F.printE_bad h⟩
theorem many_print {fs : List FD} (h : fs.all F.okF = true) (h2 : 100 < fs.length) : F.printB fs = [] ∧ F.printE fs = 42 := ⟨F.printB_bad (by rw [F.printE_many h h2]; decide), F.printE_many h h2⟩
theorem good_print {fs : List FD} (h : fs.all F.okF = true) (h2 : ¬ 100 < fs.length) : F.printB fs = F.lines fs ∧ F.printE fs = 0 := ⟨F.printB_ok (F.printE_ok h h2), F.printE_ok h h2⟩
theorem line_eq (f : FD) : L (f.1 ++ ⟨#[58, 32]⟩ ++ f.2 ++ ⟨#[13, 10]⟩) = F.line f := by
  simp only [L_append]
  rfl
theorem line_size (f : FD) : (f.1 ++ ⟨#[58, 32]⟩ ++ f.2 ++ ⟨#[13, 10]⟩).size = f.1.size + f.2.size + 4 := by
  rw [L_size, line_eq, F.line_len]

set_option maxRecDepth 100000 in
set_option maxHeartbeats 1000000 in
theorem print_any (A : Option Addr) (c : Nat) (fs : List FD) (w : World) (hf : F.bulk fs ≤ 1073741824) (hx : Rd w A fs.length 2 (fcells fs)) :
    Calls Tryz.prog 238 #[.slice A fs.length c] w (RetBE w (F.printB fs) (F.printE fs)) := by
  have hn : fs.length ≤ 1073741824 := by have := F.len_le_bulk fs; omega
  have HSM := Lib.hid (small_of_bulk hf)
  have hln := F.lines_len fs
  have hlt2 : (F.lines fs).length ≤ 4294967296 := by omega
  clear hln
  generalize hB : F.printB fs = PB at *
  generalize hE : F.printE fs = PE at *
  have HBAD := Lib.hid (fun (h : fs.all F.okF = false) => bad_print h)
  have HMANY := Lib.hid (fun (h : fs.all F.okF = true) (h2 : 100 < fs.length) => many_print h h2)
  have HGOOD := Lib.hid (fun (h : fs.all F.okF = true) (h2 : ¬ 100 < fs.length) => good_print h h2)
  rw [hB, hE] at HBAD HMANY HGOOD
  clear hB hE
  have HMB := Lib.hid (fun f (h : f ∈ fs) => F.mem_bulk h)
  go_enter Tryz.func238, Tryz.ntmps238
  go_wp2
  have HBUF0 := Lib.hid (Lib.fresh_isBuffer 343 5 w)
  have HB0 := Lib.hid ((Below.refl w.heap.size w).alloc (Nat.le_refl _) (.cells #[.slice none 0 0, .int .i64 0, .int .i8 0] 343))
  generalize w.alloc (.cells #[.slice none 0 0, .int .i64 0, .int .i8 0] 343) = w0 at *
  go_loopw [9] (fun i wr => ∃ k : Nat, k ≤ fs.length ∧ i = .int .i64 k ∧ Well fs k ∧ Lib.IsBuffer 343 5 w.heap.size w.heap.size (Lib.byteCells (F.lines (fs.take k))) wr ∧ Below w.heap.size w wr) (fun i _ => fs.length - (intOf i).toNat)
  case atStart => exact ⟨0, Nat.zero_le _, rfl, rfl, HBUF0.out, HB0.out⟩
  case round =>
    clear HBUF0 HB0
    obtain ⟨k, hk, rfl, hw, hbuf, hbel⟩ := hrel
    have HW := Lib.hid hw
    have HBUF := Lib.hid hbuf
    have HBEL := Lib.hid hbel
    clear hw hbuf hbel
    by_cases hlt : k < fs.length
    · obtain ⟨b, o, rfl, hb, d1, d2⟩ := (hx.below HBEL.out).field hlt rfl
      have hsn := F.lines_snoc fs k hlt
      have hst := fun h1 h2 => HW.out.step hlt h1 h2
      have hn1 := fun h => ok_no1 hlt h
      have hn2 := fun h => ok_no2 hlt h
      have hfm := HMB.out _ (List.getElem_mem hlt)
      have hfs := HSM.out _ (List.getElem_mem hlt)
      have htk := F.lines_take fs k
      generalize hfk : fs[k] = f at *
      have HSN := Lib.hid hsn
      have HST := Lib.hid hst
      have HN1 := Lib.hid hn1
      have HN2 := Lib.hid hn2
      have ha1 := hfs.1
      have ha2 := hfs.2
      have HTOK := Lib.hid (fun u => token_any f.1 u ha1)
      have HGD := Lib.hid (fun u => good_any f.2 u ha2)
      have hz := HBEL.out.size
      have hls : (F.lines (fs.take k)).length ≤ 4294967296 := by omega
      have hls2 : f.1.size + f.2.size + 1 ≤ 1073741824 := by omega
      clear hsn hst hn1 hn2 hfs hfk hfm htk
      rcases tf (T.token (L f.1)) with h1 | h1
      · rw [h1] at HTOK
        rcases tf (F.good f.2) with h2 | h2
        · rw [h2] at HGD
          have HST2 := Lib.hid (HST.out h1 h2)
          clear h1 h2 HST HN1 HN2
          go_wp2_with fail
          refine (HTOK.out _).mono ?_
          rintro e w' ⟨rfl, rfl⟩
          go_wp2_with fail
          refine (HGD.out _).mono ?_
          rintro e w2 ⟨rfl, hb2⟩
          have hk2 := (Blk.new wr #[.string f.1, .string f.2] 148).below hb2
          obtain ⟨x0, x1⟩ := hk2.cells2
          have HBUF2 := Lib.hid (buffer_below (buffer_below HBUF.out ((Below.refl _ _).alloc (Nat.le_refl _) (.cells #[.string f.1, .string f.2] 148))) hb2)
          have HBEL2 := Lib.hid (below_new HBEL.out hz hb2)
          have hz2 := HBEL2.out.size
          clear hk2 hb2 HBUF HBEL HTOK HGD d1 d2
          have hs1 : f.1.size + 2 ≤ 9223372036854775807 := by omega
          have hs2 : f.1.size + 2 + f.2.size ≤ 9223372036854775807 := by omega
          have hs3 : f.1.size + 2 + f.2.size + 2 ≤ 9223372036854775807 := by omega
          go_wp2_with fail
          refine (Tryz.Buffer_WriteString_k w.heap.size w.heap.size _ _ w2 HBUF2.out hz2 (Lib.byteCells_one _) (by rw [Lib.byteCells_length, line_size]; omega)).mono ?_
          rintro e w3 ⟨rfl, hbuf3, hb3, _⟩
          have HBUF3 : Hid (Lib.IsBuffer 343 5 w.heap.size w.heap.size (Lib.byteCells (F.lines (fs.take (k + 1)))) w3) := by
            have := hbuf3
            rw [show (f.1 ++ ⟨#[58, 32]⟩ ++ f.2 ++ ⟨#[13, 10]⟩ : ByteArray).data.toList = F.line f from line_eq f, ← Lib.byteCells_append, ← HSN.out] at this
            exact Lib.hid this
          have HBEL3 := Lib.hid (HBEL2.out.trans hb3)
          clear hbuf3 hb3 HBUF2 HBEL2 x0 x1
          go_wp2
          go_roundw
          case rel => exact ⟨k + 1, by omega, by go_num, HST2.out, HBUF3.out, HBEL3.out⟩
          case measure => simp [intOf]; omega
        · rw [h2] at HGD
          have HBD := Lib.hid (HBAD.out (HN2.out h2))
          clear h1 h2 HST HN1 HN2
          go_wp2_with fail
          refine (HTOK.out _).mono ?_
          rintro e w' ⟨rfl, rfl⟩
          go_wp2_with fail
          refine (HGD.out _).mono ?_
          rintro e w2 ⟨rfl, hb2⟩
          have HBEL2 := Lib.hid (below_new HBEL.out hz hb2)
          clear hb2 HBUF HBEL HTOK HGD d1 d2
          go_wp2
          refine bodyPost_ret (v := .tuple #[.slice none 0 0, .int .i64 40]) (by simp [results, Tryz.results238, go_sem]) rfl ?_
          exact RetBE.none_ HBEL2.out HBD.out.1 HBD.out.2
      · rw [h1] at HTOK
        have HBD := Lib.hid (HBAD.out (HN1.out h1))
        have HBEL2 := Lib.hid (HBEL.out.alloc hz (.cells #[.string f.1, .string f.2] 148))
        clear h1 HST HN1 HN2
        go_wp2_with fail
        refine (HTOK.out _).mono ?_
        rintro e w' ⟨rfl, rfl⟩
        clear HBUF HBEL HTOK HGD d1 d2
        go_wp2
        refine bodyPost_ret (v := .tuple #[.slice none 0 0, .int .i64 40]) (by simp [results, Tryz.results238, go_sem]) rfl ?_
        exact RetBE.none_ HBEL2.out HBD.out.1 HBD.out.2
    · have hkn : k = fs.length := by omega
      subst hkn
      have hall : fs.all F.okF = true := by have := HW.out; unfold Well at this; rwa [List.take_length] at this
      have hbuf := HBUF.out
      rw [List.take_length] at hbuf
      have HBF := Lib.hid hbuf
      clear hbuf HBUF HW hlt hk
      by_cases hm : 100 < fs.length
      · have HBD := Lib.hid (HMANY.out hall hm)
        clear hall
        go_wp2
        refine bodyPost_ret (v := .tuple #[.slice none 0 0, .int .i64 42]) (by simp [results, Tryz.results238, go_sem]) rfl ?_
        exact RetBE.none_ HBEL.out HBD.out.1 HBD.out.2
      · have HBD := Lib.hid (HGOOD.out hall hm)
        clear hall
        go_wp2_with fail
        refine (Tryz.Buffer_Bytes w.heap.size w.heap.size _ wr HBF.out).mono ?_
        rintro e w3 ⟨v, rfl, hown, q, rfl⟩
        obtain ⟨R, d, rfl, hrow⟩ := row_of_own hown
        have HR := Lib.hid hrow
        clear hown hrow
        go_wp2
        refine bodyPost_ret (v := .tuple #[.slice R (Lib.byteCells (F.lines fs)).length d, .int .i64 0]) (by simp [results, Tryz.results238, go_sem]) rfl ?_
        rw [HBD.out.1, HBD.out.2]
        have hl : (Lib.byteCells (F.lines fs)).length = (F.lines fs).length := Lib.byteCells_length _
        have hr := HR.out
        rw [hl] at hr ⊢
        exact ⟨R, d, rfl, Row.crow hr, below_drewN HBEL.out q⟩

end Go.Proofs.YteehjkfmlcfffaaGreatDoor
