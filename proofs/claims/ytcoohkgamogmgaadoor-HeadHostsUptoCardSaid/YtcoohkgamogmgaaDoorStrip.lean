/- The walks of hop.Strip and of its document's twin. -/
import Derived.Test.YtcoohkgamogmgaaDoorRefWithout
import Derived.Test.YtcoohkgamogmgaaDoorPlain2
namespace Go.Proofs.YtcoohkgamogmgaaDoor
open Go.RowKit

theorem small_of_bulk {fs : List FD} (h : F.bulk fs ≤ 1073741824) : FSmall fs := fun f hf => by
  have := F.mem_bulk hf
  omega
theorem toks_sum : ∀ fs : List FD, ∀ name : ByteArray, (F.tokens fs name).length ≤ F.bulk fs := by
  intro fs name
  induction fs with
  | nil => simp [F.tokens, F.values, F.bulk]
  | cons f l ih =>
    have hl := list_len f.2
    unfold F.tokens F.values at ih ⊢
    rw [List.filter_cons]
    simp only [F.bulk]
    split
    · rw [List.map_cons, List.flatMap_cons, List.length_append, List.length_map]; omega
    · omega
theorem mem_toks {fs : List FD} {name x : ByteArray} (hx : x ∈ F.tokens fs name) : x.size ≤ F.bulk fs := by
  unfold F.tokens at hx
  obtain ⟨v, hv, hx⟩ := List.mem_flatMap.1 hx
  obtain ⟨el, hel, rfl⟩ := List.mem_map.1 hx
  have h1 := mem_list hel
  unfold F.values at hv
  obtain ⟨f, hf, rfl⟩ := List.mem_map.1 hv
  have h2 := F.mem_bulk (List.mem_filter.1 hf).1
  rw [B_size]
  unfold T.fold
  rw [List.length_map, ← L_size]
  omega
theorem nine_small : NSmall F.nine := by unfold NSmall F.nine; decide
theorem nineLow_small : NSmall F.nineLow := by unfold NSmall F.nineLow; decide
theorem nsmall_append {a b : List ByteArray} (ha : NSmall a) (hb : NSmall b) : NSmall (a ++ b) := fun s hs => by
  rcases List.mem_append.1 hs with h | h
  · exact ha s h
  · exact hb s h

set_option maxHeartbeats 400000 in
theorem strip_any (A : Option Addr) (n c : Nat) (fs : List FD) (w : World) (hl : fs.length = n) (hf : F.bulk fs ≤ 1073741824) (hx : Rd w A n 2 (fcells fs)) (hnil : A = none → n = 0 ∧ c = 0) :
    Calls Tryd.prog 15 #[.slice A n c] w (RetRow w 67 2 (F.strip fs).length (fcells (F.strip fs))) := by
  have hn : n ≤ 1073741824 := by have := F.len_le_bulk fs; omega
  have ht := Nat.le_trans (toks_sum fs ⟨#[67, 111, 110, 110, 101, 99, 116, 105, 111, 110]⟩) hf
  have HT := Lib.hid (tokens_any A n c fs ⟨#[67, 111, 110, 110, 101, 99, 116, 105, 111, 110]⟩ w (by omega) hl (small_of_bulk hf) (by decide) (by omega) hx)
  have hns : NSmall (F.tokens fs ⟨#[67, 111, 110, 110, 101, 99, 116, 105, 111, 110]⟩ ++ F.nine) := nsmall_append (fun s hs => by have := mem_toks hs; omega) nine_small
  have HW := Lib.hid (fun X d w1 (hb : Below w.heap.size w w1) (hX : Rd w1 X ((F.tokens fs ⟨#[67, 111, 110, 110, 101, 99, 116, 105, 111, 110]⟩).length + 9) 1 (scells (F.tokens fs ⟨#[67, 111, 110, 110, 101, 99, 116, 105, 111, 110]⟩ ++ F.nine))) =>
    without_any A n c fs X ((F.tokens fs ⟨#[67, 111, 110, 110, 101, 99, 116, 105, 111, 110]⟩).length + 9) d (F.tokens fs ⟨#[67, 111, 110, 110, 101, 99, 116, 105, 111, 110]⟩ ++ F.nine) w1 (by omega) hl (small_of_bulk hf) (hx.below hb) hnil (by omega) (by rw [List.length_append]; rfl) hns hX)
  clear hl hns hnil hf
  obtain ⟨ts, hts⟩ : ∃ ts, ts = F.tokens fs ⟨#[67, 111, 110, 110, 101, 99, 116, 105, 111, 110]⟩ := ⟨_, rfl⟩
  have hfin : F.strip fs = F.without fs (ts ++ F.nine) := by rw [hts]; rfl
  rw [← hts] at HT HW ht
  have HF := Lib.hid hfin
  clear hts hfin
  go_enter Tryd.func15, Tryd.ntmps15
  go_wp2_with fail
  refine HT.out.mono ?_
  rintro e w1 ⟨T, dt, rfl, hT, hb1⟩
  have hz1 := hb1.size
  go_wp2_with (at_builtin; refine appS _ rfl (.tmp 5) (.tmp 6) rfl w.heap.size T ts.length dt ts rfl (hT.alloc _) _ 9 9 F.nine rfl (Rd.newRow _ _ _ 9 1 rfl) (by omega) (by simp; omega) ?_; intro A1 c1 w2 hr2 ha2)
  have hB2 : Below w.heap.size w w2 := (hb1.alloc hz1 _).trans (ha2.below (hT.alloc _) (by simp; omega))
  go_wp2_with fail
  refine (HW.out A1 c1 w2 hB2 hr2.rd).mono ?_
  rintro e w3 ⟨R, dr, rfl, hR, hb3⟩
  clear hT hr2 ha2 HT HW
  go_wp2
  go_ret
  refine ⟨R, dr, ?_, ?_, below_next hB2 hb3⟩
  · rw [HF.out]; rfl
  · rw [HF.out]; exact hR.mono hB2.size

set_option maxHeartbeats 400000 in
theorem refStrip_any (A : Option Addr) (n c : Nat) (fs : List FD) (w : World) (hl : fs.length = n) (hf : F.bulk fs ≤ 1073741824) (hx : Rd w A n 2 (fcells fs)) :
    Calls Tryd.prog 16 #[.slice A n c] w (RetRow w 67 2 (F.refStrip fs).length (fcells (F.refStrip fs))) := by
  have hn : n ≤ 1073741824 := by have := F.len_le_bulk fs; omega
  have ht := Nat.le_trans (toks_sum fs ⟨#[99, 111, 110, 110, 101, 99, 116, 105, 111, 110]⟩) hf
  have HT := Lib.hid (fun w1 (hb : Below w.heap.size w w1) => refTokens_any A n c fs ⟨#[99, 111, 110, 110, 101, 99, 116, 105, 111, 110]⟩ w1 (by omega) hl (small_of_bulk hf) (by decide) (by omega) (hx.below hb))
  have hns : NSmall (F.nineLow ++ F.tokens fs ⟨#[99, 111, 110, 110, 101, 99, 116, 105, 111, 110]⟩) := nsmall_append nineLow_small (fun s hs => by have := mem_toks hs; omega)
  have HW := Lib.hid (fun X d w1 (hb : Below w.heap.size w w1) (hX : Rd w1 X (9 + (F.tokens fs ⟨#[99, 111, 110, 110, 101, 99, 116, 105, 111, 110]⟩).length) 1 (scells (F.nineLow ++ F.tokens fs ⟨#[99, 111, 110, 110, 101, 99, 116, 105, 111, 110]⟩))) =>
    refWithout_any A n c fs X (9 + (F.tokens fs ⟨#[99, 111, 110, 110, 101, 99, 116, 105, 111, 110]⟩).length) d (F.nineLow ++ F.tokens fs ⟨#[99, 111, 110, 110, 101, 99, 116, 105, 111, 110]⟩) w1 (by omega) hl (small_of_bulk hf) (hx.below hb) (by omega) (by rw [List.length_append]; rfl) hns hX)
  clear hl hns hf
  obtain ⟨ts, hts⟩ : ∃ ts, ts = F.tokens fs ⟨#[99, 111, 110, 110, 101, 99, 116, 105, 111, 110]⟩ := ⟨_, rfl⟩
  have hfin : F.refStrip fs = F.without fs (F.nineLow ++ ts) := by rw [hts]; rfl
  rw [← hts] at HT HW ht
  have HF := Lib.hid hfin
  clear hts hfin
  go_enter Tryd.func16, Tryd.ntmps16
  go_wp2_with fail
  have hb0 : Below w.heap.size w (w.alloc (.cells (F.nineLow.map Value.string).toArray 9)) := (Below.refl _ _).alloc (Nat.le_refl _) _
  have hrow0 : Row (w.alloc (.cells (F.nineLow.map Value.string).toArray 9)) w.heap.size 9 1 (some ⟨w.heap.size, 0, none⟩) 9 9 (scells F.nineLow) :=
    .inl ⟨rfl, .inr ⟨w.heap.size, 9, _, rfl, Nat.le_refl _, heap_alloc_new w _, Nat.le_refl _, by decide, rfl, rfl⟩⟩
  refine (HT.out (w.alloc (.cells (F.nineLow.map Value.string).toArray 9)) hb0).mono ?_
  rintro e w1 ⟨T, dt, rfl, hT, hb1⟩
  have hB1 := below_then (Nat.le_trans (Nat.le_refl _) hb0.size) hb0 hb1
  have hz1 := hB1.size
  have hrow1 := hrow0.below hb1
  clear hb0 hrow0 hb1
  go_wp2_with (at_builtin; refine appS _ rfl (.tmp 5) (.tmp 7) rfl w.heap.size _ 9 9 F.nineLow rfl hrow1 T ts.length dt ts rfl hT.rd (by omega) (by omega) ?_; intro A1 c1 w2 hr2 ha2)
  have hB2 : Below w.heap.size w w2 := hB1.trans (ha2.below hrow1 hz1)
  go_wp2_with fail
  refine (HW.out A1 c1 w2 hB2 hr2.rd).mono ?_
  rintro e w3 ⟨R, dr, rfl, hR, hb3⟩
  clear hT hr2 ha2 HT HW
  go_wp2
  go_ret
  refine ⟨R, dr, ?_, ?_, below_next hB2 hb3⟩
  · rw [HF.out]; rfl
  · rw [HF.out]; exact hR.mono hB2.size
end Go.Proofs.YtcoohkgamogmgaaDoor
