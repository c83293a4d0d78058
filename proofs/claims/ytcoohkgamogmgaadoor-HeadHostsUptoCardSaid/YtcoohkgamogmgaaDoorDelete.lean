/- The walk of the library's DeleteFunc at fields.Without's closure; fields.Without. -/
import Derived.Test.YtcoohkgamogmgaaDoorWithout
namespace Go.Proofs.YtcoohkgamogmgaaDoor
open Go.RowKit

def kept (p : FD → Bool) (fs : List FD) : List FD := fs.filter fun f => !p f
theorem kept_snoc (p : FD → Bool) (fs : List FD) (k : Nat) (h : k < fs.length) : kept p (fs.take (k + 1)) = kept p (fs.take k) ++ (if p fs[k] then [] else [fs[k]]) := by
  unfold kept
  rw [F.filter_snoc _ _ _ h]
  congr 1
  by_cases hp : p fs[k] = true <;> simp [hp]
theorem kept_all {p : FD → Bool} {fs : List FD} (h : ∀ f ∈ fs, p f = false) : kept p fs = fs := by
  unfold kept
  exact List.filter_eq_self.2 (fun f hf => by simp [h f hf])
theorem kept_le (p : FD → Bool) (fs : List FD) : (kept p fs).length ≤ fs.length := List.length_filter_le _ _

/-- What the loop of DeleteFunc keeps: the elements kept so far, in front; those not yet looked at, in their places. -/
def Moved (p : FD → Bool) (fs xs : List FD) (i j : Nat) : Prop := xs.length = fs.length ∧ i < j ∧ j ≤ fs.length ∧ xs.take i = kept p (fs.take j) ∧ xs.drop j = fs.drop j
theorem Moved.at_ {p : FD → Bool} {fs xs : List FD} {i j : Nat} (h : Moved p fs xs i j) (hj : j < fs.length) : ∃ hx : j < xs.length, xs[j] = fs[j] := by
  have hx : j < xs.length := by rw [h.1]; exact hj
  refine ⟨hx, ?_⟩
  have := h.2.2.2.2
  rw [List.drop_eq_getElem_cons hx, List.drop_eq_getElem_cons hj] at this
  injection this
theorem Moved.skip {p : FD → Bool} {fs xs : List FD} {i j : Nat} (h : Moved p fs xs i j) (hj : j < fs.length) (hp : p fs[j] = true) : Moved p fs xs i (j + 1) := by
  obtain ⟨h1, h2, h3, h4, h5⟩ := h
  refine ⟨h1, by omega, by omega, ?_, ?_⟩
  · rw [kept_snoc p fs j hj, if_pos hp, List.append_nil]; exact h4
  · rw [← List.drop_drop, ← List.drop_drop, h5]
theorem Moved.move {p : FD → Bool} {fs xs : List FD} {i j : Nat} (h : Moved p fs xs i j) (hj : j < fs.length) (hp : p fs[j] = false) : Moved p fs (xs.set i fs[j]) (i + 1) (j + 1) := by
  obtain ⟨h1, h2, h3, h4, h5⟩ := h
  have hi : i < xs.length := by omega
  refine ⟨by simpa using h1, by omega, by omega, ?_, ?_⟩
  · rw [kept_snoc p fs j hj, if_neg (by simp [hp]), ← h4, List.take_succ_eq_append_getElem (by simpa using hi)]
    simp [List.take_set_of_le]
  · rw [List.drop_set_of_lt (by omega), ← List.drop_drop, ← List.drop_drop, h5]

theorem own_new {w w1 : World} {base : Nat} {e : TypeId} {size : Nat} {v : Value} {n : Nat} {xs : List Value} {o : Obj} (h : w.ownsRow base e size v n xs) (hb : Below (w.alloc o).heap.size (w.alloc o) w1) : w1.ownsRow base e size v n xs := by
  refine (h.alloc o).kept (row := none) ⟨hb.os, hb.tape, hb.output, hb.size, fun k hk _ => hb.block k hk⟩ ?_
  cases v.ownBlock <;> simp

set_option maxHeartbeats 1000000 in
theorem delete_any (A : Option Addr) (n c : Nat) (fs : List FD) (w0 : World) (X : Option Addr) (m d : Nat) (ns : List ByteArray) (g : Nat) (w : World) (hn : n ≤ 1099511627776) (hl : fs.length = n) (hf : FSmall fs)
    (H0 : Names w0 X m d ns g) (hb0 : Below w0.heap.size w0 w) (hr : Row w w0.heap.size 67 2 A n c (fcells fs)) :
    Calls Tryd.prog 86 #[.slice A n c, .func (.func 87) #[] #[.pointer (some ⟨g, 0, none⟩)]] w
      (fun e w' => ∃ A' k, e = .returned (.slice A' k c) ∧ k = (kept (among ns) fs).length ∧ Row w' w0.heap.size 67 2 A' k c (fcells (kept (among ns) fs)) ∧ Below w0.heap.size w w') := by
  have hcap := hr.cap
  have HI := Lib.hid (indexF_any A n c fs w0 X m d ns g w hn hl hf H0 hb0 hr.rd)
  have HL := Lib.hid hl; clear hl
  go_enter Tryd.func86, Tryd.ntmps86
  go_wp2_with fail
  refine HI.out.mono ?_
  rintro e w1 ⟨r, rfl, hat, hb1⟩
  have hr1 := hr.below hb1
  have hB1 := below_then hb0.size hb0 hb1
  have hb1' : Below w0.heap.size w w1 := hb1.mono hb0.size
  clear HI hr hb1
  rcases hat with ⟨rfl, hall⟩ | ⟨i0, hi0, rfl, hp0, hbef⟩
  · have hk := kept_all hall
    have HK := Lib.hid hk
    clear hk hall
    go_wp2
    go_ret
    exact ⟨A, n, rfl, by rw [HK.out, HL.out], by rw [HK.out]; exact hr1, hb1'⟩
  · have hin : i0 < n := by rw [← HL.out]; exact hi0
    rcases hr1 with hr1 | ⟨h0, _, _⟩
    case inr => omega
    have hM0 : Moved (among ns) fs fs i0 (i0 + 1) := by
      refine ⟨rfl, by omega, by omega, ?_, rfl⟩
      have hk0 := kept_snoc (among ns) fs i0 hi0
      rw [if_pos hp0, List.append_nil] at hk0
      rw [hk0]
      exact (kept_all hbef).symm
    have HM0 := Lib.hid hM0
    obtain ⟨ga, cap, hga, hbase, hlt⟩ := hr1.form (by omega)
    cases hga
    have hne : ((i0 : Int) == -1) = false := by rw [beq_eq_false_iff_ne]; omega
    clear hp0 hbef hM0
    go_wp2
    go_loopw [5, 6, 7] (fun i j _ wr => ∃ (a b : Nat) (xs : List FD), i = .int .i64 a ∧ j = .int .i64 b ∧ b ≤ n ∧ a < b ∧ Moved (among ns) fs xs a b ∧ wr.ownsRow w0.heap.size 67 2 (.slice (some ⟨ga, 0, none⟩) n c) n (fcells xs) ∧ Below w0.heap.size w1 wr) (fun _ j _ _ => n - (intOf j).toNat)
    case atStart => exact ⟨i0, i0 + 1, fs, rfl, by go_num, by omega, by omega, HM0.out, hr1, Below.refl _ _⟩
    case round =>
      clear hr1
      obtain ⟨a, b, xs, rfl, rfl, hbn, hab, hmv, hrow, hbel⟩ := hrel
      have HMV := Lib.hid hmv
      clear hmv
      have hsz : w0.heap.size ≤ wr.heap.size := by have := (hB1.trans hbel).size; exact this
      by_cases hltb : b < n
      · have hbl : b < fs.length := by rw [HL.out]; exact hltb
        obtain ⟨hxl, hxe⟩ := HMV.out.at_ hbl
        have hal : a < xs.length := by omega
        obtain ⟨e1, e2⟩ := fcells_at xs b hxl
        obtain ⟨e3, e4⟩ := fcells_at xs a hal
        have hxlen : xs.length = n := by rw [HMV.out.1, HL.out]
        have cb1 := hrow.cellAt (b * 2) (by omega)
        have cb2 := hrow.cellAt (b * 2 + 1) (by omega)
        have ca1 := hrow.cellAt (a * 2) (by omega)
        have ca2 := hrow.cellAt (a * 2 + 1) (by omega)
        rw [e1, hxe] at cb1
        rw [e2, hxe] at cb2
        rw [e3] at ca1
        rw [e4] at ca2
        have fa1 := hrow.frozenAt (a * 2)
        have fa2 := hrow.frozenAt (a * 2 + 1)
        have hfs := hf _ (List.getElem_mem hbl)
        have hskip := fun h => HMV.out.skip hbl h
        have hmove := fun h => HMV.out.move hbl h
        obtain ⟨f, hfk⟩ : ∃ f, f = fs[b]'hbl := ⟨_, rfl⟩
        rw [← hfk] at cb1 cb2 hfs hskip hmove
        have hcc := fun o => H0.call ((hB1.trans hbel).alloc (by have := (hB1.trans hbel).size; omega) o) f hfs.1
        rcases tf (among ns f) with his | his
        · have HS := Lib.hid (hskip his)
          rw [his] at hcc
          clear hskip hmove his e1 e2 e3 e4 hxe hfk hxlen hal ca1 ca2 fa1 fa2
          go_wp2_with fail
          refine (hcc _).mono ?_
          rintro e w2 ⟨rfl, hb2⟩
          have hr2 := own_new hrow hb2
          have hB2 := below_new hbel hsz hb2
          clear hcc hrow hbel hb2 cb1 cb2
          go_wp2
          go_roundw
          case rel => exact ⟨a, b + 1, xs, rfl, by go_num, by omega, by omega, HS.out, hr2, hB2⟩
          case measure => simp [intOf]; omega
        · have hmv2 := hmove his
          have HS := Lib.hid (hmove his)
          rw [his] at hcc
          have hset := fcells_set xs a f
          have HK := Lib.hid hfk
          have HSET := Lib.hid hset
          clear hskip hmove his e1 e2 e3 e4 hxe hxlen hset hmv2 hfk
          go_wp2_with fail
          refine (hcc _).mono ?_
          rintro e w2 ⟨rfl, hb2⟩
          have hr2 := own_new hrow hb2
          have hB2 := below_new hbel hsz hb2
          have hc0 := newCell hb2 0 rfl
          have hc1 := newCell hb2 1 rfl
          have ca1 := hr2.cellAt (a * 2) (by omega)
          have ca2 := hr2.cellAt (a * 2 + 1) (by omega)
          have fa1 := hr2.frozenAt (a * 2)
          have fa2 := hr2.frozenAt (a * 2 + 1)
          obtain ⟨e3, e4⟩ := fcells_at xs a hal
          rw [e3] at ca1
          rw [e4] at ca2
          have hst1 := hr2.stored (a * 2) (.string f.1)
          have hst2 := hst1.1.stored (a * 2 + 1) (.string f.2)
          have HST1 := Lib.hid hst1.2
          have HST2 := Lib.hid hst2.2
          have hrw := hst2.1
          rw [HSET.out] at hrw
          have HRW := Lib.hid hrw
          clear hcc hrow hbel hb2 cb1 cb2 hr2 hst1 hst2 e3 e4 hrw
          go_wp2
          go_roundw
          case rel =>
            refine ⟨a + 1, b + 1, _, by go_num, by go_num, by omega, by omega, HS.out, HRW.out, ?_⟩
            exact (hB2.setCell (p := ⟨ga, a * 2, none⟩) hbase _).setCell (p := ⟨ga, a * 2 + 1, none⟩) hbase _
          case measure => simp [intOf]; omega
      · have hbn' : b = fs.length := by rw [HL.out]; omega
        have hxt : xs.take a = kept (among ns) fs := by
          have := HMV.out.2.2.2.1
          rw [hbn', List.take_length] at this
          exact this
        have hal : a = (kept (among ns) fs).length := by
          rw [← hxt, List.length_take, HMV.out.1]; omega
        have han : a < n := by omega
        obtain ⟨W, hcl, hrW, hgW⟩ := clear_row hrow han hn
        rw [hxt] at hrW
        have HAL := Lib.hid hal
        have hca : ¬ c = a := by omega
        have hca2 : ¬ (c : Int) = (a : Int) := by omega
        have hac : (a : Int) ≤ (n : Int) := by omega
        have han2 : a ≤ n := by omega
        have hac2 : a ≤ c := by omega
        clear hbn' hxt hal hrow
        go_wp2
        go_ret
        refine ⟨_, a, rfl, HAL.out, hrW, ?_⟩
        exact hb1'.trans (hbel.grown hgW hsz (fun k hk => by cases hk; exact hbase))

set_option maxHeartbeats 400000 in
theorem clone_any (A : Option Addr) (n c : Nat) (fs : List FD) (w : World) (hn : n ≤ 1099511627776) (hx : Rd w A n 2 (fcells fs)) (hnil : A = none → n = 0 ∧ c = 0) :
    Calls Tryd.prog 67 #[.slice A n c] w (fun e w' => ∃ A' c', e = .returned (.slice A' n c') ∧ Row w' w.heap.size 67 2 A' n c' (fcells fs) ∧ Below w.heap.size w w') := by
  cases A with
  | none =>
    obtain ⟨rfl, rfl⟩ := hnil rfl
    have hfs : fcells fs = [] := List.eq_nil_of_length_eq_zero (by simpa using hx.1)
    have HF := Lib.hid hfs
    clear hfs
    have he := fun w => Lib.run_eql_slice_nil (P := Tryd.prog) w 22 _ none 0 0 (h := Tryd.underlying22)
    go_enter Tryd.func67, Tryd.ntmps67
    go_wp2
    go_ret
    exact ⟨none, 0, rfl, by rw [HF.out]; exact Row.none_ _ _ _ _, Below.refl _ _⟩
  | some ad =>
    have he := fun w => Lib.run_eql_slice_nil (P := Tryd.prog) w 22 _ (some ad) n c (h := Tryd.underlying22)
    clear hnil
    go_enter Tryd.func67, Tryd.ntmps67
    go_wp2_with (at_builtin; refine appF _ rfl (.tmp 5) (.tmp 6) rfl w.heap.size _ 0 0 [] rfl (Row.empty _ _ _ _ _) (some ad) n c fs rfl (hx.alloc _) (by omega) (by simp) ?_; intro A1 c1 w1 hr1 ha1; simp only [Nat.zero_add, List.nil_append] at hr1)
    go_ret
    exact ⟨A1, c1, by simp, hr1, ((Below.refl _ _).alloc (Nat.le_refl _) _).trans (ha1.below (Row.empty _ _ 67 2 _) (by simp))⟩

theorem Row.nil {w : World} {base : Nat} {e : TypeId} {size : Nat} {A : Option Addr} {n c : Nat} {xs : List Value} (h : Row w base e size A n c xs) (hA : A = none) : n = 0 ∧ c = 0 := by
  subst hA
  rcases h with ⟨_, h | ⟨g, cap, cur, hv, _⟩⟩ | ⟨h1, h2, _⟩
  · obtain ⟨hv, h0⟩ := h
    cases hv
    exact ⟨rfl, rfl⟩
  · cases hv
  · exact ⟨h1, h2⟩

set_option maxHeartbeats 400000 in
theorem without_any (A : Option Addr) (n c : Nat) (fs : List FD) (X : Option Addr) (m d : Nat) (ns : List ByteArray) (w : World) (hn : n ≤ 1099511627776) (hl : fs.length = n) (hf : FSmall fs) (hx : Rd w A n 2 (fcells fs)) (hnil : A = none → n = 0 ∧ c = 0)
    (hm : m ≤ 1099511627776) (hml : ns.length = m) (hns : NSmall ns) (hX : Rd w X m 1 (scells ns)) :
    Calls Tryd.prog 45 #[.slice A n c, .slice X m d] w (RetRow w 67 2 (F.without fs ns).length (fcells (F.without fs ns))) := by
  have H0 : Names (w.alloc (.cells #[.slice X m d] 55)) X m d ns w.heap.size := ⟨hm, hml, hns, hX.alloc _, by simp⟩
  have HC := Lib.hid (clone_any A n c fs (w.alloc (.cells #[.slice X m d] 55)) hn (hx.alloc _) hnil)
  have HD := Lib.hid (fun (A' : Option Addr) (c' : Nat) (w1 : World) (h1 : Below (w.alloc (.cells #[.slice X m d] 55)).heap.size (w.alloc (.cells #[.slice X m d] 55)) w1) (h2 : Row w1 (w.alloc (.cells #[.slice X m d] 55)).heap.size 67 2 A' n c' (fcells fs)) =>
    delete_any A' n c' fs (w.alloc (.cells #[.slice X m d] 55)) X m d ns w.heap.size w1 hn hl hf H0 h1 h2)
  clear hl hml hns hnil H0 hf
  go_enter Tryd.func45, Tryd.ntmps45
  go_wp2_with fail
  refine HC.out.mono ?_
  rintro e w1 ⟨A1, c1, rfl, hr1, hb1⟩
  go_wp2_with fail
  refine (HD.out A1 c1 w1 hb1 hr1).mono ?_
  rintro e w2 ⟨A2, k, rfl, hk, hr2, hb2⟩
  have HK := Lib.hid hk
  clear hk
  go_wp2
  go_ret
  have hb12 := hb1.trans hb2
  refine ⟨A2, c1, ?_, ?_, below_new (Below.refl _ _) (Nat.le_refl _) hb12⟩
  · show Ending.returned _ = Ending.returned (.slice A2 (kept (among ns) fs).length c1)
    rw [← HK.out]; rfl
  · show Row w2 _ _ _ A2 (kept (among ns) fs).length c1 (fcells (kept (among ns) fs))
    rw [← HK.out]; exact hr2.mono (by simp)
end Go.Proofs.YtcoohkgamogmgaaDoor
