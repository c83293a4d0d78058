/- Rows of entries, and lists of a script's steps, in memory. No condition: plain lemmas. The walks of rec.Decode and of Replay at no bytes. No condition. The walks of the Store laws' cut and of SameTexts at two lists that are alike. Condition: at most 2^40 steps or texts. A store over a new disk where nothing fails. No program here. The disk that a new log leaves, and its store. No program here. -/
import Derived.Test.YtkempjcphpnocaaGreatDoorStoU
import Derived.Test.YtkempjcphpnocaaGreatDoorLogB
import Derived.RangeFuncBox
import Derived.RangeFuncNested
import Derived.RangeFuncLeaves
import Derived.OwnWalkIn
import Derived.TacticsInMore
import Derived.LoopIn
import Derived.Test.YtkempjcphpnocaaGreatDoorStoreR
import Derived.Test.YtkempjcphpnocaaGreatDoorZ09
namespace Go.Proofs.YtkempjcphpnocaaGreatDoor
open Go Go.RowKit Go.Maps

/-- An entry, and where its lists lie. -/
structure EP where
  E : O.Ent
  A : Option Addr
  c : Nat
  X : Option Addr
  d : Nat
def EP.v (p : EP) : Value := entV p.E p.A p.c p.X p.d
def ecells : List EP → List Value
  | [] => []
  | p :: t => .string p.E.k :: .string p.E.v :: .int .i64 p.E.s :: .string p.E.r :: .int .i64 p.E.m :: .slice p.A p.E.fs.length p.c :: .slice p.X p.E.body.length p.d :: .int .i64 p.E.asked :: .int .i64 p.E.got :: ecells t
theorem ecells_append : ∀ l m : List EP, ecells (l ++ m) = ecells l ++ ecells m
  | [], m => rfl
  | p :: t, m => by simp [ecells, ecells_append t m]
theorem ecells_one : ∀ l : List EP, ∀ u ∈ ecells l, u.oneCell' = true
  | [], u, h => by cases h
  | p :: t, u, h => by
    simp only [ecells, List.mem_cons] at h
    rcases h with rfl | rfl | rfl | rfl | rfl | rfl | rfl | rfl | rfl | h
    iterate 9 rfl
    exact ecells_one t u h
theorem ecells_at : ∀ (l : List EP) (k : Nat) (h : k < l.length), (ecells l)[k * 9]? = some (.string l[k].E.k) ∧ (ecells l)[k * 9 + 1]? = some (.string l[k].E.v) ∧ (ecells l)[k * 9 + 2]? = some (.int .i64 l[k].E.s) ∧ (ecells l)[k * 9 + 3]? = some (.string l[k].E.r) ∧ (ecells l)[k * 9 + 4]? = some (.int .i64 l[k].E.m) ∧ (ecells l)[k * 9 + 5]? = some (.slice l[k].A l[k].E.fs.length l[k].c) ∧ (ecells l)[k * 9 + 6]? = some (.slice l[k].X l[k].E.body.length l[k].d) ∧ (ecells l)[k * 9 + 7]? = some (.int .i64 l[k].E.asked) ∧ (ecells l)[k * 9 + 8]? = some (.int .i64 l[k].E.got)
  | p :: t, 0, _ => by simp [ecells]
  | p :: t, k + 1, h => by
    have := ecells_at t k (by simpa using h)
    have e : (k + 1) * 9 = k * 9 + 9 := by omega
    simp only [ecells, e, List.getElem_cons_succ]
    exact this
/-- What the nine cells of an entry hold. -/
def EAt (w : World) (b o : Nat) (p : EP) : Prop := w.cell? ⟨b, o, none⟩ = some (.string p.E.k) ∧ w.cell? ⟨b, o + 1, none⟩ = some (.string p.E.v) ∧ w.cell? ⟨b, o + 2, none⟩ = some (.int .i64 p.E.s) ∧ w.cell? ⟨b, o + 3, none⟩ = some (.string p.E.r) ∧ w.cell? ⟨b, o + 4, none⟩ = some (.int .i64 p.E.m) ∧ w.cell? ⟨b, o + 5, none⟩ = some (.slice p.A p.E.fs.length p.c) ∧ w.cell? ⟨b, o + 6, none⟩ = some (.slice p.X p.E.body.length p.d) ∧ w.cell? ⟨b, o + 7, none⟩ = some (.int .i64 p.E.asked) ∧ w.cell? ⟨b, o + 8, none⟩ = some (.int .i64 p.E.got)
theorem rd_ent {w : World} {A : Option Addr} {n k : Nat} {l : List EP} (h : Rd w A n 9 (ecells l)) (hk : k < n) (hl : l.length = n) : ∃ b o, A = some ⟨b, o, none⟩ ∧ b < w.heap.size ∧ EAt w b (o + k * 9) (l[k]'(by omega)) := by
  obtain ⟨b, o, rfl, hb, hc⟩ := h.2 (by omega)
  obtain ⟨h0, h1, h2, h3, h4, h5, h6, h7, h8⟩ := ecells_at l k (by omega)
  refine ⟨b, o, rfl, hb, hc _ _ h0, ?_, ?_, ?_, ?_, ?_, ?_, ?_, ?_⟩
  all_goals rw [Nat.add_assoc]
  · exact hc _ _ h1
  · exact hc _ _ h2
  · exact hc _ _ h3
  · exact hc _ _ h4
  · exact hc _ _ h5
  · exact hc _ _ h6
  · exact hc _ _ h7
  · exact hc _ _ h8
/-- An entry whose lists can be read; one whose lists are own. -/
def ERd (w : World) (p : EP) : Prop := Rd w p.A p.E.fs.length 2 (fcells p.E.fs) ∧ Rd w p.X p.E.body.length 1 (bcells p.E.body)
def EOwn (w : World) (base : Nat) (p : EP) : Prop := Row w base 167 2 p.A p.E.fs.length p.c (fcells p.E.fs) ∧ Row w base 5 1 p.X p.E.body.length p.d (bcells p.E.body)
section
variable {w w' : World} {base : Nat} {p : EP} {F F' : Nat → Prop}
theorem ERd.below (h : ERd w p) (hb : Below w.heap.size w w') : ERd w' p := ⟨h.1.below hb, h.2.below hb⟩
theorem EOwn.rd (h : EOwn w base p) : ERd w p := ⟨h.1.rd, h.2.rd⟩
theorem EOwn.below (h : EOwn w base p) (hb : Below w.heap.size w w') : EOwn w' base p := ⟨h.1.below hb, h.2.below hb⟩
theorem EOwn.mono (h : EOwn w base p) {b : Nat} (hb : b ≤ base) : EOwn w b p := ⟨h.1.mono hb, h.2.mono hb⟩
theorem EOwn.went (h : EOwn w base p) (hw : Went F w F' w') (hF : ∀ k, F k → k < base) : EOwn w' base p :=
  ⟨hw.row h.1 (fun k hk hf => by have := (h.1.lt k hk).1; have := hF k hf; omega), hw.row h.2 (fun k hk hf => by have := (h.2.lt k hk).1; have := hF k hf; omega)⟩
end
/-- A list of entries of the call's own. -/
structure ERow (w : World) (base : Nat) (A : Option Addr) (c : Nat) (l : List EP) : Prop where
  row : Row w base 28 9 A l.length c (ecells l)
  all : ∀ p ∈ l, EOwn w base p
section
variable {w w' w1 w2 : World} {base : Nat} {A : Option Addr} {c : Nat} {l : List EP} {F F' : Nat → Prop}
theorem ERow.nil (w : World) (base : Nat) (A : Option Addr) : ERow w base A 0 [] := ⟨Row.empty _ _ _ _ _, by simp⟩
theorem ERow.below (h : ERow w base A c l) (hb : Below w.heap.size w w') : ERow w' base A c l := ⟨h.row.below hb, fun p hp => (h.all p hp).below hb⟩
theorem ERow.went (h : ERow w base A c l) (hw : Went F w F' w') (hF : ∀ k, F k → k < base) : ERow w' base A c l :=
  ⟨hw.row h.row (fun k hk hf => by have := (h.row.lt k hk).1; have := hF k hf; omega), fun p hp => (h.all p hp).went hw hF⟩
/-- Behind an append of one entry. -/
theorem ERow.snoc {A' : Option Addr} {c' : Nat} {p : EP} (h : ERow w1 base A c l) (hx : EOwn w1 base p) (hr : Row w2 base 28 9 A' (l.length + 1) c' (ecells (l ++ [p]))) (ha : App w1 w2 A c A' c') : ERow w2 base A' c' (l ++ [p]) := by
  refine ⟨by rw [List.length_append]; exact hr, fun q hq => ?_⟩
  have hq1 : EOwn w1 base q := by
    rcases List.mem_append.1 hq with hm | hm
    · exact h.all q hm
    · rw [List.mem_singleton.1 hm]; exact hx
  exact ⟨hq1.1.keptG ha.grown (fun k hk e => (hq1.1.tag hk).ne (h.row.tag e) (by decide) rfl), hq1.2.keptG ha.grown (fun k hk e => (hq1.2.tag hk).ne (h.row.tag e) (by decide) rfl)⟩
end
theorem Tryz.infoEnt : (Tryz.prog.info? 28).map (fun i => (i.zero, i.size, i.bytes)) = some (some (.agg #[.string ⟨#[]⟩, .string ⟨#[]⟩, .int .i64 0, .string ⟨#[]⟩, .int .i64 0, .slice none 0 0, .slice none 0 0, .int .i64 0, .int .i64 0]), 9, 128) := by kernel_rfl
section
variable (w : World) {ops : Array Oper} {rest : List Oper} {o : Oper} {a : Act} {K : Act → World → Prop} {Q : Exit → Act → World → Prop}
theorem appEnt (hgd : o.guard = none) (s x : Operand) (ho : o.op = .call { callee := .builtin .append, args := #[s, x], argTypes := #[44, 44] })
    (base : Nat) (A : Option Addr) (n c : Nat) (xs : List EP) (hs : a.eval s = .slice A n c) (hown : Row w base 28 9 A n c (ecells xs))
    (S : Option Addr) (m d : Nat) (news : List EP) (hx : a.eval x = .slice S m d) (hr : Rd w S m 9 (ecells news)) (h63 : n + m ≤ 549755813888) (hbase : base ≤ w.heap.size)
    (h : ∀ A' c' w', Row w' base 28 9 A' (n + m) c' (ecells (xs ++ news)) → App w w' A c A' c' → wpList Tryz.prog ops Q rest (a.put o.dst (.slice A' (n + m) c')) w') : wpList Tryz.prog ops Q (o :: rest) a w := by
  refine wpList_plain hgd fun _ hK => ?_
  obtain ⟨i0, hi0, hz0, hz1, hz2⟩ := info_parts Tryz.infoEnt
  exact wp_app w s x _ ho _ i0 _ 9 128 Tryz.underlying44 hi0 hz0 hz1 hz2 rfl (by omega) base A n c _ hs hown S m d _ hx hr (ecells_one news) (by simp only [maxLen]; omega) (by omega) hbase (fun A' c' w' h2 h3 => hK _ _ (h A' c' w' (by rw [ecells_append]; exact h2) h3))
end
/-- A script's step: an entry and an Id. -/
def stcells : List (EP × ByteArray) → List Value
  | [] => []
  | p :: t => .string p.1.E.k :: .string p.1.E.v :: .int .i64 p.1.E.s :: .string p.1.E.r :: .int .i64 p.1.E.m :: .slice p.1.A p.1.E.fs.length p.1.c :: .slice p.1.X p.1.E.body.length p.1.d :: .int .i64 p.1.E.asked :: .int .i64 p.1.E.got :: .string p.2 :: stcells t
theorem stcells_length : ∀ l, (stcells l).length = l.length * 10
  | [] => rfl
  | p :: t => by simp [stcells, stcells_length t]; omega
theorem stcells_at : ∀ (l : List (EP × ByteArray)) (k : Nat) (h : k < l.length), (stcells l)[k * 10]? = some (.string l[k].1.E.k) ∧ (stcells l)[k * 10 + 1]? = some (.string l[k].1.E.v) ∧ (stcells l)[k * 10 + 2]? = some (.int .i64 l[k].1.E.s) ∧ (stcells l)[k * 10 + 3]? = some (.string l[k].1.E.r) ∧ (stcells l)[k * 10 + 4]? = some (.int .i64 l[k].1.E.m) ∧ (stcells l)[k * 10 + 5]? = some (.slice l[k].1.A l[k].1.E.fs.length l[k].1.c) ∧ (stcells l)[k * 10 + 6]? = some (.slice l[k].1.X l[k].1.E.body.length l[k].1.d) ∧ (stcells l)[k * 10 + 7]? = some (.int .i64 l[k].1.E.asked) ∧ (stcells l)[k * 10 + 8]? = some (.int .i64 l[k].1.E.got) ∧ (stcells l)[k * 10 + 9]? = some (.string l[k].2)
  | p :: t, 0, _ => by simp [stcells]
  | p :: t, k + 1, h => by
    have := stcells_at t k (by simpa using h)
    have e : (k + 1) * 10 = k * 10 + 10 := by omega
    simp only [stcells, e, List.getElem_cons_succ]
    exact this
theorem rd_step {w : World} {A : Option Addr} {n k : Nat} {l : List (EP × ByteArray)} (h : Rd w A n 10 (stcells l)) (hk : k < n) (hl : l.length = n) : ∃ b o, A = some ⟨b, o, none⟩ ∧ b < w.heap.size ∧ EAt w b (o + k * 10) (l[k]'(by omega)).1 ∧ w.cell? ⟨b, o + k * 10 + 9, none⟩ = some (.string (l[k]'(by omega)).2) := by
  obtain ⟨b, o, rfl, hb, hc⟩ := h.2 (by omega)
  obtain ⟨h0, h1, h2, h3, h4, h5, h6, h7, h8, h9⟩ := stcells_at l k (by omega)
  refine ⟨b, o, rfl, hb, ⟨hc _ _ h0, ?_, ?_, ?_, ?_, ?_, ?_, ?_, ?_⟩, ?_⟩
  all_goals rw [Nat.add_assoc]
  · exact hc _ _ h1
  · exact hc _ _ h2
  · exact hc _ _ h3
  · exact hc _ _ h4
  · exact hc _ _ h5
  · exact hc _ _ h6
  · exact hc _ _ h7
  · exact hc _ _ h8
  · exact hc _ _ h9
theorem rd_cut {w : World} {A : Option Addr} {n k : Nat} {l : List (EP × ByteArray)} (h : Rd w A n 10 (stcells l)) (hl : l.length = n) (hk : k ≤ n) : Rd w A k 10 (stcells (l.take k)) := by
  refine ⟨by rw [stcells_length, List.length_take]; omega, fun hk0 => ?_⟩
  obtain ⟨b, o, rfl, hb, hc⟩ := h.2 (by omega)
  refine ⟨b, o, rfl, hb, fun j u hu => hc j u ?_⟩
  have hsplit : stcells l = stcells (l.take k) ++ stcells (l.drop k) := by
    have : ∀ a b : List (EP × ByteArray), stcells (a ++ b) = stcells a ++ stcells b := by
      intro a b
      induction a with
      | nil => rfl
      | cons x t ih => simp [stcells, ih]
    rw [← this, List.take_append_drop]
  rw [hsplit, List.getElem?_append_left (List.getElem?_eq_some_iff.1 hu).1]
  exact hu
end Go.Proofs.YtkempjcphpnocaaGreatDoor

namespace Go.Proofs.YtkempjcphpnocaaGreatDoor
open Go Go.RowKit Go.Maps

def recV (r : R.Rc) : Value := .agg #[.int .i64 r.seq, .int .i64 r.op, .int .i64 r.no, .string r.id]
set_option maxHeartbeats 1000000 in
theorem rdec0_any (A : Option Addr) (c : Nat) (w : World) : Calls Tryz.prog 120 #[.slice A 0 c] w (fun e w' => e = .returned (.tuple #[recV R.Rc.zero, .int .i64 0, .int .i64 0]) ∧ Below w.heap.size w w') := by
  have HK := Lib.hid (Blk.new w #[.int .i64 0, .int .i64 0, .int .i64 0, .string ⟨#[]⟩] 89)
  have HB := Lib.hid ((Below.refl w.heap.size w).alloc (Nat.le_refl _) (.cells #[.int .i64 0, .int .i64 0, .int .i64 0, .string ⟨#[]⟩] 89))
  go_enter Tryz.func120, Tryz.ntmps120
  go_wp2
  obtain ⟨z0, z1, z2, z3⟩ := HK.out.cells4
  (try simp only [Exit.inBlock, Exit.then])
  refine bodyPost_ret (v := .tuple #[recV R.Rc.zero, .int .i64 0, .int .i64 0]) (by simp [results, Tryz.results120, go_sem, z0, z1, z2, z3, recV, R.Rc.zero]) rfl ?_
  exact ⟨rfl, HB.out⟩
set_option maxHeartbeats 1000000 in
theorem recs0_any (l bx : Nat) (c : Nat) (A : Option Addr) (hA : A = none → c = 0) (w : World) (hc : w.cell? ⟨bx, 0, none⟩ = some (.slice A 0 c)) :
    Calls Tryz.prog 119 #[.func (.yield l) #[] #[], .pointer (some ⟨bx, 0, none⟩)] w (fun e w' => (∃ v, e = .returned v) ∧ w.grownBy w' none) := by
  have HC := Lib.hid (fun A c u => rdec0_any A c u)
  by_cases h0 : c = 0
  · subst h0
    go_enter Tryz.func119, Tryz.ntmps119
    go_wp2
    go_loopw [3, 4] (fun a b wr => a = .int .i64 0 ∧ b = .int .i64 0 ∧ wr = w) (fun _ _ _ => 0)
    case atStart => exact ⟨rfl, rfl, rfl⟩
    case round =>
      obtain ⟨rfl, rfl, rfl⟩ := hrel
      go_wp2_with fail
      refine (HC.out _ _ _).mono ?_
      rintro e w1 ⟨rfl, hb⟩
      have hg : wr.grownBy w1 none := ⟨hb.os, hb.tape, hb.output, hb.size, fun k hk _ => hb.block k hk⟩
      have HG := Lib.hid (hg.trans (World.grownBy_alloc w1 (.cells #[.int .i64 0, .int .i64 0, .int .i64 0, .string ⟨#[]⟩] 89) none))
      have HK := Lib.hid (Blk.new w1 #[.int .i64 0, .int .i64 0, .int .i64 0, .string ⟨#[]⟩] 89)
      clear hb hg HC
      unfold recV R.Rc.zero
      go_wp2
      refine bodyPost_ret (results_none rfl _ _ _) rfl ?_
      exact ⟨⟨_, rfl⟩, HG.out⟩
  · obtain ⟨⟨b, o, f⟩, rfl⟩ : ∃ a, A = some a := by
      cases A with
      | none => exact absurd (hA rfl) h0
      | some a => exact ⟨a, rfl⟩
    have hcp : 0 < c := by omega
    go_enter Tryz.func119, Tryz.ntmps119
    go_wp2
    go_loopw [3, 4] (fun a b wr => a = .int .i64 0 ∧ b = .int .i64 0 ∧ wr = w) (fun _ _ _ => 0)
    case atStart => exact ⟨rfl, rfl, rfl⟩
    case round =>
      obtain ⟨rfl, rfl, rfl⟩ := hrel
      go_wp2_with fail
      refine (HC.out _ _ _).mono ?_
      rintro e w1 ⟨rfl, hb⟩
      have hg : wr.grownBy w1 none := ⟨hb.os, hb.tape, hb.output, hb.size, fun k hk _ => hb.block k hk⟩
      have HG := Lib.hid (hg.trans (World.grownBy_alloc w1 (.cells #[.int .i64 0, .int .i64 0, .int .i64 0, .string ⟨#[]⟩] 89) none))
      have HK := Lib.hid (Blk.new w1 #[.int .i64 0, .int .i64 0, .int .i64 0, .string ⟨#[]⟩] 89)
      clear hb hg HC
      unfold recV R.Rc.zero
      go_wp2
      refine bodyPost_ret (results_none rfl _ _ _) rfl ?_
      exact ⟨⟨_, rfl⟩, HG.out⟩
set_option maxHeartbeats 1000000 in
theorem srecords_any (A : Option Addr) (n c : Nat) (w : World) :
    Calls Tryz.prog 97 #[.slice A n c] w (fun e w' => e = .returned (.func (.func 119) #[] #[.pointer (some ⟨w.heap.size, 0, none⟩)]) ∧ w' = w.alloc (.cells #[.slice A n c] 26)) := by
  go_enter Tryz.func97, Tryz.ntmps97
  go_wp2
  go_ret
  exact ⟨rfl, rfl⟩
theorem recs0_stops (n bx n₀ : Nat) (A : Option Addr) (c : Nat) (hA : A = none → c = 0) (w : World) (hB : bx < w.heap.size) (hc : w.cell? ⟨bx, 0, none⟩ = some (.slice A 0 c)) :
    SeqStopsK Fence.wide n Tryz.prog 119 #[.pointer (some ⟨bx, 0, none⟩)] (fun x : Empty => x.elim) (Below n₀) (fun ys => ys = []) (fun _ => False) 0 w := fun l J Jx W hW hJ _ _ h0 =>
  callsIn_wide.2 ((recs0_any l bx c A hA W ((hW.cell (p := ⟨bx, 0, none⟩) hB).trans hc)).mono fun e w' h => ⟨h.1, .inl ⟨[], rfl, hJ [] W w' none h0 h.2 (fun r hr => by cases hr)⟩⟩)
set_option maxRecDepth 100000 in
set_option maxHeartbeats 2000000 in
/-- Replay of no bytes: no records. -/
theorem replay0_any (A : Option Addr) (c : Nat) (hA : A = none → c = 0) (w : World) :
    Calls Tryz.prog 64 #[.slice A 0 c] w (fun e w' => e = .returned (.tuple #[.slice none 0 0, .int .i64 0]) ∧ Below w.heap.size w w') := by
  refine (callsIn_wide (n := 9)).1 ?_
  refine callsIn_of_wp_marks Tryz.func64 rfl trivial ?_ rfl
  simp only [Tryz.ntmps64, List.size_toArray, List.length_cons, List.length_nil, Nat.reduceAdd, Nat.reduceSub, Array.replicate_succ, Array.replicate_zero, List.push_toArray, List.append_toArray, List.nil_append, List.cons_append]
  gi_wp2_with fail
  refine ⟨trivial, (callsIn_wide.2 (srecords_any _ _ _ _)).mono ?_⟩
  rintro e w' ⟨rfl, rfl⟩
  gi_wp2_with fail
  have bO : Boxed ((w.alloc (.cells #[.slice none 0 0] 81)).alloc (.cells #[.int .i64 0] 3)) w.heap.size 81 (.slice none 0 0) := (Boxed.new w 81 (.slice none 0 0)).alloc _
  have bN : Boxed ((w.alloc (.cells #[.slice none 0 0] 81)).alloc (.cells #[.int .i64 0] 3)) (w.heap.size + 1) 3 (.int .i64 0) := by
    have := Boxed.new (w.alloc (.cells #[.slice none 0 0] 81)) 3 (.int .i64 0)
    rwa [World.size_alloc] at this
  have bX : Boxed (((w.alloc (.cells #[.slice none 0 0] 81)).alloc (.cells #[.int .i64 0] 3)).alloc (.cells #[.slice A 0 c] 26)) (w.heap.size + 2) 26 (.slice A 0 c) := by
    have := Boxed.new ((w.alloc (.cells #[.slice none 0 0] 81)).alloc (.cells #[.int .i64 0] 3)) 26 (.slice A 0 c)
    rwa [World.size_alloc, World.size_alloc] at this
  have hB0 : Below w.heap.size w (((w.alloc (.cells #[.slice none 0 0] 81)).alloc (.cells #[.int .i64 0] 3)).alloc (.cells #[.slice A 0 c] 26)) := (((Below.refl _ w).alloc (Nat.le_refl _) _).alloc (by simp only [World.size_alloc]; omega) _).alloc (by simp only [World.size_alloc]; omega) _
  have bO1 := bO.alloc (.cells #[.slice A 0 c] 26)
  have bN1 := bN.alloc (.cells #[.slice A 0 c] 26)
  clear bO bN
  refine wpIn_rangeFunc_ownG rfl (by decide) (gf := 119) (lb := #[.pointer (some ⟨w.heap.size + 2, 0, none⟩)]) rfl trivial (enters_of Tryz.func119 (by kernel_rfl) rfl)
    (recs0_stops 8 (w.heap.size + 2) w.heap.size A c hA _ (by simp) bX.cell) belowK_t (belowK_b (by simp only [World.size_alloc]; omega)) (Below.refl _ _) (fun x => x.elim)
    (fun _ W => (Boxed W w.heap.size 81 (.slice none 0 0) ∧ Boxed W (w.heap.size + 1) 3 (.int .i64 0)) ∧ Below w.heap.size w W)
    (fun _ _ _ => False)
    (OwnFrom.and (OwnFrom.and (Own.from (boxed_own w.heap.size 81 (fun _ => .slice none 0 0)) _) (Own.from (boxed_own (w.heap.size + 1) 3 (fun _ => .int .i64 0)) _)) (ownFrom_below (Nat.le_refl _) (by simp only [World.size_alloc]; omega)))
    (fun _ _ _ _ _ hs _ _ => hs)
    ⟨⟨bO1, bN1⟩, hB0⟩
    (fun x => x.elim) (fun _ x => x.elim) (fun _ _ x => x.elim) ?done ?stop
  case done =>
    rintro D ys W hD rfl ⟨⟨hO, hN⟩, hB⟩ hK
    have hc := hO.cell
    have hn := hN.cell
    gi_wp2_with fail
    refine wpIn_wide.2 ?_
    go_region
    all_goals gi_wp2
    have hK2 : W.drew.heap[D]? = some (.deferred (some [])) := hK
    refine ⟨by simp, .inl ⟨_, _, rfl, run_takeDeferred hK2, ?_⟩⟩
    refine ⟨_, results_tmp2 rfl _ _ _, rfl, hB.drew.trans (belowK_b (w := w) (Nat.le_refl _) W.drew D _ _ (by simp only [World.size_alloc] at hD; omega) hK2 rfl rfl)⟩
  case stop =>
    rintro D c pre W _ _ h _
    exact h.elim
end Go.Proofs.YtkempjcphpnocaaGreatDoor

namespace Go.Proofs.YtkempjcphpnocaaGreatDoor
open Go Go.RowKit Go.Maps

/-- What cut answers: the first sixty steps. -/
def RetScript (w : World) (A : Option Addr) (l : List (EP × ByteArray)) (e : Ending) (w' : World) : Prop := ∃ c, e = .returned (.slice A (l.take 60).length c) ∧ w' = w
set_option maxHeartbeats 1000000 in
theorem lcut_any (A : Option Addr) (n c : Nat) (l : List (EP × ByteArray)) (w : World) (hl : l.length = n) (hnc : n ≤ c) (hn : n ≤ 1099511627776) (hA : A = none → n = 0) : Calls Tryz.prog 9 #[.slice A n c] w (RetScript w A l) := by
  subst hl
  by_cases h : 60 < l.length
  · have h1 : (l.length : Int) > 60 := by omega
    have h60 : (l.take 60).length = 60 := by rw [List.length_take]; omega
    obtain ⟨⟨b, o, f⟩, rfl⟩ : ∃ a, A = some a := by
      cases A with
      | none => exact absurd (hA rfl) (by omega)
      | some a => exact ⟨a, rfl⟩
    go_enter Tryz.func9, Tryz.ntmps9
    go_wp2
    go_ret
    exact ⟨_, by rw [h60] <;> rfl, rfl⟩
  · have h1 : ¬ (l.length : Int) > 60 := by omega
    have h60 : (l.take 60).length = l.length := by rw [List.length_take]; omega
    go_enter Tryz.func9, Tryz.ntmps9
    go_wp2
    go_ret
    exact ⟨c, by rw [h60] <;> rfl, rfl⟩
set_option maxHeartbeats 2000000 in
theorem sameTexts_any (A A2 : Option Addr) (n c c2 : Nat) (l : List ByteArray) (w : World) (hl : l.length = n) (hn : n ≤ 1099511627776) (hx : Rd w A n 1 (scells l)) (hy : Rd w A2 n 1 (scells l)) : Calls Tryz.prog 15 #[.slice A n c, .slice A2 n c2] w (RetB w true) := by
  subst hl
  have HX := Lib.hid hx
  have HY := Lib.hid hy
  clear hx hy
  go_enter Tryz.func15, Tryz.ntmps15
  go_wp2_with fail
  go_loopw [5] (fun i wr => ∃ k : Nat, k ≤ l.length ∧ i = .int .i64 k ∧ Below w.heap.size w wr) (fun i _ => l.length - (intOf i).toNat)
  case atStart => exact ⟨0, Nat.zero_le _, rfl, Below.refl _ _⟩
  case round =>
    obtain ⟨k, hk, rfl, hb⟩ := hrel
    have HB := Lib.hid hb
    obtain ⟨wo, rfl⟩ : ∃ wo : World, wo = wr := ⟨_, rfl⟩
    by_cases hlt : k < l.length
    · obtain ⟨b, o, rfl, hb1, y0⟩ := (HX.out.below hb).str hlt rfl
      obtain ⟨b2, o2, rfl, hb2, y1⟩ := (HY.out.below hb).str hlt rfl
      generalize l[k]'hlt = nm at *
      have hne : (nm.data.toList != nm.data.toList) = false := by simp
      clear hb
      go_upto_region 6 with fail
      go_region
      go_wp2
      go_roundw
      case rel => exact ⟨k + 1, by omega, by go_num, HB.out.drew⟩
      case measure => simp [intOf]; omega
    · have hke : k = l.length := by omega
      subst hke
      go_wp2
      go_ret
      exact ⟨rfl, HB.out⟩
end Go.Proofs.YtkempjcphpnocaaGreatDoor

namespace Go.Proofs.YtkempjcphpnocaaGreatDoor

namespace S
open D (cont Clm)
/-- A disk without files. -/
def fresh (room : Int) : D.Dsk := ⟨[], [], [], [], [], room, [], -1, 0⟩
theorem fresh_calm {room : Int} (h : 0 ≤ room) : Clm (fresh room) :=
  ⟨rfl, rfl, ⟨rfl, List.Pairwise.nil, List.Pairwise.nil, (fun _ h => by cases h), (fun _ h => by cases h), (fun _ h => by cases h), rfl, fun _ h => absurd h (Nat.not_lt_zero _)⟩, (fun _ h => by cases h), h⟩
theorem fresh_fit {room : Int} (h : 0 ≤ room ∧ room ≤ 1073741824) : D.Fit 0 (fresh room) :=
  ⟨(fresh_calm h.1).ok, Int.le_refl _, Int.le_refl _, Nat.le_refl _, Nat.le_refl _, Nat.le_refl _, Nat.zero_le _, h, fun no => by unfold D.Dsk.size fresh; simp⟩
theorem marks_len (n : Nat) (t : D.NM) : (marks n t).length = n := by unfold marks; simp
end S
end Go.Proofs.YtkempjcphpnocaaGreatDoor

namespace Go.Proofs.YtkempjcphpnocaaGreatDoor

namespace S
open D (cont Clm)
/-- A new disk behind the laying of its log. -/
def born (room : Int) : D.Dsk := (((fresh room).create logN).1.sync logN).1.syncNames.1
theorem born_facts {room : Int} (h0 : 0 ≤ room) : steps (fresh room) firsts = (born room, 3, 0) ∧ has (fresh room).list newN = false ∧ (fresh room).read logN = ([], 90) ∧ (∀ nm ∈ (born room).list, isO nm = false ∧ nm.size ≤ 4096) ∧ ∀ n : Nat, n ≤ 4096 → Inv ⟨born room, 0, [], marks n []⟩ := by
  have h := fresh_calm h0
  have hc : ∀ x, cont (fresh room) x = none := fun _ => rfl
  obtain ⟨e1, c1, k1⟩ := h.create log_good (hc _)
  obtain ⟨e2, c2, k2⟩ := c1.sync log_good (c := []) (by rw [k1, if_pos rfl])
  obtain ⟨e3, c3, k3⟩ := c2.syncNames
  have k : ∀ x, cont (born room) x = if x = logN then some [] else none := fun x => by unfold born; rw [k3, k2, k1, hc]
  refine ⟨by simp [steps, firsts, e1, e2, e3, born], rfl, by rw [h.read log_good, hc], fun nm hm => ?_, fun n hn => ⟨c3, ⟨[], by show cont (born room) _ = _; rw [k, if_pos rfl]⟩, by show cont (born room) _ = _; rw [k, if_neg new_log], List.Pairwise.nil, by show (marks n []).length ≤ _; rw [marks_len]; omega, (fun _ h => by cases h), (fun _ h => by cases h), fun no hn hi => ?_⟩⟩
  · have := c3.mem (x := nm)
    have hm2 := this.1 hm
    have h3 : (cont (born room) nm).isSome = true := hm2
    rw [k] at h3
    by_cases e : nm = logN
    · rw [e]; exact ⟨by decide, by decide⟩
    · rw [if_neg e] at h3; cases h3
  · change (cont (born room) _).isSome = true at hi
    rw [k, if_neg (path_log hn)] at hi
    cases hi
theorem born_fit {room : Int} (h : 0 ≤ room ∧ room ≤ 1073741824) : D.Fit 3 (born room) := by
  have := steps_fit firsts firsts_fit (fresh_fit h)
  rw [(born_facts h.1).1] at this
  exact this
theorem marks_rep (n : Nat) : marks n [] = List.replicate n false := by
  unfold marks
  have := List.map_const' (l := List.range n) (b := false)
  rw [List.length_range] at this
  exact this
end S
end Go.Proofs.YtkempjcphpnocaaGreatDoor
