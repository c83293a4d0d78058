/- A text's bytes appended to a list of bytes that the call owns: both ways. No condition: a law of the walk. trial The walks of tok: Fold, and of the document's Lower. The walks of tok.Trim, split, List, and of the document's Trim, Pieces, List. The walks of tok.List, and of the document's Trim and List. -/
import Derived.Test.YtkempjcphpnocaaGreatDoorRowA
import Derived.Test.YtkempjcphpnocaaGreatDoorLib
import Derived.Test.YtkempjcphpnocaaGreatDoorZ16
import Derived.Test.YtkempjcphpnocaaGreatDoorShelf
import Derived.Shelf.Strings.SlTrimAscii
namespace Go.Proofs.YtkempjcphpnocaaGreatDoor
open Go Go.RowKit

theorem scell_bytes (s : ByteArray) : (Array.map (fun b : UInt8 => Value.int IntKind.u8 (b.toNat : Int)) s.data) = (bcells (L s)).toArray := by
  apply Array.ext'
  simp [bcells, L]
theorem extract_all (s : ByteArray) : (Array.map (fun b : UInt8 => Value.int IntKind.u8 (b.toNat : Int)) s.data).extract 0 s.size = (bcells (L s)).toArray := by
  rw [← scell_bytes]
  have hs : s.size = (Array.map (fun b : UInt8 => Value.int IntKind.u8 (b.toNat : Int)) s.data).size := by rw [Array.size_map]; rfl
  rw [hs, Array.extract_size]
section
variable {P : Program} (w : World)
theorem run_appStr (t u ty e : TypeId) (i : TypeInfo) (z : Value) (ht : P.underlying t = some (.slice e)) (hu : P.underlying u = some .string) (hi : P.info? e = some i) (hz : i.zero = some z)
    (hsize : i.size = 1) (hby : i.bytes = 1) (hzs : z.cells.size = 1) (hE : e = 5)
    (base g n c : Nat) (bs : List UInt8) (hc0 : c ≠ 0) (hown : CRow w base (some ⟨g, 0, none⟩) n c bs)
    (s : ByteArray) (h63 : n + s.size ≤ 4398046511104) (hbase : base ≤ w.heap.size) :
    ∃ A' c' w', (Builtin.append_ #[t, u] ty #[.slice (some ⟨g, 0, none⟩) n c, .string s]).run P w = .ok (.slice A' (n + s.size) c') w' ∧ CRow w' base A' (n + s.size) c' (bs ++ L s) ∧ App w w' (some ⟨g, 0, none⟩) c A' c' := by
  obtain ⟨hl, hnc, hcase⟩ := hown
  rcases hcase with h | ⟨g2, hg2, hB, hg, hf, hcl⟩
  · exact absurd h hc0
  have hgg : g2 = g := by
    injection hg2 with h
    injection h with h
    exact h.symm
  subst hgg
  have hnl : (bcells (L s)).length = s.size := by rw [bcells_length, L_size]
  have hLs : (L s).length = s.size := (L_size s).symm
  by_cases hroom : n + s.size ≤ c
  · have hst := run_storeCells_cells (P := P) g2 n (bcells (L s)) 0 w (fun j hj => by simp at hj ⊢; exact (hf _ (by omega)).1) (fun j hj => by simp at hj ⊢; exact (hf _ (by omega)).2) (bcells_one _)
    simp only [Nat.add_zero] at hst
    have hrun : (Builtin.append_ #[t, u] ty #[.slice (some ⟨g2, 0, none⟩) n c, .string s]).run P w = .ok (.slice (some ⟨g2, 0, none⟩) (n + s.size) c) (w.setCells g2 n (bcells (L s))) := by
      have hx := extract_all s
      simp [Builtin.append_, run_underlying ht, run_underlying hu, sizeOf, typeInfo, hi, hsize, Builtin.lenOf, Builtin.firstCells, hroom, Addr.add_lit, hx, hst]
    have hsome : ∀ j, j < (bcells (L s)).length → (w.cell? ⟨g2, n + j, none⟩).isSome = true := fun j hj => (hf _ (by omega)).1
    have hsz : ∀ (vs : List Value) (o : Nat) (u : World), (u.setCells g2 o vs).heap.size = u.heap.size := by
      intro vs
      induction vs with
      | nil => intro o u; rfl
      | cons v vs ih =>
        intro o u
        show ((u.setCell ⟨g2, o, none⟩ v).setCells g2 (o + 1) vs).heap.size = _
        rw [ih]
        simp [World.setCell]
    have hoth : ∀ (vs : List Value) (o : Nat) (u : World) (k : Nat), k ≠ g2 → (u.setCells g2 o vs).heap[k]? = u.heap[k]? := by
      intro vs
      induction vs with
      | nil => intro o u k _; rfl
      | cons v vs ih =>
        intro o u k hk
        show ((u.setCell ⟨g2, o, none⟩ v).setCells g2 (o + 1) vs).heap[k]? = _
        rw [ih _ _ k hk]
        unfold World.setCell
        simp only [Array.getElem?_modify]
        rw [if_neg (Ne.symm hk)]
    refine ⟨_, c, _, hrun, ⟨by rw [List.length_append, hl, hLs], hroom, .inr ⟨g2, rfl, hB, by rw [hsz]; exact hg, fun j hj => ⟨?_, ?_⟩, fun j u hu => ?_⟩⟩, ⟨?_, .inl ⟨rfl, rfl⟩⟩⟩
    · by_cases hin : n ≤ j ∧ j < n + (bcells (L s)).length
      · have := World.cell?_setCells_in g2 (bcells (L s)) n w hsome (j - n) (by omega)
        rw [show n + (j - n) = j from by omega] at this
        rw [this]; rfl
      · rw [World.cell?_setCells_out g2 (bcells (L s)) n w ⟨g2, j, none⟩ (fun _ _ => by simp only; omega)]
        exact (hf j hj).1
    · rw [World.frozen?_setCells]; exact (hf j hj).2
    · have e : bcells (bs ++ L s) = bcells bs ++ bcells (L s) := bcells_append bs (L s)
      rw [e] at hu
      have hbl : (bcells bs).length = n := by simp [bcells, hl]
      by_cases hin : j < n
      · rw [List.getElem?_append_left (by omega)] at hu
        rw [World.cell?_setCells_out g2 (bcells (L s)) n w ⟨g2, j, none⟩ (fun _ _ => by simp only; omega)]
        exact hcl j u hu
      · rw [List.getElem?_append_right (by omega), hbl] at hu
        have hj := (List.getElem?_eq_some_iff.1 hu).1
        have := World.cell?_setCells_in g2 (bcells (L s)) n w hsome (j - n) hj
        rw [show n + (j - n) = j from by omega] at this
        rw [this, ← (List.getElem?_eq_some_iff.1 hu).2]
    · have hob : ownB (some ⟨g2, 0, none⟩) c = some g2 := by unfold ownB; rw [if_neg hc0]; rfl
      rw [hob]
      have hfl : ∀ (vs : List Value) (o : Nat) (u : World), (u.setCells g2 o vs).os = u.os ∧ (u.setCells g2 o vs).tape = u.tape ∧ (u.setCells g2 o vs).output = u.output := by
        intro vs
        induction vs with
        | nil => intro o u; exact ⟨rfl, rfl, rfl⟩
        | cons v vs ih =>
          intro o u
          have := ih (o + 1) (u.setCell ⟨g2, o, none⟩ v)
          exact ⟨this.1, this.2.1, this.2.2⟩
      exact ⟨(hfl _ _ _).1, (hfl _ _ _).2.1, (hfl _ _ _).2.2, by rw [hsz]; exact Nat.le_refl _, fun k _ hne => hoth _ _ _ k (fun e => hne (by rw [e]))⟩
  · have hn : ¬ (n + s.size ≤ c) := hroom
    have h63' : ¬ (9223372036854775807 < ((n : Int) + (s.size : Int))) := by omega
    have hfit : Builtin.nextslicecap (n + s.size) c * i.bytes ≤ 281474976710656 := growslice_fits (by omega) (by rw [hby]; omega)
    have h48' : ¬ (281474976710656 < Builtin.nextslicecap (n + s.size) c * i.bytes) := by omega
    have hfo := run_firstCells_some (P := P) w.drew i.size n ⟨g2, 0, none⟩ n c (bcells bs) (by rw [hsize, bcells_length, hl, Nat.mul_one]) (fun j v hv => by
      have : (⟨g2, 0, none⟩ : Addr).add j = ⟨g2, 0 + j, none⟩ := by unfold Addr.add; split <;> simp_all
      rw [this, Nat.zero_add]
      simpa using hcl j v hv)
    have hge := grownCap_ge w (n + s.size) c e
    have hcm : grownCap w (n + s.size) c e ≤ maxLen := grownCap_le_maxLen w (n + s.size) c e (by simp only [maxLen]; omega)
    obtain ⟨cs, hcs⟩ : ∃ cs, cs = (bcells bs ++ bcells (L s)).toArray ++ Builtin.zeroCells z.cells (grownCap w (n + s.size) c e - (n + s.size)) := ⟨_, rfl⟩
    have hrun : (Builtin.append_ #[t, u] ty #[.slice (some ⟨g2, 0, none⟩) n c, .string s]).run P w = .ok (.slice (some ⟨w.heap.size, 0, none⟩) (n + s.size) (grownCap w (n + s.size) c e)) (w.drew.alloc (.cells cs e)) := by
      have hx := extract_all s
      simp [Builtin.append_, run_underlying ht, run_underlying hu, sizeOf, typeInfo, zeroValue, hi, hz, Builtin.lenOf, hn, h63', h48', Question.forced, hfo, newRow, grownCap]
      simp [Builtin.firstCells, hcs, grownCap, scell_bytes]
      rw [← Array.append_assoc, show (bcells bs).toArray ++ (bcells (L s)).toArray = (bcells bs ++ bcells (L s)).toArray by simp]
    have hrow : (w.drew.alloc (.cells cs e)).heap[w.heap.size]? = some (.cells cs e (0, 0)) := heap_alloc_new w.drew _
    have hl2 : (bcells bs ++ bcells (L s)).length = n + s.size := by rw [List.length_append, bcells_length, hl, hnl]
    have hcsz : cs.size = grownCap w (n + s.size) c e := by
      rw [hcs, Array.size_append, List.size_toArray, size_zeroCells, hzs, hl2]
      omega
    have hown : (w.drew.alloc (.cells cs e)).ownsRow w.heap.size e 1 (.slice (some ⟨w.heap.size, 0, none⟩) (n + s.size) (grownCap w (n + s.size) c e)) (n + s.size) (bcells bs ++ bcells (L s)) := by
      refine ⟨by rw [hl2, Nat.mul_one], .inr ⟨w.heap.size, _, _, rfl, Nat.le_refl _, hrow, hge, hcm, by rw [hcsz, Nat.mul_one], ?_⟩⟩
      rw [hcs, Array.toList_append, Nat.mul_one]
      have h9 : (bcells bs ++ bcells (L s)).toArray.toList.length = n + s.size := by simpa using hl2
      rw [← h9]
      exact List.take_left
    subst hE
    have hgr : World.grownBy w (w.drew.alloc (.cells cs 5)) (ownB (some ⟨g2, 0, none⟩) c) := ⟨rfl, rfl, rfl, by simp, fun k hk _ => Below.heap_alloc w.drew _ k hk⟩
    refine ⟨_, _, _, hrun, (Row.crow (.inl ?_)).mono hbase, ⟨hgr, .inr ⟨_, rfl, Nat.le_refl _⟩⟩⟩
    rw [bcells_append]
    exact hown
end
section
variable (w : World) {ops : Array Oper} {rest : List Oper} {o : Oper} {a : Act} {K : Act → World → Prop} {Q : Exit → Act → World → Prop}
theorem Tryz.undStr : Tryz.prog.underlying 9 = some .string := by kernel_rfl
theorem appStr (hgd : o.guard = none) (s x : Operand) (ho : o.op = .call { callee := .builtin .append, args := #[s, x], argTypes := #[26, 9] })
    (base g n c : Nat) (xs : List UInt8) (hs : a.eval s = .slice (some ⟨g, 0, none⟩) n c) (hc0 : c ≠ 0) (hown : CRow w base (some ⟨g, 0, none⟩) n c xs)
    (str : ByteArray) (hx : a.eval x = .string str) (h63 : n + str.size ≤ 4398046511104) (hbase : base ≤ w.heap.size)
    (h : ∀ A' c' w', CRow w' base A' (n + str.size) c' (xs ++ L str) → App w w' (some ⟨g, 0, none⟩) c A' c' → wpList Tryz.prog ops Q rest (a.put o.dst (.slice A' (n + str.size) c')) w') : wpList Tryz.prog ops Q (o :: rest) a w :=
  wpList_plain hgd fun K hK => by
    obtain ⟨i0, hi0, hz0, hz1, hz2⟩ := info_parts Tryz.infoB
    obtain ⟨A', c', w', hrun, h2, h3⟩ := run_appStr (P := Tryz.prog) w 26 9 o.type 5 i0 _ Tryz.underlying26 Tryz.undStr hi0 hz0 hz1 hz2 rfl rfl base g n c xs hc0 hown str h63 hbase
    unfold Oper.wp execOp
    simp only [ho, resolve, invoke, builtin, Sem.run_bind, Sem.run_pure, Result.andThen_ok, List.map_toArray, List.map_cons, List.map_nil, hs, hx, hrun]
    exact hK _ _ (h A' c' w' h2 h3)
end
end Go.Proofs.YtkempjcphpnocaaGreatDoor

namespace Go.Proofs.YtkempjcphpnocaaGreatDoor
open Go.RowKit

set_option maxHeartbeats 400000 in
theorem sameFields_any (A B : Option Addr) (n m c d : Nat) (xs ys : List FD) (w : World) (hn : n ≤ 1099511627776) (hm : m ≤ 1099511627776) (hx : Rd w A n 2 (fcells xs)) (hy : Rd w B m 2 (fcells ys)) (hxl : xs.length = n) (hyl : ys.length = m) :
    Calls Tryz.prog 86 #[.slice A n c, .slice B m d] w (RetB w (decide (xs = ys))) := by
  have HX := Lib.hid hxl
  have HY := Lib.hid hyl
  clear hxl hyl
  by_cases hnm : n = m
  · subst hnm
    go_enter Tryz.func86, Tryz.ntmps86
    go_wp2
    go_loopw [5] (fun i wr => ∃ k : Nat, k ≤ n ∧ i = .int .i64 k ∧ xs.take k = ys.take k ∧ ∃ q, wr = w.drewN q) (fun i _ => n - (intOf i).toNat)
    case atStart => exact ⟨0, Nat.zero_le _, rfl, rfl, 0, rfl⟩
    case round =>
      obtain ⟨k, hk, rfl, he, q, rfl⟩ := hrel
      have HE := Lib.hid he; clear he
      by_cases hlt : k < n
      · obtain ⟨b1, o1, rfl, hl1, c1, c2⟩ := hx.field hlt HX.out
        obtain ⟨b2, o2, rfl, hl2, d1, d2⟩ := hy.field hlt HY.out
        have hneq := fun w => neqF (xs[k]'(by have := HX.out; omega)) (ys[k]'(by have := HY.out; omega)) w
        have hdec := tf (decide (xs[k]'(by have := HX.out; omega) = ys[k]'(by have := HY.out; omega)))
        rcases hdec with hd | hd
        · go_wp2
          go_region
          go_wp2
          go_roundw
          case rel => exact ⟨k + 1, by omega, by go_num, take_eq_snoc _ _ HE.out (of_decide_eq_true hd), _, rfl⟩
          case measure => simp [intOf]; omega
        · go_wp2
          go_region
          go_wp2
          go_ret
          exact ⟨ret_bool (by
            symm; apply decide_eq_false
            intro e
            subst e
            simp at hd), below_drewN (Below.refl _ _) _⟩
      · have hkn : k = n := by omega
        have hfin : xs = ys := by
          have := HE.out
          have h1 := HX.out
          have h2 := HY.out
          rw [List.take_of_length_le (by omega), List.take_of_length_le (by omega)] at this
          exact this
        have HF := Lib.hid hfin
        clear hkn hfin
        go_wp2
        go_ret
        exact ⟨ret_bool (by rw [decide_eq_true HF.out]), below_drewN (Below.refl _ _) _⟩
  · have h1 : ((n : Int) == (m : Int)) = false := by simp; omega
    have h2 : ((n : Int) != (m : Int)) = true := by simp; omega
    go_enter Tryz.func86, Tryz.ntmps86
    go_wp2
    go_ret
    exact ⟨ret_bool (by have := HX.out; have := HY.out; symm; apply decide_eq_false; rintro rfl; omega), Below.refl _ _⟩

set_option maxHeartbeats 400000 in
theorem copyFields_any (A : Option Addr) (n c : Nat) (xs : List FD) (w : World) (hn : n ≤ 1099511627776) (hx : Rd w A n 2 (fcells xs)) :
    Calls Tryz.prog 80 #[.slice A n c] w (RetRow w 167 2 n (fcells xs)) := by
  go_enter Tryz.func80, Tryz.ntmps80
  go_wp2_with (at_builtin; refine appF _ rfl (.tmp 5) (.tmp 6) rfl w.heap.size _ 0 0 [] rfl (Row.empty _ _ _ _ _) A n c xs rfl (hx.alloc _) (by omega) (by simp) ?_; intro A1 c1 w1 hr1 ha1; simp only [Nat.zero_add, List.nil_append] at hr1)
  go_ret
  exact ⟨A1, c1, by simp, hr1, ((Below.refl _ _).alloc (Nat.le_refl _) _).trans (ha1.below (Row.empty _ _ 167 2 _) (by simp))⟩
end Go.Proofs.YtkempjcphpnocaaGreatDoor

namespace Go.Proofs.YtkempjcphpnocaaGreatDoor
open Go.RowKit

theorem trimS_eq (l : List UInt8) : Lib.trimS l [32, 9] = T.trim l := by
  unfold Lib.trimS Lib.trimLeftS Lib.trimRightS T.trim
  have : T.blank = fun c => ([32, 9] : List UInt8).contains c := funext T.blank_eq
  rw [T.trim_comm, T.trimR, this]

theorem strTrim (s : ByteArray) (w : World) (hs : s.size ≤ 1099511627776) : Calls Tryz.prog 54 #[.string s, .string ⟨#[32, 9]⟩] w (RetS w (B (T.trim (L s)))) := by
  refine (Any.strings_Trim_laid Tryz.lays160 (by kernel_rfl) s ⟨#[32, 9]⟩ w (by omega) (by decide) (ascii_of_all (by decide))).mono ?_
  rintro e w' ⟨rfl, hb⟩
  refine ⟨?_, hb⟩
  rw [← trimS_eq]; rfl

set_option maxHeartbeats 400000 in
theorem trim_any (s : ByteArray) (w : World) (hs : s.size ≤ 1099511627776) :
    Calls Tryz.prog 175 #[.string s] w (RetS w (B (T.trim (L s)))) := by
  go_enter Tryz.func175, Tryz.ntmps175
  go_wp2_with fail
  refine (strTrim s w hs).mono ?_
  rintro e w1 ⟨rfl, hb1⟩
  go_wp2
  go_ret
  exact ⟨rfl, hb1⟩

/-- What split has done after k bytes: the pieces that are done, the beginning of the next one, the mark. -/
def SplitAt (c : UInt8) (l : List UInt8) (k f : Nat) (q : Bool) (done : List (List UInt8)) : Prop :=
  f ≤ k ∧ f ≤ l.length ∧ k ≤ l.length + 1 ∧ T.pieces c false [] l = done ++ T.pieces c q ((l.take k).drop f) (l.drop k)
theorem SplitAt.start (c : UInt8) (l : List UInt8) : SplitAt c l 0 0 false [] := ⟨Nat.le_refl _, Nat.zero_le _, Nat.zero_le _, by simp⟩
theorem SplitAt.cut {c : UInt8} {l : List UInt8} {k f : Nat} {done : List (List UInt8)} (h : SplitAt c l k f false done) (hk : k < l.length) (h34 : ¬ l[k] = 34) (hx : l[k] = c) : SplitAt c l (k + 1) (k + 1) false (done ++ [(l.take k).drop f]) := by
  refine ⟨Nat.le_refl _, by omega, by omega, ?_⟩
  rw [h.2.2.2, T.pieces_step c false hk h.1, if_neg (by simp), if_neg h34, if_pos ⟨rfl, hx⟩, List.append_assoc]; rfl
theorem SplitAt.on {c : UInt8} {l : List UInt8} {k f : Nat} {q : Bool} {done : List (List UInt8)} (h : SplitAt c l k f q done) (hk : k < l.length) (h92 : ¬ (q = true ∧ l[k] = 92)) (h34 : ¬ l[k] = 34) (hx : ¬ (q = false ∧ l[k] = c)) : SplitAt c l (k + 1) f q done := by
  refine ⟨by have := h.1; omega, h.2.1, by omega, ?_⟩
  rw [h.2.2.2, T.pieces_step c q hk h.1, if_neg h92, if_neg h34, if_neg hx]
theorem SplitAt.fin {c : UInt8} {l : List UInt8} {k f : Nat} {q : Bool} {done : List (List UInt8)} (h : SplitAt c l k f q done) (hk : l.length ≤ k) : T.pieces c false [] l = done ++ [l.drop f] := by
  rw [h.2.2.2, T.pieces_end c q hk]

end Go.Proofs.YtkempjcphpnocaaGreatDoor
