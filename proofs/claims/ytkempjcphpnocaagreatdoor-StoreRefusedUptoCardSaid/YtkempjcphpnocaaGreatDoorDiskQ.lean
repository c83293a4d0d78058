/- The plain disk's steps keep its form; what they do where nothing fails. No program here. -/
import Derived.Test.YtkempjcphpnocaaGreatDoorZ01
namespace Go.Proofs.YtkempjcphpnocaaGreatDoor

namespace D
theorem length_ins (l : NM) (nm : ByteArray) (no : Nat) : (ins l nm no).length = l.length + 1 := by
  induction l with
  | nil => rfl
  | cons p r ih =>
    unfold ins
    split
    · rfl
    · rw [List.length_cons, ih, List.length_cons]
theorem length_del (l : NM) (nm : ByteArray) : (del l nm).length ≤ l.length := List.length_filter_le _ _
theorem length_put (l : NM) (nm : ByteArray) (no : Nat) : (put l nm no).length ≤ l.length + 1 := by
  unfold put
  rw [length_ins]
  have := length_del l nm
  omega
theorem length_app (l : NM) (c : Chg) : (c.app l).length ≤ l.length + 1 := by
  cases c with
  | put nm no => exact length_put l nm no
  | del nm => exact Nat.le_succ_of_le (length_del l nm)
  | ren a b no =>
    have h1 := length_put (del l a) b no
    have h2 := length_del l a
    show (put (del l a) b no).length ≤ _
    omega
theorem mem_app {l : NM} {c : Chg} {p : ByteArray × Nat} {n : Nat} (hp : p ∈ c.app l) (hl : ∀ p ∈ l, p.2 < n) (hc : c.within n) : p.2 < n := by
  cases c with
  | put nm no =>
    rcases mem_put.1 hp with rfl | h
    · exact hc
    · exact hl p h.1
  | del nm => exact hl p (mem_del.1 hp).1
  | ren a b no =>
    rcases mem_put.1 hp with rfl | h
    · exact hc
    · exact hl p (mem_del.1 h.1).1
theorem Chg.within.mono {c : Chg} {n m : Nat} (h : c.within n) (hm : n ≤ m) : c.within m := by
  cases c with
  | put nm no => exact Nat.lt_of_lt_of_le h hm
  | del nm => trivial
  | ren a b no => exact Nat.lt_of_lt_of_le h hm
theorem Dsk.Ok.alter {s : Dsk} (h : s.Ok) {c : Chg} (hc : c.within s.data.length) : (s.alter c).Ok :=
  ⟨h.lens, up_app h.upN c, h.upS, fun _ hp => mem_app hp h.inN hc, h.inS, fun d hd => by
    rcases List.mem_append.1 hd with hd | hd
    · exact h.inP d hd
    · rw [List.mem_singleton.1 hd]; exact hc, by
    show c.app s.now = (s.pend ++ [c]).foldl Chg.app s.safe
    rw [List.foldl_append, ← h.fold]
    rfl, h.firms⟩
theorem Dsk.Ok.count {s : Dsk} (h : s.Ok) (n : Int) : ({ s with n := n } : Dsk).Ok := ⟨h.lens, h.upN, h.upS, h.inN, h.inS, h.inP, h.fold, h.firms⟩
theorem Dsk.Ok.newFile {s : Dsk} (h : s.Ok) : ({ s with data := s.data ++ [[]], firm := s.firm ++ [0] } : Dsk).Ok := by
  have hl : (s.data ++ [([] : List UInt8)]).length = s.data.length + 1 := by simp
  refine ⟨by simp [h.lens], h.upN, h.upS, fun p hp => ?_, fun p hp => ?_, fun c hc => (h.inP c hc).mono ?_, h.fold, fun no hn => ?_⟩
  · show _ < (s.data ++ [([] : List UInt8)]).length
    rw [hl]; have := h.inN p hp; omega
  · show _ < (s.data ++ [([] : List UInt8)]).length
    rw [hl]; have := h.inS p hp; omega
  · show _ ≤ (s.data ++ [([] : List UInt8)]).length
    rw [hl]; omega
  · change no < (s.data ++ [([] : List UInt8)]).length at hn
    rw [hl] at hn
    unfold Dsk.size
    dsimp only
    by_cases e : no = s.data.length
    · subst e
      have : (s.firm ++ [0]).getD s.data.length 0 = 0 := by simp [List.getD, ← h.lens]
      rw [this]
      exact Nat.zero_le _
    · have hi : no < s.data.length := by omega
      have h1 : (s.data ++ [([] : List UInt8)]).getD no [] = s.data.getD no [] := by simp [List.getD, List.getElem?_append_left hi]
      have h2 : (s.firm ++ [0]).getD no 0 = s.firm.getD no 0 := by simp [List.getD, List.getElem?_append_left (show no < s.firm.length by rw [h.lens]; exact hi)]
      rw [h1, h2]
      exact h.firms no hi
theorem Dsk.Ok.data {s : Dsk} (h : s.Ok) (no : Nat) (d : List UInt8) : ({ s with data := s.data.set no (s.data.getD no [] ++ d) } : Dsk).Ok := by
  refine ⟨by simp [h.lens], h.upN, h.upS, fun p hp => by have := h.inN p hp; simpa using this, fun p hp => by have := h.inS p hp; simpa using this, fun c hc => by have := h.inP c hc; simpa using this, h.fold, fun i hi => ?_⟩
  have hi2 : i < s.data.length := by simpa using hi
  have := h.firms i hi2
  unfold Dsk.size at this ⊢
  dsimp only
  by_cases e : i = no
  · subst e
    simp [List.getD, hi2] at this ⊢
    omega
  · rw [show (s.data.set no (s.data.getD no [] ++ d)).getD i [] = s.data.getD i [] by simp [List.getD, List.getElem?_set_ne (fun h => e h.symm)]]
    exact this
theorem Dsk.Ok.firm {s : Dsk} (h : s.Ok) (no : Nat) : ({ s with firm := s.firm.set no (s.size no) } : Dsk).Ok := by
  refine ⟨by simp [h.lens], h.upN, h.upS, h.inN, h.inS, h.inP, h.fold, fun i hi => ?_⟩
  have := h.firms i hi
  show (s.firm.set no (s.size no)).getD i 0 ≤ s.size i
  by_cases e : i = no
  · subst e
    by_cases hl : i < s.firm.length
    · simp [List.getD, hl]
    · simp [List.getD, hl]
  · rw [show (s.firm.set no (s.size no)).getD i 0 = s.firm.getD i 0 by simp [List.getD, List.getElem?_set_ne (fun h => e h.symm)]]
    exact this
theorem Dsk.Ok.synced {s : Dsk} (h : s.Ok) : ({ s with safe := s.now, pend := [] } : Dsk).Ok :=
  ⟨h.lens, h.upN, h.upN, h.inN, h.inN, (fun _ hc => by cases hc), rfl, h.firms⟩
/-- A disk of a bounded past. -/
structure Fit (k : Nat) (s : Dsk) : Prop where
  ok : s.Ok
  n0 : 0 ≤ s.n
  n : s.n ≤ k
  now : s.now.length ≤ k
  pend : s.pend.length ≤ k
  data : s.data.length ≤ k
  fails : s.fails.length ≤ 1099511627776
  room : 0 ≤ s.room ∧ s.room ≤ 1073741824
  size : ∀ no, s.size no ≤ 1073741824
theorem Fit.mono {k m : Nat} {s : Dsk} (h : Fit k s) (hm : k ≤ m) : Fit m s :=
  ⟨h.ok, h.n0, by have := h.n; omega, Nat.le_trans h.now hm, Nat.le_trans h.pend hm, Nat.le_trans h.data hm, h.fails, h.room, h.size⟩
theorem Fit.sml {k : Nat} {s : Dsk} (h : Fit k s) (hk : k ≤ 268435456) : s.Sml :=
  ⟨h.n0, by have := h.n; omega, h.fails, by have := h.now; omega, by have := h.pend; omega, by have := h.data; omega, fun no => by have := h.size no; omega⟩
theorem sum_bound {f : ByteArray × Nat → Nat} {Z : Nat} : ∀ l : NM, (∀ p, f p ≤ Z) → (l.map f).sum ≤ l.length * Z
  | [], _ => by simp
  | p :: r, h => by
    have h1 := sum_bound r h
    have h2 := h p
    rw [List.map_cons, List.sum_cons, List.length_cons, Nat.succ_mul]
    omega
theorem Fit.used {k : Nat} {s : Dsk} (h : Fit k s) (hk : k ≤ 268435456) : s.used ≤ 1152921504606846976 := by
  have h1 : s.used ≤ s.now.length * 1073741824 := sum_bound s.now (fun p => h.size p.2)
  have h2 := h.now
  have h3 : s.now.length * 1073741824 ≤ 268435456 * 1073741824 := Nat.mul_le_mul_right _ (by omega)
  omega
theorem size_le_used {s : Dsk} {nm : ByteArray} {no : Nat} (h : (nm, no) ∈ s.now) : s.size no ≤ s.used := by
  unfold Dsk.used
  generalize s.now = l at *
  induction l with
  | nil => cases h
  | cons p r ih =>
    rw [List.map_cons, List.sum_cons]
    rcases List.mem_cons.1 h with rfl | h
    · exact Nat.le_add_right _ _
    · have := ih h
      omega
section
variable {k : Nat} {s : Dsk}
theorem Fit.count (h : Fit k s) : Fit (k + 1) { s with n := s.n + 1 } :=
  ⟨h.ok.count _, by have := h.n0; show 0 ≤ s.n + 1; omega, by have := h.n; show s.n + 1 ≤ _; omega, Nat.le_succ_of_le h.now, Nat.le_succ_of_le h.pend, Nat.le_succ_of_le h.data, h.fails, h.room, h.size⟩
theorem Fit.begin (h : Fit k s) (ns : List ByteArray) : Fit (k + 1) (s.begin ns).1 := by
  unfold Dsk.begin
  split
  · exact h.mono (Nat.le_succ k)
  · exact h.count
/-- A step on a file: counted, and then what is done. -/
theorem Fit.on (h : Fit k s) (nm : ByteArray) (more : List ByteArray) (f : Dsk → Nat → Dsk × Int) (hf : ∀ (u : Dsk) (no : Nat), u.now = s.now → u.pend = s.pend → u.data = s.data → Fit (k + 1) u → find u.now nm = some no → Fit (k + 1) (f u no).1) : Fit (k + 1) (s.on nm more f).1 := by
  obtain ⟨n, hn⟩ := s.begin_as (more ++ [nm])
  have hb := h.begin (more ++ [nm])
  unfold Dsk.on
  cases hbe : s.begin (more ++ [nm]) with
  | mk s1 e =>
    rw [hbe] at hn hb
    dsimp only at hn hb ⊢
    split
    · exact hb
    · cases hfd : find s1.now nm with
      | none => exact hb
      | some no => exact hf s1 no (by rw [hn]) (by rw [hn]) (by rw [hn]) hb hfd
theorem Fit.alter {c : Chg} (hu : Fit (k + 1) s) (hp : s.pend.length ≤ k) (hn : s.now.length ≤ k) (hc : c.within s.data.length) : Fit (k + 1) (s.alter c) :=
  ⟨hu.ok.alter hc, hu.n0, hu.n, by have := length_app s.now c; show (c.app s.now).length ≤ _; omega, by show (s.pend ++ [c]).length ≤ _; rw [List.length_append]; simp; exact hp, hu.data, hu.fails, hu.room, hu.size⟩
theorem Fit.remove (h : Fit k s) (nm : ByteArray) : Fit (k + 1) (s.remove nm).1 :=
  h.on nm [] _ (fun u no h1 h2 _ hu _ => hu.alter (by rw [h2]; exact h.pend) (by rw [h1]; exact h.now) trivial)
theorem Fit.rename (h : Fit k s) (a b : ByteArray) : Fit (k + 1) (s.rename a b).1 :=
  h.on a [b] _ (fun u no h1 h2 h3 hu hf => by
    split
    · exact hu
    · exact hu.alter (by rw [h2]; exact h.pend) (by rw [h1]; exact h.now) (hu.ok.inN _ (find_mem hf)))
theorem Fit.sync (h : Fit k s) (nm : ByteArray) : Fit (k + 1) (s.sync nm).1 :=
  h.on nm [] _ (fun _ no _ _ _ hu _ => ⟨hu.ok.firm no, hu.n0, hu.n, hu.now, hu.pend, hu.data, hu.fails, hu.room, hu.size⟩)
theorem Fit.append (h : Fit k s) (nm : ByteArray) (d : List UInt8) : Fit (k + 1) (s.append nm d).1 :=
  h.on nm [] _ (fun u no _ _ _ hu hf => by
    split
    · exact hu
    · rename_i hr
      refine ⟨hu.ok.data no d, hu.n0, hu.n, hu.now, hu.pend, by show (u.data.set no _).length ≤ _; rw [List.length_set]; exact hu.data, hu.fails, hu.room, fun i => ?_⟩
      unfold Dsk.size
      dsimp only
      have hi := hu.size i
      unfold Dsk.size at hi
      by_cases e : i = no
      · subst e
        by_cases hl : i < u.data.length
        · have hg : (u.data.set i (u.data.getD i [] ++ d)).getD i [] = u.data.getD i [] ++ d := by simp [List.getD, hl]
          rw [hg, List.length_append]
          by_cases h0 : d.length = 0
          · omega
          · have h1 := size_le_used (find_mem hf)
            unfold Dsk.size at h1
            have h2 := hu.room.2
            have h3 : ¬ u.room < (u.used : Int) + d.length := fun h3 => hr ⟨by omega, h3⟩
            omega
        · rw [List.set_eq_of_length_le (by omega)]
          exact hi
      · rw [show (u.data.set no (u.data.getD no [] ++ d)).getD i [] = u.data.getD i [] by simp [List.getD, List.getElem?_set_ne (fun h => e h.symm)]]
        exact hi)
theorem Fit.syncNames (h : Fit k s) : Fit (k + 1) s.syncNames.1 := by
  have hb := h.begin []
  unfold Dsk.syncNames
  cases hbe : s.begin [] with
  | mk s1 e =>
    rw [hbe] at hb
    dsimp only at hb ⊢
    split
    · exact hb
    · exact ⟨hb.ok.synced, hb.n0, hb.n, hb.now, Nat.zero_le _, hb.data, hb.fails, hb.room, hb.size⟩
theorem Fit.create (h : Fit k s) (nm : ByteArray) : Fit (k + 1) (s.create nm).1 := by
  obtain ⟨n, hn⟩ := s.begin_as [nm]
  have hb := h.begin [nm]
  unfold Dsk.create
  cases hbe : s.begin [nm] with
  | mk s1 e =>
    rw [hbe] at hb hn
    dsimp only at hb hn ⊢
    split
    · exact hb
    · split
      · exact hb
      · have hl : (s1.data ++ [([] : List UInt8)]).length = s1.data.length + 1 := by simp
        have h1 : s1.data.length ≤ k := by rw [hn]; exact h.data
        have h2 : s1.pend.length ≤ k := by rw [hn]; exact h.pend
        have h3 : s1.now.length ≤ k := by rw [hn]; exact h.now
        refine Fit.alter (s := { s1 with data := s1.data ++ [[]], firm := s1.firm ++ [0] }) ⟨hb.ok.newFile, hb.n0, hb.n, hb.now, hb.pend, by show (s1.data ++ [([] : List UInt8)]).length ≤ _; rw [hl]; omega, hb.fails, hb.room, fun i => ?_⟩ h2 h3 ?_
        · unfold Dsk.size
          dsimp only
          have := hb.size i
          unfold Dsk.size at this
          by_cases hi : i < s1.data.length
          · rw [show (s1.data ++ [([] : List UInt8)]).getD i [] = s1.data.getD i [] by simp [List.getD, List.getElem?_append_left hi]]
            exact this
          · have : (s1.data ++ [([] : List UInt8)]).getD i [] = [] := by
              rw [List.getD, List.getElem?_append_right (by omega)]
              cases h9 : i - s1.data.length <;> simp
            rw [this]
            exact Nat.zero_le _
        · show s1.data.length < (s1.data ++ [([] : List UInt8)]).length
          rw [hl]
          omega
end
end D
end Go.Proofs.YtkempjcphpnocaaGreatDoor
