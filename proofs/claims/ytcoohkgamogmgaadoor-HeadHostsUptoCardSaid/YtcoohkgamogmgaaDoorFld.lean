/- The walks of fields.Values and its document's twin. -/
import Derived.Test.YtcoohkgamogmgaaDoorTok
namespace Go.Proofs.YtcoohkgamogmgaaDoor
open Go.RowKit

def FSmall (fs : List FD) : Prop := ∀ f ∈ fs, f.1.size ≤ 1099511627776 ∧ f.2.size ≤ 1099511627776

set_option maxHeartbeats 400000 in
theorem values_any (X : Option Addr) (n d : Nat) (fs : List FD) (name : ByteArray) (w : World) (hn : n ≤ 1099511627776) (hl : fs.length = n) (hf : FSmall fs) (h2 : name.size ≤ 1099511627776) (hx : Rd w X n 2 (fcells fs)) :
    Calls Tryd.prog 33 #[.slice X n d, .string name] w (RetRow w 9 1 (F.values fs name).length (scells (F.values fs name))) := by
  have HL := Lib.hid hl
  clear hl
  go_enter Tryd.func33, Tryd.ntmps33
  go_wp2
  go_loopw [5, 10] (fun o i wr => ∃ (k m : Nat) (A : Option Addr) (c : Nat), k ≤ n ∧ m ≤ k ∧ i = .int .i64 k ∧ o = .slice A m c ∧ m = (F.values (fs.take k) name).length ∧ Row wr w.heap.size 9 1 A m c (scells (F.values (fs.take k) name)) ∧ Below w.heap.size w wr) (fun _ i _ => n - (intOf i).toNat)
  case atStart => exact ⟨0, 0, none, 0, Nat.zero_le _, Nat.le_refl _, rfl, rfl, rfl, Row.none_ _ _ _ _, Below.refl _ _⟩
  case round =>
    obtain ⟨k, m, A, c, hk, hmk, rfl, rfl, hm, hrow, hbel⟩ := hrel
    have HM := Lib.hid hm
    clear hm
    by_cases hlt : k < n
    · obtain ⟨b, o, rfl, hb, c1, c2⟩ := (hx.below hbel).field hlt HL.out
      have hv := F.values_snoc fs name k (by rw [HL.out]; exact hlt)
      obtain ⟨f, hfk⟩ : ∃ f, f = fs[k]'(by rw [HL.out]; exact hlt) := ⟨_, rfl⟩
      have hfs := hf f (by rw [hfk]; exact List.getElem_mem _)
      rw [← hfk] at hv c1 c2
      have HV := Lib.hid hv
      clear hv hfk
      rcases tf (F.is f name) with his | his
      · have hcc := fun w => (is_any f name w hfs.1 h2)
        rw [his] at hcc HV
        have hv : F.values (fs.take (k + 1)) name = F.values (fs.take k) name ++ [f.2] := by rw [HV.out]; simp
        have HV := Lib.hid hv
        clear hv
        go_wp2_with fail
        refine (hcc _).mono ?_
        rintro e w1 ⟨rfl, hb1⟩
        have hc1 := newCell hb1 1 rfl
        have hz1 := size_lt hb1
        have hr1 := hrow.new hb1
        have hB1 := below_new hbel hbel.size hb1
        clear hb1 hrow hbel hcc
        go_wp2_with (at_builtin; refine appS _ rfl (.tmp 17) (.tmp 20) rfl w.heap.size A m c _ rfl (hr1.alloc _) _ 1 1 [f.2] rfl (newS _ _) (by omega) (by have := hB1.size; simp; omega) ?_; intro A1 c1 w2 hr2 ha2)
        go_roundw
        case rel =>
          refine ⟨k + 1, m + 1, A1, c1, by omega, by omega, by go_num, rfl, ?_, ?_, ?_⟩
          · rw [HV.out, List.length_append, HM.out]; rfl
          · rw [HV.out]; exact hr2
          · exact (hB1.alloc hB1.size _).trans (ha2.below (hr1.alloc _) (by have := hB1.size; simp; omega))
        case measure => simp [intOf]; omega
      · have hcc := fun w => (is_any f name w hfs.1 h2)
        rw [his] at hcc HV
        have hv : F.values (fs.take (k + 1)) name = F.values (fs.take k) name := by rw [HV.out]; simp
        have HV := Lib.hid hv
        clear hv
        go_wp2_with fail
        refine (hcc _).mono ?_
        rintro e w1 ⟨rfl, hb1⟩
        have hr1 := hrow.new hb1
        have hB1 := below_new hbel hbel.size hb1
        clear hb1 hrow hbel hcc
        go_wp2
        go_roundw
        case rel => exact ⟨k + 1, m, A, c, by omega, by omega, by go_num, rfl, by rw [HV.out, HM.out], by rw [HV.out]; exact hr1, hB1⟩
        case measure => simp [intOf]; omega
    · have hkn : k = n := by omega
      have ht : fs.take k = fs := List.take_of_length_le (by have := HL.out; omega)
      rw [ht] at hrow
      have HM2 : Hid (m = (F.values fs name).length) := by have := HM.out; rw [ht] at this; exact this
      clear hkn ht HM
      go_wp2
      go_ret
      refine ⟨A, c, ?_, ?_, hbel⟩
      · rw [← HM2.out]; rfl
      · rw [← HM2.out]; exact hrow
end Go.Proofs.YtcoohkgamogmgaaDoor
