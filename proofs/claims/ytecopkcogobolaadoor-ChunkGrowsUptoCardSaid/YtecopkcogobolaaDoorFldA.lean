/- The walks of fields.Values and its document's twin. The walks of the document's List; of fields.Tokens and its twin; of the document's Values. -/
import Derived.Test.YtecopkcogobolaaDoorTokA
namespace Go.Proofs.YtecopkcogobolaaDoor
open Go.RowKit

def FSmall (fs : List FD) : Prop := ∀ f ∈ fs, f.1.size ≤ 1099511627776 ∧ f.2.size ≤ 1099511627776

end Go.Proofs.YtecopkcogobolaaDoor

namespace Go.Proofs.YtecopkcogobolaaDoor
open Go.RowKit

theorem fpieces_trim (s : ByteArray) : (F.pieces 44 s).map (fun p => B (T.trim (L p))) = F.split 44 s := by
  unfold F.pieces F.split
  rw [List.map_map]
  rfl
theorem mem_pieces : ∀ (c : UInt8) (n : Nat) (q : Bool) (cur l p : List UInt8), l.length ≤ n → p ∈ T.pieces c q cur l → p.length ≤ cur.length + l.length := by
  intro c n
  induction n with
  | zero =>
    intro q cur l p h hp
    have : l = [] := List.eq_nil_of_length_eq_zero (by omega)
    subst this
    simp [T.pieces] at hp
    subst hp; simp
  | succ n ih =>
    intro q cur l p h hp
    cases l with
    | nil => simp [T.pieces] at hp; subst hp; simp
    | cons x r =>
      rw [T.pieces_cons] at hp
      simp only [List.length_cons] at h ⊢
      split at hp
      · cases r with
        | nil => simp at hp; subst hp; simp
        | cons y r' =>
          have := ih q (cur ++ [x, y]) r' p (by simp at h; omega) hp
          simp at this ⊢; omega
      · split at hp
        · have := ih (!q) (cur ++ [x]) r p (by omega) hp; simp at this; omega
        · split at hp
          · rcases List.mem_cons.1 hp with rfl | hp
            · omega
            · have := ih q [] r p (by omega) hp; simp at this; omega
          · have := ih q (cur ++ [x]) r p (by omega) hp; simp at this; omega
theorem mem_fpieces {c : UInt8} {s p : ByteArray} (h : p ∈ F.pieces c s) : p.size ≤ s.size := by
  unfold F.pieces at h
  obtain ⟨q, hq, rfl⟩ := List.mem_map.1 h
  have := mem_pieces c _ false [] (L s) q (Nat.le_refl _) hq
  rw [B_size, L_size s]; simpa using this
theorem mem_split {c : UInt8} {s p : ByteArray} (h : p ∈ F.split c s) : p.size ≤ s.size := by
  unfold F.split at h
  obtain ⟨q, hq, rfl⟩ := List.mem_map.1 h
  have := mem_pieces c _ false [] (L s) q (Nat.le_refl _) hq
  have h2 := T.trim_len q
  rw [B_size, L_size s]; simp at this; omega
theorem mem_list {s p : ByteArray} (h : p ∈ F.list s) : p.size ≤ s.size := mem_split (List.mem_filter.1 h).1

theorem values_small {fs : List FD} {name : ByteArray} (hf : FSmall fs) : ∀ v ∈ F.values fs name, v.size ≤ 1099511627776 := by
  intro v hv
  unfold F.values at hv
  obtain ⟨f, hfm, rfl⟩ := List.mem_map.1 hv
  exact (hf f (List.mem_filter.1 hfm).1).2

end Go.Proofs.YtecopkcogobolaaDoor
