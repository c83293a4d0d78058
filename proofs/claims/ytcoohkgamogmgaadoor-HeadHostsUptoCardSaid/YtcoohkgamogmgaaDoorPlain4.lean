/- What is stripped is stripped again as it is; a Via that was put is got. No program here. -/
import Derived.Test.YtcoohkgamogmgaaDoorPlain3
namespace Go.Proofs.YtcoohkgamogmgaaDoor
open Go
namespace F
theorem values_none (l : List FD) (name : ByteArray) (ns : List ByteArray) (h : name ∈ ns) : values (without l ns) name = [] := by
  unfold values without
  rw [List.filter_filter]
  have : (l.filter fun f => is f name && !(ns.any fun n => is f n)) = [] := by
    rw [List.filter_eq_nil_iff]
    intro f _ hf
    rw [Bool.and_eq_true] at hf
    have h2 : (ns.any fun n => is f n) = true := List.any_eq_true.2 ⟨name, h, hf.1⟩
    rw [h2] at hf
    exact absurd hf.2 (by simp)
  rw [this]
  rfl
theorem values_append (a b : List FD) (name : ByteArray) : values (a ++ b) name = values a name ++ values b name := by
  unfold values; rw [List.filter_append, List.map_append]
theorem is_self (name v : ByteArray) : is (name, v) name = true := by unfold is; simp
theorem values_put (l : List FD) (name v : ByteArray) : values (put l name v) name = [v] := by
  unfold put
  rw [values_append, values_none l name [name] (by simp), List.nil_append]
  unfold values
  rw [List.filter_cons, if_pos (is_self name v)]
  rfl
theorem joined_put (l : List FD) (name v : ByteArray) : joined (put l name v) name = v := by
  unfold joined glue
  rw [values_put, List.map_cons, List.map_nil, Lib.join_one]
  exact B_L v
theorem has_put (l : List FD) (name v : ByteArray) : has (put l name v) name = true := by
  unfold has; rw [values_put]; rfl
theorem tokens_strip (fs : List FD) : tokens (strip fs) ⟨#[67, 111, 110, 110, 101, 99, 116, 105, 111, 110]⟩ = [] := by
  unfold tokens strip
  rw [values_none _ _ _ (by unfold nine; simp)]
  rfl
theorem strip_strip (fs : List FD) : strip (strip fs) = strip fs := by
  have h := tokens_strip fs
  show without (strip fs) (tokens (strip fs) ⟨#[67, 111, 110, 110, 101, 99, 116, 105, 111, 110]⟩ ++ nine) = strip fs
  rw [h, List.nil_append]
  unfold strip
  show List.filter _ (without fs _) = without fs _
  unfold without
  rw [List.filter_filter]
  apply List.filter_congr
  intro f _
  rw [List.any_append]
  cases (nine.any fun n => is f n) <;> simp
end F
end Go.Proofs.YtcoohkgamogmgaaDoor
