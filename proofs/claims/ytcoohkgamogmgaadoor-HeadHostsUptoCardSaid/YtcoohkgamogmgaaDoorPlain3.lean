/- What Get and Via compute; bounds by the bulk of the fields. No program here. -/
import Derived.Test.YtcoohkgamogmgaaDoorPlain2
import Derived.Test.YtcoohkgamogmgaaDoorLib
import Derived.Lib.Join
import Derived.Lib.ItoaNum
namespace Go.Proofs.YtcoohkgamogmgaaDoor
open Go
namespace F
def sep : List UInt8 := [44, 32]
/-- The values, put together. -/
def glue (vs : List ByteArray) : List UInt8 := Lib.join (vs.map L) sep
def joined (fs : List FD) (name : ByteArray) : ByteArray := B (glue (values fs name))
def has (fs : List FD) (name : ByteArray) : Bool := !(values fs name).isEmpty
theorem glue_snoc (vs : List ByteArray) (v : ByteArray) : glue (vs ++ [v]) = (if vs = [] then [] else glue vs ++ sep) ++ L v := by
  cases vs with
  | nil => simp [glue, Lib.join_one]
  | cons a r =>
    simp only [glue, List.cons_append, List.map_cons, List.map_append, List.map_nil, Lib.join_cons, Lib.joinTail, List.flatten_append, List.flatten_cons, List.flatten_nil, List.append_nil, List.append_assoc, reduceCtorEq, if_false]
def weigh : List ByteArray → Nat
  | [] => 0
  | v :: l => v.size + 2 + weigh l
theorem weigh_append : ∀ a b : List ByteArray, weigh (a ++ b) = weigh a + weigh b
  | [], b => by simp [weigh]
  | v :: a, b => by simp only [List.cons_append, weigh, weigh_append a b]; omega
theorem tail_len : ∀ vs : List ByteArray, (Lib.joinTail sep (vs.map L)).length = weigh vs
  | [] => rfl
  | v :: l => by
    have := tail_len l
    simp only [Lib.joinTail, List.map_cons, List.flatten_cons, List.length_append] at this ⊢
    rw [this, weigh, ← L_size]
    simp only [sep, List.length_cons, List.length_nil]
    omega
theorem glue_len (vs : List ByteArray) : (glue vs).length ≤ weigh vs := by
  cases vs with
  | nil => exact Nat.zero_le _
  | cons v l =>
    have := tail_len l
    simp only [glue, List.map_cons, Lib.join_cons, List.length_append, weigh]
    rw [this, ← L_size]
    omega
theorem weigh_values (name : ByteArray) : ∀ fs : List FD, weigh (values fs name) ≤ 2 * bulk fs
  | [] => by simp [values, weigh]
  | f :: l => by
    have := weigh_values name l
    unfold values at this ⊢
    rw [List.filter_cons]
    split <;> simp only [List.map_cons, weigh, bulk] <;> omega
theorem joined_size (fs : List FD) (name : ByteArray) : (joined fs name).size ≤ 2 * bulk fs := by
  have h1 := glue_len (values fs name)
  have h2 := weigh_values name fs
  unfold joined
  rw [B_size]
  omega
theorem weigh_take (vs : List ByteArray) (k : Nat) : weigh (vs.take k) ≤ weigh vs := by
  have := weigh_append (vs.take k) (vs.drop k)
  rw [List.take_append_drop] at this
  omega

def via3 : ByteArray := ⟨#[86, 105, 97]⟩
/-- The value of Via with one more. -/
def viaOf (fs : List FD) (minor : Int) (name : ByteArray) : ByteArray :=
  (if has fs via3 then joined fs via3 ++ ⟨#[44, 32]⟩ else joined fs via3) ++ ⟨#[49, 46]⟩ ++ B (Lib.itoa minor) ++ ⟨#[32]⟩ ++ name
theorem has_low (fs : List FD) : has fs ⟨#[118, 105, 97]⟩ = has fs via3 := by
  unfold has; rw [values_fold (a := ⟨#[118, 105, 97]⟩) (b := via3) (by decide)]
theorem joined_low (fs : List FD) : joined fs ⟨#[118, 105, 97]⟩ = joined fs via3 := by
  unfold joined; rw [values_fold (a := ⟨#[118, 105, 97]⟩) (b := via3) (by decide)]
theorem bulk_put (fs : List FD) (name v : ByteArray) : bulk (put fs name v) ≤ bulk fs + name.size + v.size + 1 := by
  unfold put
  rw [bulk_append]
  have := bulk_without fs [name]
  simp only [bulk]
  omega
end F
end Go.Proofs.YtcoohkgamogmgaaDoor
