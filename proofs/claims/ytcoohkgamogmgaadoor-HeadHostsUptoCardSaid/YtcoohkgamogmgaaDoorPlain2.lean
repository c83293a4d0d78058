/- What hop.Strip computes, and its document's twin; bounds by the bulk of the fields. No program here. -/
import Derived.Test.YtcoohkgamogmgaaDoorPlain
namespace Go.Proofs.YtcoohkgamogmgaaDoor
namespace F
/-- How many bytes and things a list of fields holds. -/
def bulk : List FD → Nat
  | [] => 0
  | f :: l => f.1.size + f.2.size + 1 + bulk l
theorem bulk_append : ∀ l m : List FD, bulk (l ++ m) = bulk l + bulk m
  | [], m => by simp [bulk]
  | f :: l, m => by simp only [List.cons_append, bulk, bulk_append l m]; omega
theorem len_le_bulk : ∀ l : List FD, l.length ≤ bulk l
  | [] => Nat.le_refl _
  | f :: l => by have := len_le_bulk l; simp only [List.length_cons, bulk]; omega
theorem mem_bulk {f : FD} : ∀ {l : List FD}, f ∈ l → f.1.size + f.2.size + 1 ≤ bulk l
  | g :: l, h => by
    rcases List.mem_cons.1 h with rfl | h
    · simp only [bulk]; omega
    · have := mem_bulk h; simp only [bulk]; omega
theorem bulk_filter (p : FD → Bool) : ∀ l : List FD, bulk (l.filter p) ≤ bulk l
  | [] => Nat.le_refl _
  | f :: l => by
    have := bulk_filter p l
    rw [List.filter_cons]
    split <;> simp only [bulk] <;> omega
theorem bulk_without (l : List FD) (ns : List ByteArray) : bulk (without l ns) ≤ bulk l := bulk_filter _ l

def cConn : ByteArray := ⟨#[67, 111, 110, 110, 101, 99, 116, 105, 111, 110]⟩
def nine : List ByteArray := [⟨#[67, 111, 110, 110, 101, 99, 116, 105, 111, 110]⟩, ⟨#[75, 101, 101, 112, 45, 65, 108, 105, 118, 101]⟩, ⟨#[80, 114, 111, 120, 121, 45, 67, 111, 110, 110, 101, 99, 116, 105, 111, 110]⟩, ⟨#[80, 114, 111, 120, 121, 45, 65, 117, 116, 104, 101, 110, 116, 105, 99, 97, 116, 101]⟩, ⟨#[80, 114, 111, 120, 121, 45, 65, 117, 116, 104, 111, 114, 105, 122, 97, 116, 105, 111, 110]⟩, ⟨#[84, 69]⟩, ⟨#[84, 114, 97, 105, 108, 101, 114]⟩, ⟨#[84, 114, 97, 110, 115, 102, 101, 114, 45, 69, 110, 99, 111, 100, 105, 110, 103]⟩, ⟨#[85, 112, 103, 114, 97, 100, 101]⟩]
def nineLow : List ByteArray := [⟨#[99, 111, 110, 110, 101, 99, 116, 105, 111, 110]⟩, ⟨#[107, 101, 101, 112, 45, 97, 108, 105, 118, 101]⟩, ⟨#[112, 114, 111, 120, 121, 45, 99, 111, 110, 110, 101, 99, 116, 105, 111, 110]⟩, ⟨#[112, 114, 111, 120, 121, 45, 97, 117, 116, 104, 101, 110, 116, 105, 99, 97, 116, 101]⟩, ⟨#[112, 114, 111, 120, 121, 45, 97, 117, 116, 104, 111, 114, 105, 122, 97, 116, 105, 111, 110]⟩, ⟨#[116, 101]⟩, ⟨#[116, 114, 97, 105, 108, 101, 114]⟩, ⟨#[116, 114, 97, 110, 115, 102, 101, 114, 45, 101, 110, 99, 111, 100, 105, 110, 103]⟩, ⟨#[117, 112, 103, 114, 97, 100, 101]⟩]
def strip (fs : List FD) : List FD := without fs (tokens fs ⟨#[67, 111, 110, 110, 101, 99, 116, 105, 111, 110]⟩ ++ nine)
def refStrip (fs : List FD) : List FD := without fs (nineLow ++ tokens fs ⟨#[99, 111, 110, 110, 101, 99, 116, 105, 111, 110]⟩)

theorem is_fold {a b : ByteArray} (h : T.fold (L a) = T.fold (L b)) (f : FD) : is f a = is f b := by unfold is; rw [h]
theorem values_fold {a b : ByteArray} (h : T.fold (L a) = T.fold (L b)) (fs : List FD) : values fs a = values fs b := by
  unfold values
  congr 2
  funext f
  exact is_fold h f
theorem tokens_fold {a b : ByteArray} (h : T.fold (L a) = T.fold (L b)) (fs : List FD) : tokens fs a = tokens fs b := by
  unfold tokens; rw [values_fold h]
theorem any_fold (f : FD) : ∀ (a b : List ByteArray), a.map (fun n => T.fold (L n)) = b.map (fun n => T.fold (L n)) → (a.any fun n => is f n) = b.any fun n => is f n
  | [], [], _ => rfl
  | [], y :: b, h => by simp at h
  | x :: a, [], h => by simp at h
  | x :: a, y :: b, h => by
    simp only [List.map_cons, List.cons.injEq] at h
    simp only [List.any_cons, is_fold h.1 f, any_fold f a b h.2]
theorem strip_eq (fs : List FD) : strip fs = refStrip fs := by
  unfold strip refStrip without
  rw [tokens_fold (a := ⟨#[67, 111, 110, 110, 101, 99, 116, 105, 111, 110]⟩) (b := ⟨#[99, 111, 110, 110, 101, 99, 116, 105, 111, 110]⟩) (by decide)]
  congr 1
  funext f
  rw [List.any_append, List.any_append, any_fold f nine nineLow (by decide), Bool.or_comm]
theorem bulk_strip (fs : List FD) : bulk (strip fs) ≤ bulk fs := bulk_without _ _
end F
end Go.Proofs.YtcoohkgamogmgaaDoor
