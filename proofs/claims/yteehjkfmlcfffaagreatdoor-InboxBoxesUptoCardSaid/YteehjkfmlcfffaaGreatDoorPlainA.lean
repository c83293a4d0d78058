/- What the layers tok and fields compute, as plain functions on lists of bytes. No program here. What hop.Strip computes, and its document's twin; bounds by the bulk of the fields. No program here. -/

namespace Go.Proofs.YteehjkfmlcfffaaGreatDoor
/-- A text's bytes; the text of bytes. -/
def L (s : ByteArray) : List UInt8 := s.data.toList
def B (l : List UInt8) : ByteArray := ⟨l.toArray⟩
/-- A field: its name and its value. -/
abbrev FD := ByteArray × ByteArray
namespace T
abbrev Bs := List UInt8
def lower (c : UInt8) : UInt8 := if 65 ≤ c.toNat ∧ c.toNat ≤ 90 then c + 32 else c
def fold (l : Bs) : Bs := l.map lower
def others : Bs := [33, 35, 36, 37, 38, 39, 42, 43, 45, 46, 94, 95, 124, 126, 96]
def tokB (c : UInt8) : Bool := (48 ≤ c.toNat && c.toNat ≤ 57) || (65 ≤ c.toNat && c.toNat ≤ 90) || (97 ≤ c.toNat && c.toNat ≤ 122) || others.contains c
def textB (c : UInt8) : Bool := c.toNat == 9 || (32 ≤ c.toNat && c.toNat != 127)
def token (l : Bs) : Bool := l.all tokB && !l.isEmpty
def blank (c : UInt8) : Bool := c.toNat == 32 || c.toNat == 9
def trimR (l : Bs) : Bs := (l.reverse.dropWhile blank).reverse
def trim (l : Bs) : Bs := trimR (l.dropWhile blank)
def pieces (c : UInt8) : Bool → Bs → Bs → List Bs
  | _, cur, [] => [cur]
  | q, cur, x :: r =>
    if q = true ∧ x = 92 then
      match r with
      | [] => [cur ++ [x]]
      | y :: r' => pieces c q (cur ++ [x, y]) r'
    else if x = 34 then pieces c (!q) (cur ++ [x]) r
    else if q = false ∧ x = c then cur :: pieces c q [] r
    else pieces c q (cur ++ [x]) r

theorem trimR_nil : trimR [] = [] := rfl
theorem trimR_snoc_blank {m : Bs} {x : UInt8} (h : blank x = true) : trimR (m ++ [x]) = trimR m := by
  simp [trimR, h]
theorem trimR_snoc_not {m : Bs} {x : UInt8} (h : blank x = false) : trimR (m ++ [x]) = m ++ [x] := by
  simp [trimR, h]
theorem trimR_cons_not {x : UInt8} (l : Bs) (h : blank x = false) : trimR (x :: l) = x :: trimR l := by
  unfold trimR
  rw [List.reverse_cons]
  have : ∀ m : Bs, ((m ++ [x]).dropWhile blank) = (m.dropWhile blank) ++ [x] := by
    intro m
    induction m with
    | nil => simp [h]
    | cons y m ih =>
      simp only [List.cons_append, List.dropWhile_cons]
      split
      · exact ih
      · rfl
  rw [this]
  simp
theorem trimR_cons_blank {x : UInt8} (l : Bs) (h : blank x = true) : trimR (x :: l) = if trimR l = [] then [] else x :: trimR l := by
  unfold trimR
  rw [List.reverse_cons]
  have : ∀ m : Bs, ((m ++ [x]).dropWhile blank) = if m.dropWhile blank = [] then [] else (m.dropWhile blank) ++ [x] := by
    intro m
    induction m with
    | nil => simp [h]
    | cons y m ih =>
      simp only [List.cons_append, List.dropWhile_cons]
      split
      · exact ih
      · simp
  rw [this]
  by_cases e : l.reverse.dropWhile blank = []
  · simp [e]
  · simp [e]
theorem trim_comm : ∀ l : Bs, trimR (l.dropWhile blank) = (trimR l).dropWhile blank
  | [] => rfl
  | x :: l => by
    have ih := trim_comm l
    cases hb : blank x with
    | true =>
      rw [List.dropWhile_cons, if_pos hb, trimR_cons_blank l hb]
      split
      · rename_i e
        rw [ih, e]
      · rw [List.dropWhile_cons, if_pos hb, ih]
    | false =>
      rw [List.dropWhile_cons, if_neg (by simp [hb]), trimR_cons_not l hb, List.dropWhile_cons, if_neg (by simp [hb])]
theorem blank_eq (c : UInt8) : blank c = ([32, 9] : Bs).contains c := by
  have : ∀ y : UInt8, (c.toNat == y.toNat) = (c == y) := fun y => by
    rw [Bool.eq_iff_iff]; simp [UInt8.toNat_inj]
  have h1 := this 32
  have h2 := this 9
  simp only [List.contains_cons, List.contains_nil, Bool.or_false]
  rw [← h1, ← h2]; rfl
theorem dropWhile_step {l : Bs} {k : Nat} (h : k < l.length) (hb : blank l[k] = true) : (l.drop k).dropWhile blank = (l.drop (k + 1)).dropWhile blank := by
  rw [List.drop_eq_getElem_cons h, List.dropWhile_cons, if_pos hb]
theorem dropWhile_stop {l : Bs} {k : Nat} (h : k < l.length) (hb : blank l[k] = false) : (l.drop k).dropWhile blank = l.drop k := by
  conv => lhs; rw [List.drop_eq_getElem_cons h, List.dropWhile_cons, if_neg (by simp [hb])]
  rw [List.drop_eq_getElem_cons h]
theorem trim_len (l : Bs) : (trim l).length ≤ l.length := by
  have h1 : ∀ m : Bs, (m.dropWhile blank).length ≤ m.length := fun m => (List.dropWhile_sublist _).length_le
  unfold trim trimR
  rw [List.length_reverse]
  have := h1 (l.dropWhile blank).reverse
  have := h1 l
  rw [List.length_reverse] at *
  omega

theorem pieces_cons (c : UInt8) (q : Bool) (cur : Bs) (x : UInt8) (r : Bs) : pieces c q cur (x :: r) =
    if q = true ∧ x = 92 then
      match r with
      | [] => [cur ++ [x]]
      | y :: r' => pieces c q (cur ++ [x, y]) r'
    else if x = 34 then pieces c (!q) (cur ++ [x]) r
    else if q = false ∧ x = c then cur :: pieces c q [] r
    else pieces c q (cur ++ [x]) r := by
  rw [pieces.eq_def]
  cases r <;> rfl
theorem pieces_step {l : Bs} {k f : Nat} (c : UInt8) (q : Bool) (h : k < l.length) (hf : f ≤ k) :
    pieces c q ((l.take k).drop f) (l.drop k) =
      if q = true ∧ l[k] = 92 then pieces c q ((l.take (k + 2)).drop f) (l.drop (k + 2))
      else if l[k] = 34 then pieces c (!q) ((l.take (k + 1)).drop f) (l.drop (k + 1))
      else if q = false ∧ l[k] = c then (l.take k).drop f :: pieces c q ((l.take (k + 1)).drop (k + 1)) (l.drop (k + 1))
      else pieces c q ((l.take (k + 1)).drop f) (l.drop (k + 1)) := by
  have h1 : (l.take (k + 1)).drop f = (l.take k).drop f ++ [l[k]] := by
    rw [List.take_succ_eq_append_getElem h, List.drop_append_of_le_length (by simp; omega)]
  have h0 : (l.take (k + 1)).drop (k + 1) = [] := List.drop_of_length_le (List.length_take_le _ _)
  conv => lhs; rw [List.drop_eq_getElem_cons h, pieces_cons]
  split
  · rename_i hq
    by_cases h2 : k + 1 < l.length
    · have e2 : (l.take (k + 2)).drop f = (l.take k).drop f ++ [l[k], l[k + 1]] := by
        rw [show k + 2 = (k + 1) + 1 from rfl, List.take_succ_eq_append_getElem h2, List.drop_append_of_le_length (by simp; omega), h1, List.append_assoc]; rfl
      rw [List.drop_eq_getElem_cons h2, e2]
    · have e2 : l.drop (k + 1) = [] := List.drop_of_length_le (by omega)
      have e3 : l.drop (k + 2) = [] := List.drop_of_length_le (by omega)
      have e4 : l.take (k + 2) = l.take (k + 1) := by rw [List.take_of_length_le (by omega), List.take_of_length_le (by omega)]
      rw [e2, e3, e4, h1]
      simp [pieces]
  · split
    · rw [h1]
    · split
      · rw [h0]
      · rw [h1]
theorem pieces_end {l : Bs} {k f : Nat} (c : UInt8) (q : Bool) (h : l.length ≤ k) : pieces c q ((l.take k).drop f) (l.drop k) = [l.drop f] := by
  rw [List.take_of_length_le h, List.drop_of_length_le h]
  simp [pieces]

theorem lower_up {c : UInt8} (h : 65 ≤ c.toNat) (h' : c.toNat ≤ 90) : lower c = c + 32 ∧ (lower c).toNat = c.toNat + 32 := by
  unfold lower
  rw [if_pos ⟨h, h'⟩]
  refine ⟨rfl, ?_⟩
  rw [UInt8.toNat_add]
  show (c.toNat + 32) % 256 = _
  omega
theorem lower_id {c : UInt8} (h : ¬ (65 ≤ c.toNat ∧ c.toNat ≤ 90)) : lower c = c := if_neg h
end T
theorem beqI (x y : UInt8) : ((x.toNat : Int) == (y.toNat : Int)) = decide (x = y) := by
  rw [Bool.eq_iff_iff]
  simp only [beq_iff_eq, decide_eq_true_eq]
  constructor
  · intro h; exact UInt8.toNat_inj.1 (by omega)
  · rintro rfl; rfl
theorem beqI_true {x y : UInt8} (h : x = y) : ((x.toNat : Int) == (y.toNat : Int)) = true := by rw [beqI, decide_eq_true h]
theorem beqI_false {x y : UInt8} (h : ¬ x = y) : ((x.toNat : Int) == (y.toNat : Int)) = false := by rw [beqI, decide_eq_false h]
namespace F
def is (f : FD) (name : ByteArray) : Bool := decide (T.fold (L f.1) = T.fold (L name))
def values (fs : List FD) (name : ByteArray) : List ByteArray := (fs.filter fun f => is f name).map (·.2)
def split (c : UInt8) (s : ByteArray) : List ByteArray := (T.pieces c false [] (L s)).map fun p => B (T.trim p)
def pieces (c : UInt8) (s : ByteArray) : List ByteArray := (T.pieces c false [] (L s)).map B
def list (s : ByteArray) : List ByteArray := (split 44 s).filter fun p => !(L p).isEmpty
def tokens (fs : List FD) (name : ByteArray) : List ByteArray := (values fs name).flatMap fun v => (list v).map fun el => B (T.fold (L el))
def without (fs : List FD) (names : List ByteArray) : List FD := fs.filter fun f => !(names.any fun n => is f n)
def put (fs : List FD) (name v : ByteArray) : List FD := without fs [name] ++ [(name, v)]

theorem filter_snoc {α : Type} (p : α → Bool) (l : List α) (k : Nat) (h : k < l.length) : (l.take (k + 1)).filter p = (l.take k).filter p ++ (if p l[k] then [l[k]] else []) := by
  rw [List.take_succ_eq_append_getElem h, List.filter_append]
  congr 1
  by_cases hp : p l[k] = true
  · simp [hp]
  · simp [hp]
theorem values_snoc (fs : List FD) (name : ByteArray) (k : Nat) (h : k < fs.length) : values (fs.take (k + 1)) name = values (fs.take k) name ++ (if is fs[k] name then [fs[k].2] else []) := by
  unfold values
  rw [filter_snoc _ _ _ h, List.map_append]
  congr 1
  by_cases hp : is fs[k] name = true
  · simp [hp]
  · simp [hp]
theorem values_le (fs : List FD) (name : ByteArray) : (values fs name).length ≤ fs.length := by
  unfold values
  rw [List.length_map]
  exact List.length_filter_le _ _
def toks (vs : List ByteArray) : List ByteArray := vs.flatMap fun v => (list v).map fun el => B (T.fold (L el))
theorem tokens_eq (fs : List FD) (name : ByteArray) : tokens fs name = toks (values fs name) := rfl
theorem toks_snoc (vs : List ByteArray) (k : Nat) (h : k < vs.length) : toks (vs.take (k + 1)) = toks (vs.take k) ++ (list vs[k]).map fun el => B (T.fold (L el)) := by
  unfold toks
  rw [List.take_succ_eq_append_getElem h, List.flatMap_append]
  simp
theorem toks_le (vs : List ByteArray) (k : Nat) : (toks (vs.take k)).length ≤ (toks vs).length := by
  conv => rhs; rw [← List.take_append_drop k vs]
  unfold toks
  rw [List.flatMap_append, List.length_append]
  omega
end F
end Go.Proofs.YteehjkfmlcfffaaGreatDoor

namespace Go.Proofs.YteehjkfmlcfffaaGreatDoor
namespace F
/-- How many bytes and things a list of fields holds. -/
def bulk : List FD → Nat
  | [] => 0
  | f :: l => f.1.size + f.2.size + 1 + bulk l
theorem bulk_append : ∀ l m : List FD, bulk (l ++ m) = bulk l + bulk m
  | [], m => by simp [bulk]
  | f :: l, m => by simp only [List.cons_append, bulk, bulk_append l m]; omega
theorem len_le_bulk : ∀ l : List FD, l.length ≤ bulk l
  | [] => Nat.le_refl _
  | f :: l => by have := len_le_bulk l; simp only [List.length_cons, bulk]; omega
theorem mem_bulk {f : FD} : ∀ {l : List FD}, f ∈ l → f.1.size + f.2.size + 1 ≤ bulk l
  | g :: l, h => by
    rcases List.mem_cons.1 h with rfl | h
    · simp only [bulk]; omega
    · have := mem_bulk h; simp only [bulk]; omega
theorem bulk_filter (p : FD → Bool) : ∀ l : List FD, bulk (l.filter p) ≤ bulk l
  | [] => Nat.le_refl _
  | f :: l => by
    have := bulk_filter p l
    rw [List.filter_cons]
    split <;> simp only [bulk] <;> omega
theorem bulk_without (l : List FD) (ns : List ByteArray) : bulk (without l ns) ≤ bulk l := bulk_filter _ l

def cConn : ByteArray := ⟨#[67, 111, 110, 110, 101, 99, 116, 105, 111, 110]⟩
def nine : List ByteArray := [⟨#[67, 111, 110, 110, 101, 99, 116, 105, 111, 110]⟩, ⟨#[75, 101, 101, 112, 45, 65, 108, 105, 118, 101]⟩, ⟨#[80, 114, 111, 120, 121, 45, 67, 111, 110, 110, 101, 99, 116, 105, 111, 110]⟩, ⟨#[80, 114, 111, 120, 121, 45, 65, 117, 116, 104, 101, 110, 116, 105, 99, 97, 116, 101]⟩, ⟨#[80, 114, 111, 120, 121, 45, 65, 117, 116, 104, 111, 114, 105, 122, 97, 116, 105, 111, 110]⟩, ⟨#[84, 69]⟩, ⟨#[84, 114, 97, 105, 108, 101, 114]⟩, ⟨#[84, 114, 97, 110, 115, 102, 101, 114, 45, 69, 110, 99, 111, 100, 105, 110, 103]⟩, ⟨#[85, 112, 103, 114, 97, 100, 101]⟩]
def strip (fs : List FD) : List FD := without fs (tokens fs ⟨#[67, 111, 110, 110, 101, 99, 116, 105, 111, 110]⟩ ++ nine)
theorem is_fold {a b : ByteArray} (h : T.fold (L a) = T.fold (L b)) (f : FD) : is f a = is f b := by unfold is; rw [h]
theorem values_fold {a b : ByteArray} (h : T.fold (L a) = T.fold (L b)) (fs : List FD) : values fs a = values fs b := by
  unfold values
  congr 2
  funext f
  exact is_fold h f
theorem any_fold (f : FD) : ∀ (a b : List ByteArray), a.map (fun n => T.fold (L n)) = b.map (fun n => T.fold (L n)) → (a.any fun n => is f n) = b.any fun n => is f n
  | [], [], _ => rfl
  | [], y :: b, h => by simp at h
  | x :: a, [], h => by simp at h
  | x :: a, y :: b, h => by
    simp only [List.map_cons, List.cons.injEq] at h
    simp only [List.any_cons, is_fold h.1 f, any_fold f a b h.2]
theorem bulk_strip (fs : List FD) : bulk (strip fs) ≤ bulk fs := bulk_without _ _
end F
end Go.Proofs.YteehjkfmlcfffaaGreatDoor
