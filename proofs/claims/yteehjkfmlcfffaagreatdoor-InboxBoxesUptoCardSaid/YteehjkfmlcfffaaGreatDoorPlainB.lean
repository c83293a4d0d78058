/- What Get and Via compute; bounds by the bulk of the fields. No program here. What is stripped is stripped again as it is; a Via that was put is got. No program here. What is sent to an origin: its fields, and that they are clean. No program here. What head.PrintRequest, PrintResponse and fields.Print compute. No program here. What Bytes answers, in plain Lean. What head.Request and fields.Parse compute, as plain functions on lists of bytes. No program here. -/
import Derived.Test.YteehjkfmlcfffaaGreatDoorPlainA
import Derived.Test.YteehjkfmlcfffaaGreatDoorLib
import Derived.Lib.Join
import Derived.Lib.ItoaNum
import Derived.Lib.ItoaLen
import Derived.Lib.IndexMore
namespace Go.Proofs.YteehjkfmlcfffaaGreatDoor
open Go
namespace F
def sep : List UInt8 := [44, 32]
/-- The values, put together. -/
def glue (vs : List ByteArray) : List UInt8 := Lib.join (vs.map L) sep
def joined (fs : List FD) (name : ByteArray) : ByteArray := B (glue (values fs name))
def has (fs : List FD) (name : ByteArray) : Bool := !(values fs name).isEmpty
def weigh : List ByteArray → Nat
  | [] => 0
  | v :: l => v.size + 2 + weigh l
theorem tail_len : ∀ vs : List ByteArray, (Lib.joinTail sep (vs.map L)).length = weigh vs
  | [] => rfl
  | v :: l => by
    have := tail_len l
    simp only [Lib.joinTail, List.map_cons, List.flatten_cons, List.length_append] at this ⊢
    rw [this, weigh, ← L_size]
    simp only [sep, List.length_cons, List.length_nil]
    omega
theorem glue_len (vs : List ByteArray) : (glue vs).length ≤ weigh vs := by
  cases vs with
  | nil => exact Nat.zero_le _
  | cons v l =>
    have := tail_len l
    simp only [glue, List.map_cons, Lib.join_cons, List.length_append, weigh]
    rw [this, ← L_size]
    omega
theorem weigh_values (name : ByteArray) : ∀ fs : List FD, weigh (values fs name) ≤ 2 * bulk fs
  | [] => by simp [values, weigh]
  | f :: l => by
    have := weigh_values name l
    unfold values at this ⊢
    rw [List.filter_cons]
    split <;> simp only [List.map_cons, weigh, bulk] <;> omega
theorem joined_size (fs : List FD) (name : ByteArray) : (joined fs name).size ≤ 2 * bulk fs := by
  have h1 := glue_len (values fs name)
  have h2 := weigh_values name fs
  unfold joined
  rw [B_size]
  omega
def via3 : ByteArray := ⟨#[86, 105, 97]⟩
/-- The value of Via with one more. -/
def viaOf (fs : List FD) (minor : Int) (name : ByteArray) : ByteArray :=
  (if has fs via3 then joined fs via3 ++ ⟨#[44, 32]⟩ else joined fs via3) ++ ⟨#[49, 46]⟩ ++ B (Lib.itoa minor) ++ ⟨#[32]⟩ ++ name
end F
end Go.Proofs.YteehjkfmlcfffaaGreatDoor

namespace Go.Proofs.YteehjkfmlcfffaaGreatDoor
open Go
namespace F
theorem values_none (l : List FD) (name : ByteArray) (ns : List ByteArray) (h : name ∈ ns) : values (without l ns) name = [] := by
  unfold values without
  rw [List.filter_filter]
  have : (l.filter fun f => is f name && !(ns.any fun n => is f n)) = [] := by
    rw [List.filter_eq_nil_iff]
    intro f _ hf
    rw [Bool.and_eq_true] at hf
    have h2 : (ns.any fun n => is f n) = true := List.any_eq_true.2 ⟨name, h, hf.1⟩
    rw [h2] at hf
    exact absurd hf.2 (by simp)
  rw [this]
  rfl
theorem values_append (a b : List FD) (name : ByteArray) : values (a ++ b) name = values a name ++ values b name := by
  unfold values; rw [List.filter_append, List.map_append]
theorem is_self (name v : ByteArray) : is (name, v) name = true := by unfold is; simp
theorem values_put (l : List FD) (name v : ByteArray) : values (put l name v) name = [v] := by
  unfold put
  rw [values_append, values_none l name [name] (by simp), List.nil_append]
  unfold values
  rw [List.filter_cons, if_pos (is_self name v)]
  rfl
end F
end Go.Proofs.YteehjkfmlcfffaaGreatDoor

namespace Go.Proofs.YteehjkfmlcfffaaGreatDoor
open Go
namespace F
def hostN : ByteArray := ⟨#[72, 111, 115, 116]⟩
def expectN : ByteArray := ⟨#[69, 120, 112, 101, 99, 116]⟩
def clenN : ByteArray := ⟨#[67, 111, 110, 116, 101, 110, 116, 45, 76, 101, 110, 103, 116, 104]⟩
def three : List ByteArray := [hostN, expectN, clenN]
def four : List ByteArray := [⟨#[104, 111, 115, 116]⟩, ⟨#[101, 120, 112, 101, 99, 116]⟩, ⟨#[99, 111, 110, 116, 101, 110, 116, 45, 108, 101, 110, 103, 116, 104]⟩, ⟨#[118, 105, 97]⟩]
/-- The value of Host. -/
def hostOf (host : ByteArray) (port : Int) : ByteArray := if port = 80 then host else host ++ (⟨#[58]⟩ ++ B (Lib.itoa port))
/-- The fields of a request that is sent on. -/
def sent (fs : List FD) (m : Int) (via host : ByteArray) (port : Int) : List FD :=
  put ((hostN, hostOf host port) :: without (strip fs) three) via3 (viaOf fs m via)

theorem values_cons (f : FD) (l : List FD) (n : ByteArray) : values (f :: l) n = if is f n then f.2 :: values l n else values l n := by
  unfold values
  rw [List.filter_cons]
  split <;> rfl
theorem without_without (l : List FD) (a b : List ByteArray) : without (without l a) b = without l (a ++ b) := by
  unfold without
  rw [List.filter_filter]
  apply List.filter_congr
  intro f _
  rw [List.any_append]
  cases (a.any fun n => is f n) <;> cases (b.any fun n => is f n) <;> rfl
theorem without_fold (l : List FD) {a b : List ByteArray} (h : a.map (fun n => T.fold (L n)) = b.map (fun n => T.fold (L n))) : without l a = without l b := by
  unfold without
  apply List.filter_congr
  intro f _
  rw [any_fold f a b h]
theorem is_of_fold {n v m : ByteArray} (h : T.fold (L n) ≠ T.fold (L m)) : is (n, v) m = false := by
  unfold is; exact decide_eq_false h
/-- As the document lays it. -/
theorem sent_eq (fs : List FD) (m : Int) (via host : ByteArray) (port : Int) : sent fs m via host port = [(hostN, hostOf host port)] ++ without (strip fs) four ++ [(via3, viaOf fs m via)] := by
  unfold sent put
  congr 1
  have h : is (hostN, hostOf host port) via3 = false := is_of_fold (by decide)
  show List.filter _ (_ :: _) = _
  rw [List.filter_cons, if_pos (by simp [h])]
  show _ :: without (without (strip fs) three) [via3] = _
  rw [without_without, without_fold (strip fs) (a := three ++ [via3]) (b := four) (by decide)]
  rfl
theorem values_sub (l : List FD) (ns : List ByteArray) (n : ByteArray) (h : values l n = []) : values (without l ns) n = [] := by
  unfold values without at *
  rw [List.map_eq_nil_iff, List.filter_eq_nil_iff] at *
  intro f hf
  exact h f (List.mem_filter.1 hf).1
theorem values_sent (fs : List FD) (m : Int) (via host : ByteArray) (port : Int) (n : ByteArray) (h1 : T.fold (L n) ≠ T.fold (L hostN)) (h2 : T.fold (L n) ≠ T.fold (L via3)) (h3 : values (without (strip fs) four) n = []) : values (sent fs m via host port) n = [] := by
  rw [sent_eq, values_append, values_append, h3, values_cons, values_cons, if_neg (by rw [is_of_fold (Ne.symm h1)]; simp), if_neg (by rw [is_of_fold (Ne.symm h2)]; simp)]
  rfl
theorem values_low (l : List FD) (n n' : ByteArray) (ns : List ByteArray) (h : T.fold (L n) = T.fold (L n')) (hm : n' ∈ ns) : values (without l ns) n = [] := by
  rw [values_fold h]
  exact values_none l n' ns hm
/-- The ten names of which nothing is sent. -/
def ten : List ByteArray := [⟨#[67, 111, 110, 110, 101, 99, 116, 105, 111, 110]⟩, ⟨#[75, 101, 101, 112, 45, 65, 108, 105, 118, 101]⟩, ⟨#[80, 114, 111, 120, 121, 45, 67, 111, 110, 110, 101, 99, 116, 105, 111, 110]⟩, ⟨#[80, 114, 111, 120, 121, 45, 65, 117, 116, 104, 111, 114, 105, 122, 97, 116, 105, 111, 110]⟩, ⟨#[84, 69]⟩, ⟨#[84, 114, 97, 105, 108, 101, 114]⟩, ⟨#[84, 114, 97, 110, 115, 102, 101, 114, 45, 69, 110, 99, 111, 100, 105, 110, 103]⟩, ⟨#[85, 112, 103, 114, 97, 100, 101]⟩, clenN, expectN]
theorem clean_strip (fs : List FD) (m : Int) (via host : ByteArray) (port : Int) (n : ByteArray) (hn : n ∈ tokens fs cConn ++ nine) (h1 : T.fold (L n) ≠ T.fold (L hostN)) (h2 : T.fold (L n) ≠ T.fold (L via3)) : values (sent fs m via host port) n = [] :=
  values_sent fs m via host port n h1 h2 (values_sub _ _ _ (values_none fs n _ hn))
theorem clean_ten (fs : List FD) (m : Int) (via host : ByteArray) (port : Int) (n : ByteArray) (hn : n ∈ ten) : values (sent fs m via host port) n = [] := by
  have h12 : ∀ x ∈ ten, T.fold (L x) ≠ T.fold (L hostN) ∧ T.fold (L x) ≠ T.fold (L via3) := by decide
  have h3 : ∀ x ∈ ten, x ∈ nine ∨ x = clenN ∨ x = expectN := by
    intro x hx
    unfold ten at hx
    simp only [List.mem_cons, List.not_mem_nil, or_false] at hx
    rcases hx with rfl | rfl | rfl | rfl | rfl | rfl | rfl | rfl | rfl | rfl <;> simp [nine]
  rcases h3 n hn with h | h | h
  · exact clean_strip fs m via host port n (List.mem_append_right _ h) (h12 n hn).1 (h12 n hn).2
  · exact values_sent fs m via host port n (h12 n hn).1 (h12 n hn).2 (values_low _ n ⟨#[99, 111, 110, 116, 101, 110, 116, 45, 108, 101, 110, 103, 116, 104]⟩ four (by rw [h]; decide) (by simp [four]))
  · exact values_sent fs m via host port n (h12 n hn).1 (h12 n hn).2 (values_low _ n ⟨#[101, 120, 112, 101, 99, 116]⟩ four (by rw [h]; decide) (by simp [four]))
theorem values_sent_host (fs : List FD) (m : Int) (via host : ByteArray) (port : Int) : values (sent fs m via host port) hostN = [hostOf host port] := by
  rw [sent_eq, values_append, values_append, values_low _ hostN ⟨#[104, 111, 115, 116]⟩ four (by decide) (by simp [four]), values_cons, values_cons, if_pos (is_self _ _), if_neg (by rw [is_of_fold (by decide)]; simp)]
  rfl
theorem bulk_sent (fs : List FD) (m : Int) (via host : ByteArray) (port : Int) : bulk (sent fs m via host port) ≤ bulk fs + (hostOf host port).size + (viaOf fs m via).size + 9 := by
  rw [sent_eq, bulk_append, bulk_append]
  have h1 := bulk_without (strip fs) four
  have h2 := bulk_strip fs
  have e1 : via3.size = 3 := rfl
  have e2 : hostN.size = 4 := rfl
  simp only [bulk]
  omega
end F
end Go.Proofs.YteehjkfmlcfffaaGreatDoor

namespace Go.Proofs.YteehjkfmlcfffaaGreatDoor
open Go
namespace F
def good (v : ByteArray) : Bool := (L v).all T.textB && decide (T.trim (L v) = L v)
def okF (f : FD) : Bool := T.token (L f.1) && good f.2
def line (f : FD) : List UInt8 := L f.1 ++ [58, 32] ++ L f.2 ++ [13, 10]
def lines (fs : List FD) : List UInt8 := fs.flatMap line
def visB (c : UInt8) : Bool := decide (33 ≤ c.toNat) && decide (c.toNat ≤ 126)
def visible (s : ByteArray) : Bool := (L s).all visB && !(L s).isEmpty
def text (s : ByteArray) : Bool := (L s).all T.textB
/-- The error of Print. -/
def printE (fs : List FD) : Int := if fs.all okF then (if 100 < fs.length then 42 else 0) else 40
def printB (fs : List FD) : List UInt8 := if printE fs = 0 then lines fs else []
/-- The error and the bytes of a head with that first line. -/
def wholeE (l : List UInt8) (fs : List FD) : Int := if printE fs = 0 then (if 8192 < l.length + (lines fs).length + 4 then 51 else 0) else printE fs
def wholeB (l : List UInt8) (fs : List FD) : List UInt8 := if wholeE l fs = 0 then l ++ [13, 10] ++ lines fs ++ [13, 10] else []
def httpT : List UInt8 := [32, 72, 84, 84, 80, 47, 49, 46]
def reqLine (m t : ByteArray) (n : Int) : List UInt8 := L m ++ [32] ++ L t ++ httpT ++ Lib.itoa n
def reqOk (m t : ByteArray) (n : Int) : Bool := T.token (L m) && visible t && decide (0 ≤ n) && decide (n ≤ 1)
def reqE (m t : ByteArray) (n : Int) (fs : List FD) : Int := if reqOk m t n then wholeE (reqLine m t n) fs else 50
def reqB (m t : ByteArray) (n : Int) (fs : List FD) : List UInt8 := if reqOk m t n then wholeB (reqLine m t n) fs else []
def respLine (s : Int) (r : ByteArray) (n : Int) : List UInt8 := [72, 84, 84, 80, 47, 49, 46] ++ Lib.itoa n ++ [32] ++ Lib.itoa s ++ [32] ++ L r
def respE (s : Int) (r : ByteArray) (n : Int) (fs : List FD) : Int := if n < 0 ∨ 1 < n ∨ text r = false then 50 else if s < 100 ∨ 599 < s then 53 else wholeE (respLine s r n) fs
def respB (s : Int) (r : ByteArray) (n : Int) (fs : List FD) : List UInt8 := if respE s r n fs = 0 then wholeB (respLine s r n) fs else []

theorem lines_snoc (fs : List FD) (k : Nat) (h : k < fs.length) : lines (fs.take (k + 1)) = lines (fs.take k) ++ line fs[k] := by
  unfold lines
  rw [List.take_succ_eq_append_getElem h, List.flatMap_append]
  simp
theorem line_len (f : FD) : (line f).length = f.1.size + f.2.size + 4 := by
  unfold line
  simp only [List.length_append, List.length_cons, List.length_nil, L_size]
  omega
theorem lines_len : ∀ fs : List FD, (lines fs).length ≤ 4 * bulk fs
  | [] => Nat.le_refl _
  | f :: l => by
    have := lines_len l
    have h := line_len f
    unfold lines at this ⊢
    rw [List.flatMap_cons, List.length_append, h]
    simp only [bulk]
    omega
theorem lines_take (fs : List FD) (k : Nat) : (lines (fs.take k)).length ≤ (lines fs).length := by
  conv => rhs; rw [← List.take_append_drop k fs]
  unfold lines
  rw [List.flatMap_append, List.length_append]
  omega
theorem all_take_succ (p : FD → Bool) (fs : List FD) (k : Nat) (h : k < fs.length) : (fs.take (k + 1)).all p = ((fs.take k).all p && p fs[k]) := by
  rw [List.take_succ_eq_append_getElem h, List.all_append]
  simp
theorem all_false_at (p : FD → Bool) (fs : List FD) (k : Nat) (h : k < fs.length) (hp : p fs[k] = false) : fs.all p = false := by
  rw [List.all_eq_false]
  exact ⟨_, List.getElem_mem h, by simp [hp]⟩
theorem printE_bad {fs : List FD} (h : fs.all okF = false) : printE fs = 40 := by unfold printE; simp [h]
theorem printE_many {fs : List FD} (h : fs.all okF = true) (h2 : 100 < fs.length) : printE fs = 42 := by unfold printE; simp [h, h2]
theorem printE_ok {fs : List FD} (h : fs.all okF = true) (h2 : ¬ 100 < fs.length) : printE fs = 0 := by unfold printE; simp [h, h2]
theorem printB_ok {fs : List FD} (h : printE fs = 0) : printB fs = lines fs := if_pos h
theorem printB_bad {fs : List FD} (h : printE fs ≠ 0) : printB fs = [] := if_neg h
theorem printE_cases (fs : List FD) : printE fs = 0 ∨ printE fs = 40 ∨ printE fs = 42 := by
  unfold printE
  split <;> (try split) <;> simp
theorem wholeB_len (l : List UInt8) (fs : List FD) : (wholeB l fs).length ≤ 8192 := by
  unfold wholeB
  split
  · rename_i h
    unfold wholeE at h
    split at h
    · split at h
      · cases h
      · simp only [List.length_append, List.length_cons, List.length_nil]; omega
    · rename_i h2
      exact absurd h h2
  · simp
end F
end Go.Proofs.YteehjkfmlcfffaaGreatDoor

namespace Go.Proofs.YteehjkfmlcfffaaGreatDoor

namespace F
def connN : ByteArray := ⟨#[67, 111, 110, 110, 101, 99, 116, 105, 111, 110]⟩
def closeN : ByteArray := ⟨#[99, 108, 111, 115, 101]⟩
/-- 'Connection' and 'Transfer-Encoding'; the same in small letters. -/
def two : List ByteArray := [connN, ⟨#[84, 114, 97, 110, 115, 102, 101, 114, 45, 69, 110, 99, 111, 100, 105, 110, 103]⟩]
/-- A response without a body. -/
def bareOf (s : Int) (method : ByteArray) : Bool := decide (L method = [72, 69, 65, 68]) || decide (100 ≤ s ∧ s ≤ 199) || decide (s = 204) || decide (s = 304) || (decide (L method = [67, 79, 78, 78, 69, 67, 84]) && decide (200 ≤ s ∧ s ≤ 299))
def lastF (last : Bool) : List FD := if last then [(connN, closeN)] else []
def outF (fs : List FD) (bare last : Bool) (k : Nat) : List FD := (if bare then without fs two else put (without fs two) clenN (B (Lib.itoa k))) ++ lastF last
def bytesE (s : Int) (r : ByteArray) (m : Int) (fs : List FD) (bare last : Bool) (k : Nat) : Int := if 65536 < k then 71 else respE s r m (outF fs bare last k)
def bytesB (s : Int) (r : ByteArray) (m : Int) (fs : List FD) (bare last : Bool) (body : List UInt8) : List UInt8 :=
  if bytesE s r m fs bare last body.length = 0 then respB s r m (outF fs bare last body.length) ++ (if bare then [] else body) else []
theorem bulk_out (fs : List FD) (bare last : Bool) (k : Nat) (hk : k ≤ 1099511627776) : bulk (outF fs bare last k) ≤ bulk fs + 64 := by
  have h3 : (B (Lib.itoa k)).size ≤ 21 := by rw [B_size]; exact Lib.itoa_length_le k (by omega) (by omega)
  have e1 : clenN.size = 14 := rfl
  have e2 : connN.size = 10 := rfl
  have e3 : closeN.size = 5 := rfl
  have h1 := bulk_without fs two
  have h2 := bulk_without (without fs two) [clenN]
  have h4 : bulk (lastF last) ≤ 16 := by
    unfold lastF
    split
    · simp only [bulk]; omega
    · simp only [bulk]; omega
  unfold outF
  rw [bulk_append]
  split
  · omega
  · unfold put
    rw [bulk_append]
    simp only [bulk]
    omega
end F
theorem div_hundred (s : Int) : (Int.tdiv s 100 = 1 ↔ 100 ≤ s ∧ s ≤ 199) ∧ (Int.tdiv s 100 = 2 ↔ 200 ≤ s ∧ s ≤ 299) := by
  rcases Int.le_total 0 s with h | h
  · rw [Int.tdiv_eq_ediv_of_nonneg h]
    constructor <;> omega
  · have e : Int.tdiv s 100 ≤ 0 := by
      have := Int.tdiv_nonneg (a := -s) (b := 100) (by omega) (by omega)
      rw [Int.neg_tdiv] at this
      omega
    constructor <;> omega
theorem respB_len (s : Int) (r : ByteArray) (m : Int) (fs : List FD) : (F.respB s r m fs).length ≤ 8192 := by
  unfold F.respB
  split
  · exact F.wholeB_len _ _
  · simp
theorem bytesB_len (s : Int) (r : ByteArray) (m : Int) (fs : List FD) (bare last : Bool) (body : List UInt8) : (F.bytesB s r m fs bare last body).length ≤ 8192 + body.length := by
  have h := respB_len s r m (F.outF fs bare last body.length)
  unfold F.bytesB
  split
  · rw [List.length_append]
    split
    · simp only [List.length_nil]; omega
    · omega
  · simp
end Go.Proofs.YteehjkfmlcfffaaGreatDoor

namespace Go.Proofs.YteehjkfmlcfffaaGreatDoor

theorem B_size' (l : List UInt8) : (B l).size = l.length := by
  show l.toArray.size = l.length
  simp
namespace P
open T (Bs)
def crlf : Bs := [13, 10]
def crlf2 : Bs := [13, 10, 13, 10]
def eol (c : UInt8) : Bool := c == 13 || c == 10
def upto (p : UInt8 → Bool) (l : Bs) : Bs := l.takeWhile fun c => !p c
def from_ (p : UInt8 → Bool) (l : Bs) : Bs := l.dropWhile fun c => !p c
theorem upto_from (p : UInt8 → Bool) (l : Bs) : upto p l ++ from_ p l = l := List.takeWhile_append_dropWhile
theorem upto_len (p : UInt8 → Bool) (l : Bs) : (upto p l).length + (from_ p l).length = l.length := by
  have := congrArg List.length (upto_from p l)
  rwa [List.length_append] at this
/-- A line's name, value, error, field. -/
def nameOf (l : Bs) : Bs := upto (· == 58) l
def valOf (l : Bs) : Bs := T.trim ((from_ (· == 58) l).drop 1)
def oneE (l : Bs) : Int := if l.head? = some 32 ∨ l.head? = some 9 then 41 else if from_ (· == 58) l = [] ∨ T.token (nameOf l) = false ∨ F.good (B (valOf l)) = false then 40 else 0
def oneF (l : Bs) : FD := (B (nameOf l), B (valOf l))
theorem one_small (l : Bs) : (oneF l).1.size + (oneF l).2.size ≤ l.length := by
  have h1 := upto_len (· == 58) l
  have h2 := T.trim_len ((from_ (· == 58) l).drop 1)
  unfold oneF
  rw [B_size', B_size']
  unfold nameOf valOf
  rw [List.length_drop] at h2
  omega
/-- The fields of lines: what stands behind 'out', and the error. -/
def parse (out : List FD) (l : Bs) : List FD × Int :=
  if l = [] then (out, 0) else
  match _h : from_ eol l with
  | 13 :: 10 :: r => if oneE (upto eol l) ≠ 0 then ([], oneE (upto eol l)) else if out.length = 100 then ([], 42) else parse (out ++ [oneF (upto eol l)]) r
  | _ => ([], 40)
termination_by l.length
decreasing_by
  have h1 := upto_len eol l
  rw [_h] at h1
  simp only [List.length_cons] at h1
  omega
theorem upto_eq {p : UInt8 → Bool} {l : Bs} {k : Nat} (hk : k ≤ l.length) (hall : ∀ j (h : j < l.length), j < k → p l[j] = false) (hstop : ∀ h : k < l.length, p l[k] = true) : upto p l = l.take k ∧ from_ p l = l.drop k := by
  induction l generalizing k with
  | nil => simp [upto, from_]
  | cons x l ih =>
    cases k with
    | zero =>
      have hx : p x = true := hstop (by simp)
      simp [upto, from_, hx]
    | succ k =>
      have hx : p x = false := hall 0 (by simp) (by omega)
      have := ih (k := k) (by simpa using hk) (fun j h hj => by have := hall (j + 1) (by simpa using h) (by omega); simpa using this) (fun h => by have := hstop (by simpa using h); simpa using this)
      unfold upto from_ at this ⊢
      simp [hx, this.1, this.2]
theorem from_nil {p : UInt8 → Bool} {l : Bs} : from_ p l = [] ↔ ∀ x ∈ l, p x = false := by
  unfold from_
  induction l with
  | nil => simp
  | cons x l ih =>
    cases hx : p x
    · simp [hx, ih]
    · simp [hx]
theorem upto_all {p : UInt8 → Bool} {l : Bs} : ∀ x ∈ upto p l, p x = false := by
  unfold upto
  induction l with
  | nil => simp
  | cons x l ih =>
    cases hx : p x
    · simp only [List.takeWhile_cons, hx, Bool.not_false, if_true]
      intro y hy
      rcases List.mem_cons.1 hy with rfl | hy
      · exact hx
      · exact ih y hy
    · simp [hx]
theorem from_head {p : UInt8 → Bool} {l : Bs} {x : UInt8} {r : Bs} (h : from_ p l = x :: r) : p x = true := by
  have := List.head_dropWhile_not (fun c => !p c) (l := l) (by unfold from_ at h; rw [h]; simp)
  unfold from_ at h
  simp only [h, List.head_cons] at this
  simpa using this

theorem parse_nil (out : List FD) : parse out [] = (out, 0) := by
  rw [parse.eq_def, if_pos rfl]
theorem parse_bad {l : Bs} (out : List FD) (h0 : l ≠ []) (h : ∀ r, from_ eol l ≠ 13 :: 10 :: r) : parse out l = ([], 40) := by
  rw [parse.eq_def, if_neg h0]
  split
  · rename_i r hr
    exact absurd hr (h r)
  · rfl
theorem parse_step {l r : Bs} (out : List FD) (h0 : l ≠ []) (h : from_ eol l = 13 :: 10 :: r) : parse out l = if oneE (upto eol l) ≠ 0 then ([], oneE (upto eol l)) else if out.length = 100 then ([], 42) else parse (out ++ [oneF (upto eol l)]) r := by
  rw [parse.eq_def, if_neg h0]
  split
  · rename_i r' hr
    rw [h] at hr
    injection hr with _ hr
    injection hr with _ hr
    subst hr
    rfl
  · rename_i hr
    exact absurd h (hr r)
theorem parse_cases (l : Bs) : l = [] ∨ (l ≠ [] ∧ ∀ r, from_ eol l ≠ 13 :: 10 :: r) ∨ (l ≠ [] ∧ ∃ r, from_ eol l = 13 :: 10 :: r) := by
  by_cases h0 : l = []
  · exact .inl h0
  · by_cases h : ∃ r, from_ eol l = 13 :: 10 :: r
    · exact .inr (.inr ⟨h0, h⟩)
    · exact .inr (.inl ⟨h0, fun r hr => h ⟨r, hr⟩⟩)
theorem parse_facts : ∀ (k : Nat) (out : List FD) (l : Bs), l.length ≤ k → out.length ≤ 100 → F.bulk (parse out l).1 ≤ F.bulk out + l.length ∧ (parse out l).1.length ≤ 100 ∧ ((parse out l).2 ≠ 0 → (parse out l).1 = [])
  | k, out, l, hk, ho => by
    rcases parse_cases l with h | ⟨h0, h⟩ | ⟨h0, r, h⟩
    · subst h
      rw [parse_nil]
      exact ⟨Nat.le_add_right _ _, ho, fun h => absurd rfl h⟩
    · rw [parse_bad out h0 h]
      exact ⟨Nat.zero_le _, Nat.zero_le _, fun _ => rfl⟩
    · rw [parse_step out h0 h]
      have hl := upto_len eol l
      rw [h] at hl
      simp only [List.length_cons] at hl
      split
      · exact ⟨Nat.zero_le _, Nat.zero_le _, fun _ => rfl⟩
      · split
        · exact ⟨Nat.zero_le _, Nat.zero_le _, fun _ => rfl⟩
        · rename_i h100
          cases k with
          | zero => omega
          | succ k =>
            obtain ⟨g1, g2, g3⟩ := parse_facts k (out ++ [oneF (upto eol l)]) r (by omega) (by rw [List.length_append]; simp only [List.length_cons, List.length_nil]; omega)
            refine ⟨?_, g2, g3⟩
            rw [F.bulk_append] at g1
            simp only [F.bulk] at g1
            have := one_small (upto eol l)
            omega

/-! ### The head -/
def skip : Bs → Nat
  | 13 :: 10 :: r => skip r + 2
  | _ => 0
/-- Where the empty line is, from a place on; -1: nowhere. -/
def hIdx (b : Bs) (s : Nat) : Int := Lib.index (b.drop s) crlf2
def hE (b : Bs) (s : Nat) : Int := if hIdx b s < 0 then (if b.length < 8192 then 0 else 51) else if 8192 < s + hIdx b s + 4 then 51 else 0
def hN (b : Bs) (s : Nat) : Int := if hIdx b s < 0 ∨ 8192 < s + hIdx b s + 4 then 0 else s + hIdx b s + 4
def hText (b : Bs) (s : Nat) : Bs := (b.drop s).take (hIdx b s + 2).toNat
def hLine (b : Bs) (s : Nat) : Bs := (hText b s).take (Lib.index (hText b s) crlf).toNat
def hBlock (b : Bs) (s : Nat) : Bs := (hText b s).drop ((Lib.index (hText b s) crlf).toNat + 2)

def dig (c : UInt8) : Bool := decide (48 ≤ c.toNat) && decide (c.toNat ≤ 57)
def http10 : Bs := [72, 84, 84, 80, 47, 49, 46, 48]
def http11 : Bs := [72, 84, 84, 80, 47, 49, 46, 49]
def verShape (l : Bs) : Bool := decide (l.length = 8) && decide (l.take 5 = [72, 84, 84, 80, 47]) && dig (l.getD 5 0) && decide (l.getD 6 0 = 46) && dig (l.getD 7 0)
def verE (l : Bs) : Int := if verShape l = false then 50 else if l = http10 ∨ l = http11 then 0 else 52
def verN (l : Bs) : Int := if l = http11 then 1 else 0

structure RQ where
  m : ByteArray
  t : ByteArray
  v : Int
  fs : List FD
  n : Int
  e : Int
def RQ.bad (e : Int) : RQ := ⟨⟨#[]⟩, ⟨#[]⟩, 0, [], 0, e⟩
def sp (c : UInt8) : Bool := c == 32
def methodOf (l : Bs) : Bs := upto sp l
def behind (l : Bs) : Bs := (from_ sp l).drop 1
def hostsOf (fs : List FD) : Int := (F.values fs ⟨#[72, 111, 115, 116]⟩).length
def reqOf (line block : Bs) (n : Int) : RQ :=
  if T.token (methodOf line) = false ∨ F.visible (B (methodOf (behind line))) = false then .bad 50
  else if verE (behind (behind line)) ≠ 0 then .bad (verE (behind (behind line)))
  else if (parse [] block).2 ≠ 0 then .bad (parse [] block).2
  else if hostsOf (parse [] block).1 > 1 ∨ hostsOf (parse [] block).1 < verN (behind (behind line)) then .bad 40
  else ⟨B (methodOf line), B (methodOf (behind line)), verN (behind (behind line)), (parse [] block).1, n, 0⟩
def request (b : Bs) : RQ := if hE b (skip b) ≠ 0 ∨ hN b (skip b) = 0 then .bad (hE b (skip b)) else reqOf (hLine b (skip b)) (hBlock b (skip b)) (hN b (skip b))
end P
end Go.Proofs.YteehjkfmlcfffaaGreatDoor
