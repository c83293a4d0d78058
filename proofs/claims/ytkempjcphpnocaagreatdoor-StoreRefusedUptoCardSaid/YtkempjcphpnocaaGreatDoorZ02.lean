/- strconv.Atoi from whatever text, with its two error variables out of the row's list; strings.Trim at the ten digits. Conditions: a text of at most 2^31 bytes; the two variables hold errors. strconv.ParseUint at base 16 and 32 bits, a text of at most eight bytes: the number, or an error. The walks of bytes.IndexByte, bytes.HasSuffix and bytes.Cut at a semicolon; of chunk.size. The walk of the decoder's readSize. The walk of the decoder's readData. The walk of the decoder's readTail. The walks of the decoder's step and of chunk.Decode. The one body that the laws of chunk decode first; what a body's reading answers is within bounds. The walks of the document's hex and size. The walk of the document's size line. The walks of the document's tail and Decode of chunked bodies. How a message's body ends, as plain functions on its fields. No program here. The walks of frame.length, frame.rule, frame.OfRequest, and of the document's number, rule and OfRequest. Conditions: fields of bulk at most 2^30. What a response's reading tells of sizes, and its three ways. No program here. The walks of head.whole, head.PrintRequest and of the document's. Conditions: a list of bulk at most 2^30, texts of at most 2^30 bytes, a number of 64 bits, the library's table of powers of ten. -/
import Derived.Test.YtkempjcphpnocaaGreatDoorZ03
import Derived.Test.YtkempjcphpnocaaGreatDoorZ11
import Derived.Stop.LaidErr
import Derived.LaidLaws
import Derived.Lib.AtoiAllMem
import Derived.Test.YtkempjcphpnocaaGreatDoorHeadB
import Derived.Test.YtkempjcphpnocaaGreatDoorZ14
import Derived.Test.YtkempjcphpnocaaGreatDoorZ16
import Derived.Test.YtkempjcphpnocaaGreatDoorReplyA
import Derived.Test.YtkempjcphpnocaaGreatDoorZ00
import Derived.Test.YtkempjcphpnocaaGreatDoorZ04
import Derived.Test.YtkempjcphpnocaaGreatDoorHeadA
import Derived.Deep.CutBlock
import Derived.Deep.DeepCutAuto
import Derived.IntWalk
import Derived.Test.YtkempjcphpnocaaGreatDoorPlainB
import Derived.Lib.ItoaLen
namespace Go.Proofs.YtkempjcphpnocaaGreatDoor
open Go.RowKit

/-- The variables strconv.ErrSyntax and strconv.ErrRange hold errors. -/
def ErrOk (w : World) : Prop := (∃ t p, w.cell? ⟨5, 0, none⟩ = some (.iface t p)) ∧ ∃ t p, w.cell? ⟨6, 0, none⟩ = some (.iface t p)
theorem ErrOk.below {w w' : World} (h : ErrOk w) (hb : Below w.heap.size w w') : ErrOk w' := by
  obtain ⟨⟨t, p, h1⟩, t2, p2, h2⟩ := h
  exact ⟨⟨t, p, (hb.cell (p := ⟨5, 0, none⟩) (cell_lt h1)).trans h1⟩, t2, p2, (hb.cell (p := ⟨6, 0, none⟩) (cell_lt h2)).trans h2⟩
theorem star_es : "*" ++ "errors.errorString" = "*errors.errorString" := by decide
theorem row_es (u : TypeId) (h : Tryz.prog.typeName? 3 u = some "*errors.errorString") : u = 276 :=
  typeName_ptr_named (nm := "errors.errorString") (by rw [star_es]; kernel_rfl) (by kernel_rfl) (by decide) u (by rw [star_es]; exact h)
theorem gS : Tryz.prog.globalNamed "strconv.ErrSyntax" = some 5 := by kernel_rfl
theorem gST : (Tryz.prog.globals[5]?).map (·.type) = some 196 := by kernel_rfl
theorem gR : Tryz.prog.globalNamed "strconv.ErrRange" = some 6 := by kernel_rfl
theorem gRT : (Tryz.prog.globals[6]?).map (·.type) = some 196 := by kernel_rfl
theorem cells_es : Tryz.prog.cellsOf 278 = 1 := by kernel_rfl
theorem cells_st : Tryz.prog.cellsOf 9 = 1 := by kernel_rfl
/-- Out of the row's list: both variables hold errors. -/
theorem err_of {W : World} {laid : List (String × DataW Unit)} (h : laidMetH Tryz.prog laid W)
    (hm1 : laid.filter (fun x => x.1 == "strconv.ErrSyntax") = [("strconv.ErrSyntax", Rows.laid_strconv_ErrSyntax)]) (hm2 : laid.filter (fun x => x.1 == "strconv.ErrRange") = [("strconv.ErrRange", Rows.laid_strconv_ErrRange)]) : ErrOk W := by
  have h1 := h.filter (fun x => x.1 == "strconv.ErrSyntax")
  have h2 := h.filter (fun x => x.1 == "strconv.ErrRange")
  rw [hm1] at h1
  rw [hm2] at h2
  obtain ⟨a0, s0, hv0, _⟩ := laid_sentinel (r := []) h1 gS gST Tryz.underlying196 row_es Tryz.underlying276 Tryz.underlying278 rfl rfl Tryz.underlying9 cells_es cells_st
  obtain ⟨a1, s1, hv1, _⟩ := laid_sentinel (r := []) h2 gR gRT Tryz.underlying196 row_es Tryz.underlying276 Tryz.underlying278 rfl rfl Tryz.underlying9 cells_es cells_st
  exact ⟨⟨_, _, by have h0 := World.var?_cell gS hv0 0; simpa using h0⟩, _, _, by have h0 := World.var?_cell gR hv1 0; simpa using h0⟩

/-- A number and an error, answered: nil just where the text spells one. -/
def RetA (w : World) (l : List UInt8) (e : Ending) (w' : World) : Prop :=
  ∃ v b, e = .returned (.tuple #[.int .i64 v, b]) ∧ ((b = .nilIface ∧ Lib.atoiAll l = .ok v) ∨ ((∃ t p, b = .iface t (.pointer p)) ∧ ∀ u, Lib.atoiAll l ≠ .ok u)) ∧ Below w.heap.size w w'
theorem atoi_any (s : ByteArray) (w : World) (hs : s.size ≤ 2147483648) (h : ErrOk w) : Calls Tryz.prog 139 #[.string s] w (RetA w (L s)) := by
  obtain ⟨⟨t1, p1, h1⟩, t2, p2, h2⟩ := h
  cases ha : Lib.atoiAll s.data.toList
  case ok v =>
    refine (Tryz.strconv_Atoi_ok s (by omega) v ha w).mono ?_
    rintro e w' ⟨rfl, hw⟩
    refine ⟨v, _, rfl, .inl ⟨rfl, ha⟩, ?_⟩
    rcases hw with rfl | ⟨t, rfl⟩
    · exact Below.refl _ _
    · exact Lib.bytesWorld_below _ _ _
  case range =>
    refine (Tryz.strconv_Atoi_range s (by omega) ha _ w h2 (.inr ⟨_, _, rfl⟩)).mono ?_
    rintro e w' ⟨N, rfl, _, _, hb⟩
    exact ⟨_, _, rfl, .inr ⟨⟨_, _, rfl⟩, fun u hu => by rw [show L s = s.data.toList from rfl, ha] at hu; cases hu⟩, hb⟩
  · refine (Any.strconv_Atoi_syntax Tryz.laysC172 s (by omega) ha _ w h1 (.inr ⟨_, _, rfl⟩)).mono ?_
    rintro e w' ⟨N, rfl, _, _, hb⟩
    exact ⟨_, _, rfl, .inr ⟨⟨_, _, rfl⟩, fun u hu => by rw [show L s = s.data.toList from rfl, ha] at hu; cases hu⟩, hb⟩

def digs : List UInt8 := [48, 49, 50, 51, 52, 53, 54, 55, 56, 57]
theorem dig_digs (c : UInt8) : P.dig c = digs.contains c := by
  have : ∀ n : Fin 256, P.dig (UInt8.ofNat n.1) = digs.contains (UInt8.ofNat n.1) := by decide +kernel
  have h := this ⟨c.toNat, c.toNat_lt⟩
  simpa using h
theorem drop_nil {p : UInt8 → Bool} : ∀ {l : List UInt8}, l.dropWhile p = [] ↔ ∀ x ∈ l, p x = true
  | [] => by simp
  | x :: l => by
    cases hx : p x
    · simp [hx]
    · simp [hx, drop_nil (l := l)]
theorem trim_digs (l : List UInt8) : Lib.trimS l digs = [] ↔ l.all P.dig = true := by
  have e : P.dig = fun c => digs.contains c := funext dig_digs
  unfold Lib.trimS Lib.trimLeftS Lib.trimRightS
  rw [← e, List.all_eq_true]
  constructor
  · intro h
    rw [drop_nil] at h
    have h2 : l.reverse.dropWhile P.dig = [] := by
      cases h3 : l.reverse.dropWhile P.dig with
      | nil => rfl
      | cons x r =>
        have h4 := List.head_dropWhile_not P.dig (l := l.reverse) (by rw [h3]; simp)
        simp only [h3, List.head_cons] at h4
        have h5 := h x (by rw [h3]; simp)
        rw [h4] at h5
        cases h5
    rw [drop_nil] at h2
    exact fun x hx => h2 x (by simpa using hx)
  · intro h
    have h2 : l.reverse.dropWhile P.dig = [] := by
      rw [drop_nil]
      exact fun x hx => h x (by simpa using hx)
    rw [h2]
    rfl
theorem digTrim (s : ByteArray) (w : World) (hs : s.size ≤ 1099511627776) : Calls Tryz.prog 54 #[.string s, .string ⟨#[48, 49, 50, 51, 52, 53, 54, 55, 56, 57]⟩] w (RetS w (B (Lib.trimS (L s) digs))) := by
  refine (Any.strings_Trim_laid Tryz.lays160 (by kernel_rfl) s ⟨#[48, 49, 50, 51, 52, 53, 54, 55, 56, 57]⟩ w (by omega) (by decide) (ascii_of_all (by decide))).mono ?_
  rintro e w' ⟨rfl, hb⟩
  exact ⟨rfl, hb⟩
theorem three_digits : ∀ a b c : Fin 10, (match Lib.atoiAll [UInt8.ofNat (48 + a.1), UInt8.ofNat (48 + b.1), UInt8.ofNat (48 + c.1)] with | .ok v => decide (v = P.stat [UInt8.ofNat (48 + a.1), UInt8.ofNat (48 + b.1), UInt8.ofNat (48 + c.1)]) | _ => false) = true := by decide +kernel
theorem dig_of {c : UInt8} (h : P.dig c = true) : ∃ a : Fin 10, c = UInt8.ofNat (48 + a.1) := by
  unfold P.dig at h
  rw [Bool.and_eq_true, decide_eq_true_eq, decide_eq_true_eq] at h
  refine ⟨⟨c.toNat - 48, by omega⟩, ?_⟩
  apply UInt8.toNat_inj.1
  rw [UInt8.toNat_ofNat']
  have := c.toNat_lt
  show c.toNat = (48 + (c.toNat - 48)) % 256
  omega
theorem atoi_code {l : List UInt8} (h : P.code3 l = true) : Lib.atoiAll l = .ok (P.stat l) := by
  unfold P.code3 at h
  rw [Bool.and_eq_true, decide_eq_true_eq, List.all_eq_true] at h
  match l, h with
  | [x, y, z], ⟨_, h⟩ =>
    obtain ⟨a, rfl⟩ := dig_of (h x (by simp))
    obtain ⟨b, rfl⟩ := dig_of (h y (by simp))
    obtain ⟨c, rfl⟩ := dig_of (h z (by simp))
    have := three_digits a b c
    split at this
    · rename_i v hv
      rw [hv, of_decide_eq_true this]
    · cases this
end Go.Proofs.YtkempjcphpnocaaGreatDoor

namespace Go.Proofs.YtkempjcphpnocaaGreatDoor
open Go.RowKit

namespace C
theorem val_snoc (l : List UInt8) (c : UInt8) : val (l ++ [c]) = val l * 16 + hex c := by
  unfold val
  rw [List.foldl_append]
  rfl
/-- What internal/strconv.lower answers. -/
def lw (c : UInt8) : Int := bits .or .u8 c.toNat 32
def kindOf (c : UInt8) : Bool :=
  if 48 ≤ c.toNat ∧ c.toNat ≤ 57 then decide (hex c = (c.toNat : Int) - 48) else
  if 97 ≤ lw c ∧ lw c ≤ 102 then decide (hex c = lw c - 87) && c != 95 else
  decide (hex c = -1) && decide (0 ≤ lw c) && decide (lw c < 256) && (c != 95 || decide (lw c = 127))
theorem kind_all : ∀ n : Fin 256, kindOf (UInt8.ofNat n.1) = true := by decide +kernel
theorem kind (c : UInt8) : (48 ≤ c.toNat ∧ c.toNat ≤ 57 ∧ hex c = (c.toNat : Int) - 48) ∨ (¬ (48 ≤ c.toNat ∧ c.toNat ≤ 57) ∧ c.toNat ≠ 95 ∧ 97 ≤ lw c ∧ lw c ≤ 102 ∧ hex c = lw c - 87) ∨ (¬ (48 ≤ c.toNat ∧ c.toNat ≤ 57) ∧ hex c = -1 ∧ 0 ≤ lw c ∧ lw c < 256 ∧ (lw c < 97 ∨ 103 ≤ lw c) ∧ (c.toNat = 95 → lw c = 127)) := by
  have h := kind_all ⟨c.toNat, c.toNat_lt⟩
  simp only [UInt8.ofNat_toNat] at h
  unfold kindOf at h
  split at h
  · rename_i h1
    exact .inl ⟨h1.1, h1.2, of_decide_eq_true h⟩
  · rename_i h1
    split at h
    · rename_i h2
      rw [Bool.and_eq_true, decide_eq_true_eq] at h
      refine .inr (.inl ⟨h1, fun h3 => ?_, h2.1, h2.2, h.1⟩)
      have h4 : c = 95 := UInt8.toNat_inj.1 h3
      rw [h4] at h
      exact absurd h.2 (by decide)
    · rename_i h2
      simp only [Bool.and_eq_true, decide_eq_true_eq, Bool.or_eq_true] at h
      refine .inr (.inr ⟨h1, h.1.1.1, h.1.1.2, h.1.2, by omega, fun h3 => ?_⟩)
      have h4 : c = 95 := UInt8.toNat_inj.1 h3
      rcases h.2 with h5 | h5
      · rw [h4] at h5
        exact absurd h5 (by decide)
      · exact h5
end C

end Go.Proofs.YtkempjcphpnocaaGreatDoor

namespace Go.Proofs.YtkempjcphpnocaaGreatDoor
open Go.RowKit

/-- A slice's address behind its first k elements. -/
def addA (A : Option Addr) (c k : Nat) : Option Addr := if c = k then A else A.map fun x => x.add k
theorem Rd.fromA {w : World} {A : Option Addr} {n c k : Nat} {l : List UInt8} (h : Rd w A n 1 (bcells l)) (hnc : n ≤ c) (hk : k ≤ n) : Rd w (addA A c k) (n - k) 1 (bcells (l.drop k)) := by
  have hl := rd_len h
  by_cases hkn : k = n
  · exact ⟨by simp [bcells, hl], fun h0 => by omega⟩
  · obtain ⟨b, o, rfl, _, _⟩ := h.2 (by omega)
    have e : addA (some ⟨b, o, none⟩) c k = some ⟨b, o + k, none⟩ := by
      unfold addA
      rw [if_neg (by omega)]
      show some ((⟨b, o, none⟩ : Addr).add k) = _
      unfold Addr.add
      split <;> simp_all
    rw [e]
    exact h.from_ hk
end Go.Proofs.YtkempjcphpnocaaGreatDoor

namespace Go.Proofs.YtkempjcphpnocaaGreatDoor
open Go.RowKit

theorem addA_end {A : Option Addr} {c : Nat} : addA A c c = A := if_pos rfl
theorem addA_in {b o c k : Nat} (h : k ≠ c) : addA (some ⟨b, o, none⟩) c k = some ⟨b, o + k, none⟩ := by
  unfold addA
  rw [if_neg (by omega)]
  show some ((⟨b, o, none⟩ : Addr).add k) = _
  unfold Addr.add
  split <;> simp_all
end Go.Proofs.YtkempjcphpnocaaGreatDoor

namespace Go.Proofs.YtkempjcphpnocaaGreatDoor
open Go.RowKit

/-- The trailers' value. -/
def TvRow (w u : World) (fs : List FD) (tv : Value) : Prop := ∃ TA tc, tv = .slice TA fs.length tc ∧ Row u (w.heap.size + 1) 167 2 TA fs.length tc (fcells fs)
theorem TvRow.nil (w u : World) : TvRow w u [] (.slice none 0 0) := ⟨none, 0, rfl, Row.none_ _ _ _ _⟩
end Go.Proofs.YtkempjcphpnocaaGreatDoor

namespace Go.Proofs.YtkempjcphpnocaaGreatDoor
open Go.RowKit

namespace C
/-- What is read from the trailers on; from a chunk's data on. -/
def fin (data : List UInt8) (a : Nat) (l : List UInt8) : CD := if tailE l ≠ 0 ∨ tailN l = 0 then .bad (tailE l) else ⟨data, tailF l, a + tailN l, 0⟩
def dat (data : List UInt8) (z a : Nat) (l : List UInt8) : CD := if l.length < z + 2 then .bad 0 else if P.crlf.isPrefixOf (l.drop z) = false then .bad 70 else dec (data ++ l.take z) (a + z + 2) (l.drop (z + 2))
end C


/-- A body, answered. -/
def RetCD (w : World) (r : C.CD) (e : Ending) (w' : World) : Prop :=
  ∃ A c TA tc, e = .returned (.tuple #[.slice A r.d.length c, .slice TA r.f.length tc, .int .i64 r.n, .int .i64 r.e]) ∧ Row w' w.heap.size 5 1 A r.d.length c (bcells r.d) ∧ Row w' w.heap.size 167 2 TA r.f.length tc (fcells r.f) ∧ Below w.heap.size w w'
theorem RetCD.bad {w w' : World} {r : C.CD} {code : Int} (hb : Below w.heap.size w w') (h : r = .bad code) : RetCD w r (.returned (.tuple #[.slice none 0 0, .slice none 0 0, .int .i64 0, .int .i64 code])) w' := by
  subst h
  exact ⟨none, 0, none, 0, rfl, Row.none_ _ _ _ _, Row.none_ _ _ _ _, hb⟩
end Go.Proofs.YtkempjcphpnocaaGreatDoor

namespace Go.Proofs.YtkempjcphpnocaaGreatDoor
open Go.RowKit

/-- The trailers, answered. -/
def RetTail (w : World) (l : List UInt8) (e : Ending) (w' : World) : Prop :=
  ∃ A c, e = .returned (.tuple #[.slice A (C.tailF l).length c, .int .i64 (C.tailN l), .int .i64 (C.tailE l)]) ∧ Row w' w.heap.size 167 2 A (C.tailF l).length c (fcells (C.tailF l)) ∧ Below w.heap.size w w'
theorem RetTail.bad {w w' : World} {l : List UInt8} {N : Nat} {code : Int} (hb : Below w.heap.size w w') (hf : C.tailF l = []) (hn : C.tailN l = N) (he : C.tailE l = code) : RetTail w l (.returned (.tuple #[.slice none 0 0, .int .i64 N, .int .i64 code])) w' := by
  refine ⟨none, 0, ?_, ?_, hb⟩
  · rw [hf, hn, he]; rfl
  · rw [hf]; exact Row.none_ _ _ _ _
end Go.Proofs.YtkempjcphpnocaaGreatDoor

namespace Go.Proofs.YtkempjcphpnocaaGreatDoor
namespace F
def teN : ByteArray := ⟨#[84, 114, 97, 110, 115, 102, 101, 114, 45, 69, 110, 99, 111, 100, 105, 110, 103]⟩
def clN : ByteArray := ⟨#[67, 111, 110, 116, 101, 110, 116, 45, 76, 101, 110, 103, 116, 104]⟩
def chW : ByteArray := ⟨#[99, 104, 117, 110, 107, 101, 100]⟩
/-- The number of one to 18 digits; -1: it is none. -/
def num (s : ByteArray) : Int := if s.size ≤ 18 then (match Lib.decNat (L s) with | some v => (v : Int) | none => -1) else -1
theorem dig_val (c : UInt8) : P.dig c = true ↔ ∃ d, Lib.digitVal c = some d := by
  unfold P.dig Lib.digitVal
  rw [Bool.and_eq_true, decide_eq_true_eq, decide_eq_true_eq]
  constructor
  · intro h; exact ⟨_, if_pos h⟩
  · rintro ⟨d, h⟩
    split at h
    · rename_i h1; exact h1
    · cases h
/-- All elements of all lengths. -/
def els (vs : List ByteArray) : List ByteArray := vs.flatMap list
/-- What the elements tell: a number, or an error. -/
def lensB (l : List ByteArray) : Bool := l.any fun y => decide (num y < 0 ∨ num y ≠ num (l.headD ⟨#[]⟩))
def lens (l : List ByteArray) : Int × Int := if l = [] ∨ lensB l = true then (0, 60) else if 65536 < num (l.headD ⟨#[]⟩) then (0, 71) else (num (l.headD ⟨#[]⟩), 0)
def Seen (D : List ByteArray) (z : Int) : Prop := (D = [] ∧ z = -1) ∨ (D ≠ [] ∧ 0 ≤ z ∧ ∀ x ∈ D, num x = z)
theorem Seen.head {D r : List ByteArray} {z : Int} (h : Seen D z) (h0 : 0 ≤ z) : num ((D ++ r).headD ⟨#[]⟩) = z := by
  rcases h with ⟨rfl, h⟩ | ⟨h1, _, h2⟩
  · omega
  · cases D with
    | nil => exact absurd rfl h1
    | cons x t => exact h2 x (by simp)
theorem Seen.next {D : List ByteArray} {x : ByteArray} {z : Int} (hs : Seen D z) (h : 0 ≤ num x) (he : 0 ≤ z → z = num x) : Seen (D ++ [x]) (num x) := by
  refine .inr ⟨by simp, h, fun y hy => ?_⟩
  rcases List.mem_append.1 hy with hy | hy
  · rcases hs with ⟨rfl, _⟩ | ⟨_, h0, h2⟩
    · cases hy
    · rw [h2 y hy, he h0]
  · simp only [List.mem_cons, List.mem_nil_iff, or_false] at hy
    rw [hy]
/-- The body's kind, its length, the error. -/
structure FR where
  k : Int
  n : Int
  e : Int
def frame (m : Int) (fs : List FD) (other : Int) : FR :=
  if values fs teN ≠ [] ∧ values fs clN ≠ [] then ⟨0, 0, 61⟩
  else if values fs teN ≠ [] then (if m = 0 ∨ tokens fs teN ≠ [chW] then ⟨0, 0, 62⟩ else ⟨2, 0, 0⟩)
  else if values fs clN = [] then ⟨other, 0, 0⟩
  else if (lens (els (values fs clN))).2 ≠ 0 then ⟨0, 0, (lens (els (values fs clN))).2⟩
  else ⟨1, (lens (els (values fs clN))).1, 0⟩
end F
end Go.Proofs.YtkempjcphpnocaaGreatDoor

namespace Go.Proofs.YtkempjcphpnocaaGreatDoor
namespace P
open T (Bs)
theorem block_lenR (bs : Bs) (s : Nat) : (hBlock bs s).length ≤ bs.length := by
  unfold hBlock hText
  rw [List.length_drop, List.length_take, List.length_drop]
  omega
theorem response_bulk (bs : Bs) : F.bulk (response bs).fs ≤ bs.length ∧ (response bs).r.size ≤ bs.length := by
  have hp := (parse_facts _ [] (hBlock bs 0) (Nat.le_refl _) (Nat.zero_le _)).1
  have hb := block_lenR bs 0
  have hl := hLine_le bs 0
  have h0 : F.bulk [] = 0 := rfl
  have hz : ∀ e : Int, F.bulk (RS.bad e).fs ≤ bs.length ∧ (RS.bad e).r.size ≤ bs.length := fun e => ⟨Nat.zero_le _, Nat.zero_le _⟩
  unfold response
  split
  · exact hz _
  · unfold respOf
    split
    · exact hz _
    · split
      · exact hz _
      · split
        · exact hz _
        · split
          · exact hz _
          · refine ⟨?_, ?_⟩
            · show F.bulk (parse [] (hBlock bs 0)).1 ≤ _
              omega
            · show (B (behind (behind (hLine bs 0)))).size ≤ _
              rw [B_size']
              have h1 := behind_le (behind (hLine bs 0))
              have h2 := behind_le (hLine bs 0)
              omega
end P
end Go.Proofs.YtkempjcphpnocaaGreatDoor

namespace Go.Proofs.YtkempjcphpnocaaGreatDoor
open Go.RowKit

theorem whole_bad {l : List UInt8} {fs : List FD} {c : Int} (h : F.printE fs = c) (hc : c ≠ 0) : F.wholeB l fs = [] ∧ F.wholeE l fs = c := by
  have h1 : F.wholeE l fs = c := by unfold F.wholeE; rw [if_neg (by rw [h]; exact hc), h]
  exact ⟨if_neg (by rw [h1]; exact hc), h1⟩
theorem whole_big {l : List UInt8} {fs : List FD} (h : F.printE fs = 0) (hc : 8192 < l.length + (F.lines fs).length + 4) : F.wholeB l fs = [] ∧ F.wholeE l fs = 51 := by
  have h1 : F.wholeE l fs = 51 := by unfold F.wholeE; rw [if_pos h, if_pos hc]
  exact ⟨if_neg (by rw [h1]; decide), h1⟩
theorem whole_ok {l : List UInt8} {fs : List FD} (h : F.printE fs = 0) (hc : ¬ 8192 < l.length + (F.lines fs).length + 4) : F.wholeB l fs = l ++ [13, 10] ++ F.lines fs ++ [13, 10] ∧ F.wholeE l fs = 0 := by
  have h1 : F.wholeE l fs = 0 := by unfold F.wholeE; rw [if_pos h, if_neg hc]
  exact ⟨if_pos h1, h1⟩

set_option maxRecDepth 100000 in
set_option maxHeartbeats 1000000 in
theorem whole_any (l : ByteArray) (A : Option Addr) (c : Nat) (fs : List FD) (w : World) (hl : l.size ≤ 8589934592) (hf : F.bulk fs ≤ 1073741824) (hx : Rd w A fs.length 2 (fcells fs)) :
    Calls Tryz.prog 101 #[.string l, .slice A fs.length c] w (RetBE w (F.wholeB (L l) fs) (F.wholeE (L l) fs)) := by
  have HP := Lib.hid (print_any A c fs w hf hx)
  have hll := F.lines_len fs
  have hn1 : (F.lines fs).length ≤ 4294967296 := by omega
  have hlz := L_size l
  rcases F.printE_cases fs with hp | hp | hp
  · have HBIG := Lib.hid (fun h => whole_big (l := L l) hp h)
    have HOK := Lib.hid (fun h => whole_ok (l := L l) hp h)
    rw [F.printB_ok hp, hp] at HP
    have HLZ := Lib.hid hlz
    generalize F.wholeB (L l) fs = WB at *
    generalize F.wholeE (L l) fs = WE at *
    obtain ⟨T, hT⟩ : ∃ T, T = B (F.lines fs) := ⟨_, rfl⟩
    have hTl : F.lines fs = L T := by rw [hT]; rfl
    obtain ⟨N, hN⟩ : ∃ N, N = T.size := ⟨_, rfl⟩
    have hNl : (L T).length = N := by rw [hN, L_size]
    rw [hTl] at HBIG HOK HP hn1
    rw [hNl] at HBIG HOK hn1
    have HNL := Lib.hid hNl
    have HN := Lib.hid hN
    clear hp hx hll hlz hT hTl hN hNl
    by_cases hbig : 8192 < l.size + N + 4
    · have HB := Lib.hid (HBIG.out (by have := HLZ.out; omega))
      go_enter Tryz.func101, Tryz.ntmps101
      go_wp2_with fail
      refine HP.out.mono ?_
      rintro e w1 ⟨R, d, rfl, hr, hb1⟩
      rw [HNL.out]
      have HB1 := Lib.hid hb1
      clear HP hr hb1
      go_wp2
      refine bodyPost_ret (v := .tuple #[.slice none 0 0, .int .i64 51]) (by simp [results, Tryz.results101, go_sem]) rfl ?_
      exact RetBE.none_ HB1.out HB.out.1 HB.out.2
    · have HB := Lib.hid (HOK.out (by have := HLZ.out; omega))
      go_enter Tryz.func101, Tryz.ntmps101
      go_wp2_with fail
      refine HP.out.mono ?_
      rintro e w1 ⟨R, d, rfl, hr, hb1⟩
      rw [HNL.out] at hr ⊢
      have hcv1 := conv_bs hr.rd d
      rw [B_L] at hcv1
      have hs1 : l.size + 2 ≤ 9223372036854775807 := by omega
      have hs2 : l.size + 2 + T.size ≤ 9223372036854775807 := by have := HN.out; omega
      have hs3 : l.size + 2 + T.size + 2 ≤ 9223372036854775807 := by have := HN.out; omega
      obtain ⟨cc, W, hcv2, hcr, hcb⟩ := conv_sbC w1 (l ++ ⟨#[13, 10]⟩ ++ T ++ ⟨#[13, 10]⟩)
      have HCR := Lib.hid hcr
      have HB1 := Lib.hid (below_next hb1 hcb)
      have hz1 := hb1.size
      clear HP hr hb1 hcr hcb
      go_wp2
      refine bodyPost_ret (v := .tuple #[.slice (some ⟨w1.heap.size, 0, none⟩) (l ++ ⟨#[13, 10]⟩ ++ T ++ ⟨#[13, 10]⟩).size cc, .int .i64 0]) (by simp [results, Tryz.results101, go_sem]) rfl ?_
      have hL : L (l ++ ⟨#[13, 10]⟩ ++ T ++ ⟨#[13, 10]⟩) = WB := by
        rw [HB.out.1]
        simp only [L_append]
        rfl
      have hS : (l ++ ⟨#[13, 10]⟩ ++ T ++ ⟨#[13, 10]⟩ : ByteArray).size = WB.length := by rw [L_size, hL]
      have hr := HCR.out
      rw [hL, hS] at hr
      rw [HB.out.2, hS]
      exact ⟨_, cc, rfl, hr.mono hz1, HB1.out⟩
  all_goals
    have HB := Lib.hid (whole_bad (l := L l) hp (by decide))
    rw [F.printB_bad (by rw [hp]; decide), hp] at HP
    generalize F.wholeB (L l) fs = WB at *
    generalize F.wholeE (L l) fs = WE at *
    clear hp hx hll hlz hn1
    go_enter Tryz.func101, Tryz.ntmps101
    go_wp2_with fail
    refine HP.out.mono ?_
    rintro e w1 ⟨R, d, rfl, hr, hb1⟩
    have HB1 := Lib.hid hb1
    clear HP hr hb1
    go_wp2
    first
    | (refine bodyPost_ret (v := .tuple #[.slice none 0 0, .int .i64 40]) (by simp [results, Tryz.results101, go_sem]) rfl ?_
       exact RetBE.none_ HB1.out HB.out.1 HB.out.2)
    | (refine bodyPost_ret (v := .tuple #[.slice none 0 0, .int .i64 42]) (by simp [results, Tryz.results101, go_sem]) rfl ?_
       exact RetBE.none_ HB1.out HB.out.1 HB.out.2)

end Go.Proofs.YtkempjcphpnocaaGreatDoor
