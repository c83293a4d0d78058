/- What chunk.Decode computes, as plain functions on lists of bytes; what is told of some bytes is told of them with more behind. No program here. The walks of the document's Show, and the contract of strconv.Itoa. Conditions: the number is of 64 bits; for Itoa the library's table of powers of ten is as its text lays it. The walks of CopyBytes, Spare and hop's length. Conditions: lists of at most 2^40 elements, a number of 64 bits, the library's table of powers of ten. What every proof of a row with the listed tables shares: the post out of 'Below', the table out of the row's list, the world of the witness. No condition: plain lemmas. Out of the row's list and the shaped world: the two tables of UTF-8, internal/bytealg.MaxLen. No condition: plain lemmas. -/
import Derived.Test.YtkempjcphpnocaaGreatDoorZ11
import Derived.Lib.AppendIntMem
import Derived.Test.YtkempjcphpnocaaGreatDoorRowA
import Derived.Test.YtkempjcphpnocaaGreatDoorPlainB
import Derived.IntWalk
import Derived.ProofKit
import Derived.OpenShut
import Derived.JoinedCond
import Derived.Deep.DeepHandedRow
import Derived.Lib.LaidTab
import Derived.LaidSub
import Derived.Lay
import Derived.Test.YtkempjcphpnocaaGreatDoorShelf
import Derived.Test.YtkempjcphpnocaaGreatDoorIdxAny
import Derived.Lib.LaidU8
namespace Go.Proofs.YtkempjcphpnocaaGreatDoor
namespace C
open T (Bs)
def hex (c : UInt8) : Int := if 48 ≤ c.toNat ∧ c.toNat ≤ 57 then (c.toNat : Int) - 48 else if 65 ≤ c.toNat ∧ c.toNat ≤ 70 then (c.toNat : Int) - 55 else if 97 ≤ c.toNat ∧ c.toNat ≤ 102 then (c.toNat : Int) - 87 else -1
def isHex (c : UInt8) : Bool := decide (0 ≤ hex c)
def val (l : Bs) : Int := l.foldl (fun a c => a * 16 + hex c) 0
def semi (c : UInt8) : Bool := c == 59
def numOf (l : Bs) : Bs := P.upto semi l
def extOf (l : Bs) : Bs := (P.from_ semi l).drop 1
/-- The size that a line tells; -1: it tells none. -/
def sizeOf (l : Bs) : Int := if numOf l = [] ∨ 8 < (numOf l).length ∨ (numOf l).all isHex = false ∨ F.text (B (extOf l)) = false then -1 else val (numOf l)
def lf (c : UInt8) : Bool := c == 10
/-- Where the first byte 10 is; the length: nowhere. -/
def eolAt (l : Bs) : Nat := (P.upto lf l).length
/-- The size line's error; what it tells: its size, its length (0: more is needed). -/
def lineBad (l : Bs) : Prop := 200 ≤ eolAt l ∨ eolAt l = 0 ∨ l.getD (eolAt l - 1) 0 ≠ 13 ∨ sizeOf (l.take (eolAt l - 1)) < 0
instance (l : Bs) : Decidable (lineBad l) := inferInstanceAs (Decidable (_ ∨ _))
def lineE (l : Bs) : Int := if eolAt l < l.length then (if lineBad l then 70 else 0) else if 200 ≤ l.length then 70 else 0
def lineN (l : Bs) : Nat := if eolAt l < l.length ∧ ¬ lineBad l then eolAt l + 1 else 0
def lineS (l : Bs) : Nat := if eolAt l < l.length ∧ ¬ lineBad l then (sizeOf (l.take (eolAt l - 1))).toNat else 0

structure CD where
  d : Bs
  f : List FD
  n : Nat
  e : Int
def CD.bad (e : Int) : CD := ⟨[], [], 0, e⟩
/-- The trailers' part. -/
def tailE (l : Bs) : Int := if P.crlf.isPrefixOf l then 0 else if P.hE l 0 ≠ 0 ∨ P.hN l 0 = 0 then P.hE l 0 else (P.parse [] (l.take (P.hN l 0 - 2).toNat)).2
def tailN (l : Bs) : Nat := if P.crlf.isPrefixOf l then 2 else if P.hE l 0 ≠ 0 ∨ P.hN l 0 = 0 then 0 else if (P.parse [] (l.take (P.hN l 0 - 2).toNat)).2 ≠ 0 then 0 else (P.hN l 0).toNat
def tailF (l : Bs) : List FD := if P.crlf.isPrefixOf l then [] else if P.hE l 0 ≠ 0 ∨ P.hN l 0 = 0 then [] else (P.parse [] (l.take (P.hN l 0 - 2).toNat)).1
/-- What is read behind 'data', of which the bytes ended at 'at'. -/
def dec (data : Bs) (at_ : Nat) (l : Bs) : CD :=
  if lineE l ≠ 0 ∨ lineN l = 0 then .bad (lineE l)
  else if lineS l = 0 then
    (if tailE (l.drop (lineN l)) ≠ 0 ∨ tailN (l.drop (lineN l)) = 0 then .bad (tailE (l.drop (lineN l))) else ⟨data, tailF (l.drop (lineN l)), at_ + lineN l + tailN (l.drop (lineN l)), 0⟩)
  else if 65536 < data.length + lineS l then .bad 71
  else if _h : (l.drop (lineN l)).length < lineS l + 2 then .bad 0
  else if P.crlf.isPrefixOf (l.drop (lineN l + lineS l)) = false then .bad 70
  else dec (data ++ (l.drop (lineN l)).take (lineS l)) (at_ + lineN l + lineS l + 2) (l.drop (lineN l + lineS l + 2))
termination_by l.length
decreasing_by
  rw [List.length_drop] at _h ⊢
  omega
def decode (b : Bs) : CD := dec [] 0 b

/-! ### With more behind -/
end C
end Go.Proofs.YtkempjcphpnocaaGreatDoor

namespace Go.Proofs.YtkempjcphpnocaaGreatDoor
open Go.RowKit

/-! ### Itoa -/
/-- The table of powers of ten lies as the library's text lays it. -/
def TabOk (w : World) : Prop := Lib.TabIs Tryz.prog w "internal/strconv.uint64pow10" .u64 Lib.pow10Tab
theorem tab_named : ∃ g, Tryz.prog.globalNamed "internal/strconv.uint64pow10" = some g := ⟨4, by kernel_rfl⟩
theorem TabOk.below {w w' : World} (h : TabOk w) (hb : Below w.heap.size w w') : TabOk w' := by
  obtain ⟨g, hg⟩ := tab_named
  unfold TabOk Lib.TabIs at h ⊢
  refine var?_below hb hg ?_ h
  unfold World.var? at h
  rw [hg] at h
  simp only [Option.bind_some] at h
  rcases Nat.lt_or_ge g w.heap.size with hlt | hge
  · exact hlt
  · rw [Array.getElem?_eq_none hge] at h; simp at h
theorem TabOk.alloc {w : World} (h : TabOk w) (o : Obj) : TabOk (w.alloc o) := h.below ((Below.refl _ _).alloc (Nat.le_refl _) _)
theorem itoa_any (n : Int) (h0 : -9223372036854775808 ≤ n) (h1 : n ≤ 9223372036854775807) (w : World) (ht : TabOk w) : Calls Tryz.prog 102 #[.int .i64 n] w (RetS w (B (Lib.itoa n))) := by
  refine (Tryz.strconv_Itoa n h0 h1 w ht).mono ?_
  rintro e w' ⟨rfl, k, os, rfl⟩
  exact ⟨rfl, Lib.below_grow _ w (Nat.le_refl _) k os⟩

/-! ### Show -/
/-- The digits, the lowest first. -/
def lows : Nat → Nat → List UInt8
  | 0, _ => []
  | n + 1, u => if u = 0 then [] else UInt8.ofNat (48 + u % 10) :: lows n (u / 10)
theorem lows_enough : ∀ (n m u : Nat), u ≤ n → u ≤ m → lows n u = lows m u
  | 0, 0, u, _, _ => rfl
  | 0, m + 1, u, h, _ => by
    have : u = 0 := by omega
    subst this; rfl
  | n + 1, 0, u, _, h => by
    have : u = 0 := by omega
    subst this; rfl
  | n + 1, m + 1, u, h, h' => by
    unfold lows
    split
    · rfl
    · rw [lows_enough n m (u / 10) (by omega) (by omega)]
def low (u : Nat) : List UInt8 := lows u u
theorem low_zero : low 0 = [] := rfl
theorem low_pos {u : Nat} (h : 0 < u) : low u = UInt8.ofNat (48 + u % 10) :: low (u / 10) := by
  obtain ⟨n, rfl⟩ : ∃ n, u = n + 1 := ⟨u - 1, by omega⟩
  show lows (n + 1) (n + 1) = _
  rw [lows, if_neg (by omega), low, lows_enough n ((n + 1) / 10) ((n + 1) / 10) (by omega) (Nat.le_refl _)]
theorem dec_low : ∀ u : Nat, 0 < u → Lib.decDigits u = (low u).reverse := by
  intro u
  induction u using Nat.strongRecOn with
  | ind u ih =>
    intro h
    rw [low_pos h, List.reverse_cons]
    rw [Lib.decDigits]
    split
    · rename_i h10
      have : u / 10 = 0 := by omega
      rw [this, low_zero, Nat.mod_eq_of_lt h10]; rfl
    · rw [ih (u / 10) (by omega) (by omega)]
theorem itoa_show (n : Int) (h : n ≠ 0) : Lib.itoa n = ((low n.natAbs) ++ (if n < 0 then [45] else [])).reverse := by
  unfold Lib.itoa
  split
  · rw [dec_low n.natAbs (by omega)]; simp
  · rw [dec_low n.toNat (by omega)]
    have : n.toNat = n.natAbs := by omega
    rw [this]; simp
end Go.Proofs.YtkempjcphpnocaaGreatDoor

namespace Go.Proofs.YtkempjcphpnocaaGreatDoor
open Go.RowKit

/-- A list of bytes of its own, answered. -/
def RetC (w : World) (bs : List UInt8) (e : Ending) (w' : World) : Prop :=
  ∃ A c, e = .returned (.slice A bs.length c) ∧ CRow w' w.heap.size A bs.length c bs ∧ Below w.heap.size w w'

set_option maxHeartbeats 400000 in
theorem copyBytes_any (A : Option Addr) (c : Nat) (bs : List UInt8) (w : World) (hn : bs.length ≤ 1099511627776) (hx : Rd w A bs.length 1 (bcells bs)) :
    Calls Tryz.prog 45 #[.slice A bs.length c] w (RetC w bs) := by
  have HX := Lib.hid (hx.alloc (.cells #[] 5))
  clear hx
  go_enter Tryz.func45, Tryz.ntmps45
  go_wp2_with (at_builtin; refine appC _ rfl (.tmp 5) (.tmp 6) rfl w.heap.size _ 0 0 [] rfl ⟨rfl, Nat.le_refl _, .inl rfl⟩ A bs.length c bs rfl HX.out (by omega) (by rw [World.size_alloc]; omega) ?_; intro A1 c1 w1 hr1 ha1)
  have hb := ((Below.refl w.heap.size w).alloc (Nat.le_refl _) (.cells #[] 5)).trans (ha1.belowC (⟨rfl, Nat.le_refl _, .inl rfl⟩ : CRow _ w.heap.size _ 0 0 []) (by rw [World.size_alloc]; omega))
  have e : 0 + bs.length = bs.length := Nat.zero_add _
  rw [e] at hr1
  go_ret
  exact ⟨A1, c1, rfl, hr1, hb⟩

def marks : List UInt8 := [201, 202, 203, 204, 205, 206, 207, 208]
/-- Grown but for one block. -/
theorem grown_trans {a b c : World} {r : Option Nat} (h1 : Below a.heap.size a b) (h2 : b.grownBy c r) : a.grownBy c r :=
  ⟨h2.os.trans h1.os, h2.tape.trans h1.tape, h2.output.trans h1.output, Nat.le_trans h1.size h2.size, fun k hk hne => (h2.block k (Nat.lt_of_lt_of_le hk h1.size) hne).trans (h1.block k hk)⟩

end Go.Proofs.YtkempjcphpnocaaGreatDoor

namespace Go.Proofs.YtkempjcphpnocaaGreatDoor
open Go.ChangeShapes Go.WideShapes Go.ChangeAt Go.RowKit

section
variable {H : Type} {enc : TypeId × Value → H} {P : Program}
theorem post_of_below {f : Func} {s : ChangeSpec} {apart fresh handsOn again : Bool} {W W' : World} {args : Array Value} {v : Value} {ds gs : List (DataW H)} {before pa pv : List MemPlace}
    (hW : DataW.Whole enc P f.params.toList s.vars apart W args.toList ds gs before)
    (hres : ∀ (b : Nat) (sp : Nat → Bool) (hd : Bool), DataW.TrodAll enc P W' b sp hd f.resultTypes.toList (v.resultList f.resultTypes.size) (s.fn H (ds ++ gs)).results [])
    (hargs : ∀ sp : Nat → Bool, (∀ p ∈ before, sp p.block = true) → DataW.TrodAll enc P W' 0 sp true f.params.toList args.toList (s.fn H (ds ++ gs)).args pa)
    (hvars : ∀ sp : Nat → Bool, (∀ p ∈ before, sp p.block = true) → DataW.TrodVars enc P W' sp s.vars (s.fn H (ds ++ gs)).vars pv)
    (hps : before = pa ++ pv) (hb : Below W.heap.size W W')
    (hok : ∀ (j : Nat) (t : TypeId) (r : Value), f.resultTypes[j]? = some t → (v.resultList f.resultTypes.size)[j]? = some r → Value.okWide P W' .any 0 t r) :
    s.post enc P f apart fresh handsOn again W args v W' := by
  have hlt : ∀ p ∈ before, p.block < W.heap.size := fun p hp => hW.lt p hp
  have hold : ∀ p ∈ before, (fun b => decide (b < W.heap.size)) p.block = true := fun p hp => by simpa using hlt p hp
  refine ⟨ds, gs, before, [], pa, pv, hW, hres _ _ _, hargs _ hold, hvars _ hold, World.keptBut_mono (fun p hp => ⟨hp, ?_⟩) (hb.frame (· ∈ before)), fun _ => ?_⟩
  · rw [hps, List.mem_append] at hp
    exact Or.inr hp
  · obtain ⟨_, _, _, _, _, hz, hn⟩ := hW
    refine ⟨hok, _, _, ([] ++ pa) ++ pv, ⟨[] ++ pa, pv, trodAll_append (hargs _ (fun _ _ => rfl)) (hres _ _ _), hvars _ (fun _ _ => rfl), rfl, ?_, ?_⟩, ?_⟩
    · intro b off hp
      have hin : MemPlace.cell b off ∈ before := by rw [hps]; simpa using hp
      rw [hb.frozen (hlt _ hin)]
      exact hz b off hin
    · intro ha
      have := hn ha
      rw [hps] at this
      simpa using this
    · intro p hp _
      rw [hps]
      simpa using hp
end

theorem own_ : ownKnob Tryz.prog.godebug = none := by kernel_rfl
theorem tab_g : Tryz.prog.globalNamed "internal/strconv.uint64pow10" = some 4 := by kernel_rfl
theorem tab_t : (Tryz.prog.globals[4]?).map (·.type) = some 263 := by kernel_rfl
theorem tab_n : Tryz.prog.cellsOf 263 = 20 := by kernel_rfl
theorem tab_e : Tryz.prog.cellsOf 158 = 1 := by kernel_rfl
theorem tab_ul : Tryz.prog.underlying 263 = some (.array 20 158) := by kernel_rfl
theorem tab_ue : Tryz.prog.underlying 158 = some (.int .u64) := by kernel_rfl
/-- Out of the row's list: the table lies as the library's text lays it. -/
theorem tab_of {W : World} {laid : List (String × DataW Unit)} (h : laidMetH Tryz.prog laid W)
    (hm : laid.filter (fun x => x.1 == "internal/strconv.uint64pow10") = [("internal/strconv.uint64pow10", Rows.laid_internal_strconv_uint64pow10)]) : TabOk W := by
  have h1 := h.filter (fun x => x.1 == "internal/strconv.uint64pow10")
  rw [hm] at h1
  exact Lib.tabIs_of_head (rest := []) tab_g tab_t tab_ul tab_ue tab_e tab_n h1
theorem int_bounds {a : Int} (h : (Lit.int .i64 a).wf = true) : -9223372036854775808 ≤ a ∧ a ≤ 9223372036854775807 := by
  unfold Lit.wf at h
  rw [Bool.and_eq_true, decide_eq_true_eq, decide_eq_true_eq] at h
  exact h
end Go.Proofs.YtkempjcphpnocaaGreatDoor

namespace Go.Proofs.YtkempjcphpnocaaGreatDoor
open Go.Lib

theorem first_eq : Rows.laid_unicode_utf8_first = firstData := by kernel_rfl
theorem accept_eq : (Rows.laid_unicode_utf8_acceptRanges : DataW Unit) = acceptData := by kernel_rfl
theorem u8_extra : U8Extra Tryz.prog Tryz.lays260_ren :=
  ⟨by kernel_rfl, by kernel_rfl, by kernel_rfl, by kernel_rfl, by kernel_rfl, by kernel_rfl, by kernel_rfl⟩
/-- Out of the row's list: both tables lie as the library's text lays them. -/
theorem u8_of {W : World} {laid : List (String × DataW Unit)} (h : laidMetH Tryz.prog laid W)
    (hm : laid.filter (fun x => x.1 == "unicode/utf8.acceptRanges" || x.1 == "unicode/utf8.first") = [("unicode/utf8.acceptRanges", Rows.laid_unicode_utf8_acceptRanges), ("unicode/utf8.first", Rows.laid_unicode_utf8_first)]) :
    Lib.Utf8Tabs 0 1 W := by
  have h1 := h.filter (fun x => x.1 == "unicode/utf8.acceptRanges" || x.1 == "unicode/utf8.first")
  rw [hm] at h1
  have h2 : laidMet Tryz.prog [("unicode/utf8.acceptRanges", Rows.laid_unicode_utf8_acceptRanges), ("unicode/utf8.first", Rows.laid_unicode_utf8_first)] W := h1
  exact utf8Tabs_of_reads Tryz.lays260 u8_extra (first_eq ▸ laidMet.reads h2 (by simp)) (accept_eq ▸ laidMet.reads h2 (by simp))
theorem lib_of {W : World} {laid : List (String × DataW Unit)} (h : laidMetH Tryz.prog laid W) (hs : W.ShapedOpen Tryz.prog)
    (hm : laid.filter (fun x => x.1 == "unicode/utf8.acceptRanges" || x.1 == "unicode/utf8.first") = [("unicode/utf8.acceptRanges", Rows.laid_unicode_utf8_acceptRanges), ("unicode/utf8.first", Rows.laid_unicode_utf8_first)]) : LibOk W :=
  ⟨u8_of h hm, Tryz.laysM145.s1_3 W hs⟩
end Go.Proofs.YtkempjcphpnocaaGreatDoor
