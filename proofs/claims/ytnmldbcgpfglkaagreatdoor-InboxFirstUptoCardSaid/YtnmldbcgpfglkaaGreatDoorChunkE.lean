/- The walks of the decoder's step and of chunk.Decode. -/
import Derived.Test.YtnmldbcgpfglkaaGreatDoorChunkD
namespace Go.Proofs.YtnmldbcgpfglkaaGreatDoor
open Go.RowKit

namespace C
/-- What is read from the trailers on; from a chunk's data on. -/
def fin (data : List UInt8) (a : Nat) (l : List UInt8) : CD := if tailE l ≠ 0 ∨ tailN l = 0 then .bad (tailE l) else ⟨data, tailF l, a + tailN l, 0⟩
def dat (data : List UInt8) (z a : Nat) (l : List UInt8) : CD := if l.length < z + 2 then .bad 0 else if P.crlf.isPrefixOf (l.drop z) = false then .bad 70 else dec (data ++ l.take z) (a + z + 2) (l.drop (z + 2))
theorem dec_line (data : List UInt8) (a : Nat) (l : List UInt8) : dec data a l = if lineE l ≠ 0 ∨ lineN l = 0 then .bad (lineE l) else if lineS l = 0 then fin data (a + lineN l) (l.drop (lineN l)) else if 65536 < data.length + lineS l then .bad 71 else dat data (lineS l) (a + lineN l) (l.drop (lineN l)) := by
  rw [dec_eq]
  unfold fin dat
  simp only [List.drop_drop, Nat.add_assoc]
end C

section
variable {w u : World} {A : Option Addr} {n c : Nat} {l : List UInt8} {Da : Option Addr} {dc : Nat} {data : List UInt8}
set_option maxHeartbeats 1000000 in
set_option maxRecDepth 100000 in
theorem step0_any {sz : Int} {tv : Value} (hS : St w u 0 sz A n c l Da dc data tv) (hd : data.length ≤ 65536) (hn : n ≤ 1073741824) (ht : LibOk w) (he : ErrOk w) :
    Calls Tryz.prog 40 #[.pointer (some ⟨w.heap.size, 0, none⟩)] u (RetRS w A n c l Da dc data tv) := by
  have HK := Lib.hid (readSize_any w u sz A n c l Da dc data tv hS hd hn ht he)
  have x1 := hS.cells.2.1
  clear hS ht he
  go_enter Tryz.func40, Tryz.ntmps40
  go_wp2_with fail
  refine HK.out.mono ?_
  rintro e w1 (⟨h1, rfl, h3⟩ | ⟨h1, h2, rfl, h3⟩ | ⟨h1, h2, rfl, h3⟩)
  · have H := Lib.hid (And.intro h1 h3)
    clear HK h1 h3
    go_wp2
    go_ret2
    exact .inl ⟨H.out.1, rfl, H.out.2⟩
  · have H := Lib.hid (And.intro h1 (And.intro h2 h3))
    clear HK h1 h2 h3
    go_wp2
    go_ret2
    exact .inr (.inl ⟨H.out.1, H.out.2.1, rfl, H.out.2.2⟩)
  · have H := Lib.hid (And.intro h1 (And.intro h2 h3))
    clear HK h1 h2 h3
    go_wp2
    go_ret2
    exact .inr (.inr ⟨H.out.1, H.out.2.1, rfl, H.out.2.2⟩)
set_option maxHeartbeats 1000000 in
set_option maxRecDepth 100000 in
theorem step1_any {z : Nat} {tv : Value} (hS : St w u 1 z A n c l Da dc data tv) (hd : data.length + z ≤ 65536) (hn : n ≤ 1073741824) :
    Calls Tryz.prog 40 #[.pointer (some ⟨w.heap.size, 0, none⟩)] u (RetRD w z A n c l data tv) := by
  have HK := Lib.hid (readData_any w u z A n c l Da dc data tv hS hd hn)
  have x1 := hS.cells.2.1
  clear hS
  go_enter Tryz.func40, Tryz.ntmps40
  go_wp2_with fail
  refine HK.out.mono ?_
  rintro e w1 (⟨h1, rfl, h3⟩ | ⟨h1, h2, rfl, h3⟩ | ⟨h1, h2, rfl, h3⟩)
  · have H := Lib.hid (And.intro h1 h3)
    clear HK h1 h3
    go_wp2
    go_ret2
    exact .inl ⟨H.out.1, rfl, H.out.2⟩
  · have H := Lib.hid (And.intro h1 (And.intro h2 h3))
    clear HK h1 h2 h3
    go_wp2
    go_ret2
    exact .inr (.inl ⟨H.out.1, H.out.2.1, rfl, H.out.2.2⟩)
  · have H := Lib.hid (And.intro h1 (And.intro h2 h3))
    clear HK h1 h2 h3
    go_wp2
    go_ret2
    exact .inr (.inr ⟨H.out.1, H.out.2.1, rfl, H.out.2.2⟩)
set_option maxHeartbeats 1000000 in
set_option maxRecDepth 100000 in
theorem step2_any {z : Int} (hS : St w u 2 z A n c l Da dc data (.slice none 0 0)) (hn : n ≤ 1073741824) (ht : LibOk w) :
    Calls Tryz.prog 40 #[.pointer (some ⟨w.heap.size, 0, none⟩)] u (RetRT w z A n c l Da dc data) := by
  have HK := Lib.hid (readTail_any w u z A n c l Da dc data hS hn ht)
  have x1 := hS.cells.2.1
  clear hS ht
  go_enter Tryz.func40, Tryz.ntmps40
  go_wp2_with fail
  refine HK.out.mono ?_
  rintro e w1 (⟨h1, rfl, h3⟩ | ⟨h1, rfl, h3⟩)
  · have H := Lib.hid (And.intro h1 h3)
    clear HK h1 h3
    go_wp2
    go_ret2
    exact .inl ⟨H.out.1, rfl, H.out.2⟩
  · have H := Lib.hid (And.intro h1 h3)
    clear HK h1 h3
    go_wp2
    go_ret2
    exact .inr ⟨H.out.1, rfl, H.out.2⟩
end

/-- A body, answered. -/
def RetCD (w : World) (r : C.CD) (e : Ending) (w' : World) : Prop :=
  ∃ A c TA tc, e = .returned (.tuple #[.slice A r.d.length c, .slice TA r.f.length tc, .int .i64 r.n, .int .i64 r.e]) ∧ Row w' w.heap.size 5 1 A r.d.length c (bcells r.d) ∧ Row w' w.heap.size 72 2 TA r.f.length tc (fcells r.f) ∧ Below w.heap.size w w'
theorem RetCD.bad {w w' : World} {r : C.CD} {code : Int} (hb : Below w.heap.size w w') (h : r = .bad code) : RetCD w r (.returned (.tuple #[.slice none 0 0, .slice none 0 0, .int .i64 0, .int .i64 code])) w' := by
  subst h
  exact ⟨none, 0, none, 0, rfl, Row.none_ _ _ _ _, Row.none_ _ _ _ _, hb⟩
/-- The decoder between two steps. -/
def At (w : World) (bs : List UInt8) (wr : World) : Prop :=
  ∃ (A : Option Addr) (n c : Nat) (l : List UInt8) (Da : Option Addr) (dc : Nat) (data : List UInt8), data.length ≤ 65536 ∧ n ≤ bs.length ∧
    ((∃ sz, St w wr 0 sz A n c l Da dc data (.slice none 0 0) ∧ C.decode bs = C.dec data (bs.length - n) l) ∨
    (∃ z : Nat, St w wr 1 z A n c l Da dc data (.slice none 0 0) ∧ data.length + z ≤ 65536 ∧ C.decode bs = C.dat data z (bs.length - n) l) ∨
    (∃ sz, St w wr 2 sz A n c l Da dc data (.slice none 0 0) ∧ C.decode bs = C.fin data (bs.length - n) l) ∨
    (∃ sz tv fs, St w wr 3 sz A n c l Da dc data tv ∧ TvRow w wr fs tv ∧ C.decode bs = ⟨data, fs, bs.length - n, 0⟩))
def restLen (w wr : World) : Nat := match wr.cell? ⟨w.heap.size, 0, none⟩ with | some (.slice _ n _) => n | _ => 0
theorem restLen_eq {w wr : World} {st sz : Int} {A : Option Addr} {n c : Nat} {l : List UInt8} {Da : Option Addr} {dc : Nat} {data : List UInt8} {tv : Value} (h : St w wr st sz A n c l Da dc data tv) : restLen w wr = n := by
  unfold restLen
  rw [h.cells.1]

set_option maxHeartbeats 2000000 in
set_option maxRecDepth 100000 in
theorem cdecode_any (A : Option Addr) (n c : Nat) (bs : List UInt8) (w : World) (hn : n ≤ 1073741824) (hnc : n ≤ c) (hA : A = none → n = 0 ∧ c = 0) (hpl : ∀ a, A = some a → a.spot = none ∨ c = 0) (hx : Rd w A n 1 (bcells bs)) (ht : LibOk w) (he : ErrOk w) :
    Calls Tryz.prog 17 #[.slice A n c] w (RetCD w (C.decode bs)) := by
  have hll := rd_len hx
  have HS0 : Hid (St w (w.alloc (.cells #[.slice A n c, .int .i64 0, .int .i64 0, .slice none 0 0, .slice none 0 0] 64)) 0 0 A n c bs none 0 [] (.slice none 0 0)) :=
    Lib.hid ⟨Blk.new _ _ _, (Below.refl _ _).alloc (Nat.le_refl _) _, hx, hnc, hA, hpl, Row.none_ _ _ _ _⟩
  have HT := Lib.hid ht
  have HE := Lib.hid he
  clear ht he hx hA hpl
  go_enter Tryz.func17, Tryz.ntmps17
  go_wp2_with fail
  have HA0 : Hid (At w bs (w.alloc (.cells #[.slice A n c, .int .i64 0, .int .i64 0, .slice none 0 0, .slice none 0 0] 64))) :=
    Lib.hid ⟨A, n, c, bs, none, 0, [], by simp, by omega, .inl ⟨0, HS0.out, by rw [hll, Nat.sub_self]; rfl⟩⟩
  clear HS0
  generalize w.alloc (.cells #[.slice A n c, .int .i64 0, .int .i64 0, .slice none 0 0, .slice none 0 0] 64) = w0 at *
  go_loopw [7, 8] (fun _ _ wr => At w bs wr) (fun _ _ wr => restLen w wr)
  case atStart => exact HA0.out
  case round =>
    clear HA0
    obtain ⟨A1, n1, c1, l, Da, dc, data, hd, hn1, hcase⟩ := hrel
    rcases hcase with ⟨sz, hS, hdec⟩ | ⟨z, hS, hz, hdec⟩ | ⟨sz, hS, hdec⟩ | ⟨sz, tv, fs, hS, htv, hdec⟩
    · have HK := Lib.hid (step0_any hS hd (by omega) HT.out HE.out)
      have hl1 := rd_len hS.rd
      have HM := Lib.hid (restLen_eq hS)
      have HD := Lib.hid hdec
      have x1 := hS.cells.2.1
      clear hS hdec
      go_wp2_with fail
      refine HK.out.mono ?_
      rintro e w1 (⟨h1, rfl, h3⟩ | ⟨h1, h2, rfl, h3⟩ | ⟨h1, h2, rfl, h3⟩)
      · have H : Hid (RetCD w (C.decode bs) (.returned (.tuple #[.slice none 0 0, .slice none 0 0, .int .i64 0, .int .i64 (C.lineE l)])) w1) := Lib.hid (RetCD.bad h3 (by rw [HD.out, C.dec_line, if_pos h1]))
        clear HK h1 h3 x1 HD
        go_wp2
        refine bodyPost_ret (v := .tuple #[.slice none 0 0, .slice none 0 0, .int .i64 0, .int .i64 (C.lineE l)]) (by simp [results, Tryz.results17, go_sem]) rfl ?_
        exact H.out
      · have h0 : ¬ C.lineS l = 0 := by omega
        have H : Hid (RetCD w (C.decode bs) (.returned (.tuple #[.slice none 0 0, .slice none 0 0, .int .i64 0, .int .i64 71])) w1) := Lib.hid (RetCD.bad h3 (by rw [HD.out, C.dec_line, if_neg h1, if_neg h0, if_pos h2]))
        clear HK h1 h2 h3 x1 HD h0
        go_wp2
        refine bodyPost_ret (v := .tuple #[.slice none 0 0, .slice none 0 0, .int .i64 0, .int .i64 71]) (by simp [results, Tryz.results17, go_sem]) rfl ?_
        exact H.out
      · have hp := C.lineN_le l
        have hp2 := C.line_pos h1
        have hat : bs.length - (n1 - C.lineN l) = bs.length - n1 + C.lineN l := by omega
        have H : Hid (At w bs w1 ∧ restLen w w1 < restLen w wr) := Lib.hid (by
          refine ⟨⟨addA A1 c1 (C.lineN l), n1 - C.lineN l, c1 - C.lineN l, l.drop (C.lineN l), Da, dc, data, hd, (by omega : n1 - C.lineN l ≤ bs.length), ?_⟩, ?_⟩
          · by_cases h0 : C.lineS l = 0
            · rw [if_pos h0] at h3
              exact .inr (.inr (.inl ⟨_, h3, by rw [HD.out, C.dec_line, if_neg h1, if_pos h0, hat]⟩))
            · rw [if_neg h0] at h3
              exact .inr (.inl ⟨_, h3, by omega, by rw [HD.out, C.dec_line, if_neg h1, if_neg h0, if_neg h2, hat]⟩)
          · rw [HM.out, restLen_eq h3]
            omega)
        clear HK h1 h2 h3 x1 HD hp hp2 hat HM
        go_wp2
        go_roundw
        case rel => exact H.out.1
        case measure => exact H.out.2
    · have HK := Lib.hid (step1_any hS hz (by omega))
      have hl1 := rd_len hS.rd
      have HM := Lib.hid (restLen_eq hS)
      have HD := Lib.hid hdec
      have x1 := hS.cells.2.1
      clear hS hdec
      go_wp2_with fail
      refine HK.out.mono ?_
      rintro e w1 (⟨h1, rfl, h3⟩ | ⟨h1, h2, rfl, h3⟩ | ⟨h1, h2, rfl, h3⟩)
      · have H : Hid (RetCD w (C.decode bs) (.returned (.tuple #[.slice none 0 0, .slice none 0 0, .int .i64 0, .int .i64 0])) w1) := Lib.hid (RetCD.bad h3 (by rw [HD.out]; exact if_pos (by omega)))
        clear HK h1 h3 x1 HD
        go_wp2
        refine bodyPost_ret (v := .tuple #[.slice none 0 0, .slice none 0 0, .int .i64 0, .int .i64 0]) (by simp [results, Tryz.results17, go_sem]) rfl ?_
        exact H.out
      · have H : Hid (RetCD w (C.decode bs) (.returned (.tuple #[.slice none 0 0, .slice none 0 0, .int .i64 0, .int .i64 70])) w1) := Lib.hid (RetCD.bad h3 (by rw [HD.out]; exact (if_neg (by omega)).trans (if_pos h2)))
        clear HK h1 h2 h3 x1 HD
        go_wp2
        refine bodyPost_ret (v := .tuple #[.slice none 0 0, .slice none 0 0, .int .i64 0, .int .i64 70]) (by simp [results, Tryz.results17, go_sem]) rfl ?_
        exact H.out
      · have hat : bs.length - (n1 - (z + 2)) = bs.length - n1 + z + 2 := by omega
        have H : Hid (At w bs w1 ∧ restLen w w1 < restLen w wr) := Lib.hid (by
          obtain ⟨Da', dc', h3⟩ := h3
          refine ⟨⟨_, _, _, _, _, _, _, (by rw [List.length_append, List.length_take]; omega : (data ++ l.take z).length ≤ 65536), (by omega : n1 - (z + 2) ≤ bs.length), .inl ⟨_, h3, ?_⟩⟩, ?_⟩
          · rw [HD.out, hat]
            exact (if_neg (by omega)).trans (if_neg h2)
          · rw [HM.out, restLen_eq h3]
            omega)
        clear HK h1 h2 h3 x1 HD hat HM
        go_wp2
        go_roundw
        case rel => exact H.out.1
        case measure => exact H.out.2
    · have HK := Lib.hid (step2_any hS (by omega) HT.out)
      have hl1 := rd_len hS.rd
      have HM := Lib.hid (restLen_eq hS)
      have HD := Lib.hid hdec
      have x1 := hS.cells.2.1
      clear hS hdec
      go_wp2_with fail
      refine HK.out.mono ?_
      rintro e w1 (⟨h1, rfl, h3⟩ | ⟨h1, rfl, h3⟩)
      · have H : Hid (RetCD w (C.decode bs) (.returned (.tuple #[.slice none 0 0, .slice none 0 0, .int .i64 0, .int .i64 (C.tailE l)])) w1) := Lib.hid (RetCD.bad h3 (by rw [HD.out]; exact if_pos h1))
        clear HK h1 h3 x1 HD
        go_wp2
        refine bodyPost_ret (v := .tuple #[.slice none 0 0, .slice none 0 0, .int .i64 0, .int .i64 (C.tailE l)]) (by simp [results, Tryz.results17, go_sem]) rfl ?_
        exact H.out
      · have hp := (C.tail_pos h1).1
        have hp2 : C.tailN l ≠ 0 := fun h => h1 (.inr h)
        have hat : bs.length - (n1 - C.tailN l) = bs.length - n1 + C.tailN l := by omega
        have H : Hid (At w bs w1 ∧ restLen w w1 < restLen w wr) := Lib.hid (by
          obtain ⟨tv, h3, h4⟩ := h3
          refine ⟨⟨_, _, _, _, _, _, _, hd, (by omega : n1 - C.tailN l ≤ bs.length), .inr (.inr (.inr ⟨_, _, _, h3, h4, ?_⟩))⟩, ?_⟩
          · rw [HD.out, hat]
            exact if_neg h1
          · rw [HM.out, restLen_eq h3]
            omega)
        clear HK h1 h3 x1 HD hat HM hp hp2
        go_wp2
        go_roundw
        case rel => exact H.out.1
        case measure => exact H.out.2
    · obtain ⟨TA, tc, rfl, hr⟩ := htv
      obtain ⟨x0, x1, x2, x3, x4⟩ := hS.cells
      have hd1 := hS.row
      have HZ : Hid (RetCD w (C.decode bs) (.returned (.tuple #[.slice Da data.length dc, .slice TA fs.length tc, .int .i64 ((n : Int) - n1), .int .i64 0])) wr.drew) := Lib.hid (by
        rw [hdec]
        refine ⟨Da, dc, TA, tc, ?_, (hS.row.mono (by omega)).drew, (hr.mono (by omega)).drew, hS.low.drew⟩
        have e : ((bs.length - n1 : Nat) : Int) = (n : Int) - n1 := by omega
        rw [← e])
      clear hS hr hdec hd1
      go_wp2
      go_region
      go_wp2
      refine bodyPost_ret (v := .tuple #[.slice Da data.length dc, .slice TA fs.length tc, .int .i64 ((n : Int) - n1), .int .i64 0]) (by simp [results, Tryz.results17, go_sem]) rfl ?_
      exact HZ.out
end Go.Proofs.YtnmldbcgpfglkaaGreatDoor
