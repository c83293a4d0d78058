/- The contracts of hop.Request and of its document's twin; the walk of the law HopSends. Conditions: lists of bulk at most 2^20, texts of at most 2^20 bytes, numbers of 64 bits, the library's table of powers of ten. -/
import Derived.Test.YtecopkcogobolaaGreatDoorRSend
import Derived.Test.YtecopkcogobolaaGreatDoorReq
import Derived.Test.YtecopkcogobolaaGreatDoorHop
namespace Go.Proofs.YtecopkcogobolaaGreatDoor
open Go.RowKit

theorem three_small : NSmall F.three := by unfold NSmall F.three; decide
theorem four_small : NSmall F.four := by unfold NSmall F.four; decide
theorem hostOf_size (host : ByteArray) (port : Int) (h0 : -9223372036854775808 ≤ port) (h1 : port ≤ 9223372036854775807) : (F.hostOf host port).size ≤ host.size + 22 := by
  have h3 : (B (Lib.itoa port)).size ≤ 21 := by rw [B_size]; exact Lib.itoa_length_le port h0 h1
  have e : (⟨#[58]⟩ : ByteArray).size = 1 := rfl
  unfold F.hostOf
  split
  · omega
  · rw [ByteArray.size_append, ByteArray.size_append]; omega
theorem Rd.some {w : World} {A : Option Addr} {n size : Nat} {xs : List Value} (h : Rd w A n size xs) (hn : 0 < n) (hA : A = none) : False := by
  obtain ⟨b, o, e, _⟩ := h.2 hn
  rw [hA] at e
  cases e

theorem request_any (s r via host path : ByteArray) (m port : Int) (A : Option Addr) (n c : Nat) (fs : List FD) (w : World) (hl : fs.length = n) (hf : F.bulk fs ≤ 1048576) (hx : Rd w A n 2 (fcells fs)) (hnil : A = none → n = 0 ∧ c = 0)
    (h0 : -9223372036854775808 ≤ m) (h1 : m ≤ 9223372036854775807) (p0 : -9223372036854775808 ≤ port) (p1 : port ≤ 9223372036854775807) (hv : via.size ≤ 1048576) (hh : host.size ≤ 1048576) (ht : TabOk w) :
    Calls Tryz.prog 16 #[.agg #[.string s, .string r, .int .i64 m, .slice A n c], .agg #[.string host, .int .i64 port, .string path], .string via] w (RetQ w s (F.pathOf path) 1 (F.sent fs m via host port)) := by
  have zH := hostOf_size host port p0 p1
  have zI : (B (Lib.itoa port)).size ≤ 21 := by rw [B_size]; exact Lib.itoa_length_le port p0 p1
  have hs1 := F.bulk_strip fs
  have hs2 := F.bulk_without (F.strip fs) F.three
  have hs3 := F.len_le_bulk (F.strip fs)
  have hs4 := F.len_le_bulk (F.without (F.strip fs) F.three)
  have e4 : F.hostN.size = 4 := rfl
  have hS := Lib.hid (fun (w1 : World) (hb : Below w.heap.size w w1) => strip_any A n c fs w1 hl (by omega) (hx.below hb) hnil)
  have hW := Lib.hid (fun (A1 : Option Addr) (c1 : Nat) (X : Option Addr) (d : Nat) (w1 : World) (hx1 : Rd w1 A1 (F.strip fs).length 2 (fcells (F.strip fs))) (hn1 : A1 = none → (F.strip fs).length = 0 ∧ c1 = 0) (hX : Rd w1 X 3 1 (scells F.three)) =>
    without_any A1 (F.strip fs).length c1 (F.strip fs) X 3 d F.three w1 (by omega) rfl (small_of_bulk (by omega)) hx1 hn1 (by decide) rfl three_small hX)
  have hV := Lib.hid (fun (A1 : Option Addr) (c1 : Nat) (w1 : World) (hb : Below w.heap.size w w1) (hx1 : Rd w1 A1 (1 + (F.without (F.strip fs) F.three).length) 2 (fcells ([(F.hostN, F.hostOf host port)] ++ F.without (F.strip fs) F.three))) =>
    withVia_any A1 (1 + (F.without (F.strip fs) F.three).length) c1 ([(F.hostN, F.hostOf host port)] ++ F.without (F.strip fs) F.three) A n c fs m via w1 (by rw [List.length_append]; rfl) (by rw [F.bulk_append]; simp only [F.bulk]; omega) hx1 (fun h => (hx1.some (by omega) h).elim) hl (by omega) (hx.below hb) h0 h1 (by omega) (ht.below hb))
  by_cases hp : port = 80
  · have HH : Hid (F.hostOf host port = host) := if_pos hp
    exact request_80 s r via host path (B (Lib.itoa port)) (F.hostOf host port) m port A n c _ _ _ _ _ w hS hW hV (by omega) hp HH
  · have HH : Hid (F.hostOf host port = host ++ (⟨#[58]⟩ ++ B (Lib.itoa port))) := if_neg hp
    have e1 : (⟨#[58]⟩ : ByteArray).size = 1 := rfl
    exact request_port s r via host path (B (Lib.itoa port)) (F.hostOf host port) m port A n c _ _ _ _ _ w hS hW hV (by omega) (Lib.hid (fun w1 hb => itoa_any port p0 p1 w1 (ht.below hb))) (by omega) (by omega) hp HH

theorem sameQ (m : Int) (s r : ByteArray) (A B : Option Addr) (c d : Nat) (xs : List FD) (w : World) (hn : xs.length ≤ 1099511627776) (hx : Rd w A xs.length 2 (fcells xs)) (hy : Rd w B xs.length 2 (fcells xs)) :
    Calls Tryz.prog 25 #[.agg #[.string s, .string r, .int .i64 m, .slice A xs.length c], .agg #[.string s, .string r, .int .i64 m, .slice B xs.length d]] w (RetB w true) := by
  have := sameRequest_any m m s s r r A B xs.length xs.length c d xs xs w hn hn hx hy rfl rfl
  simpa using this
theorem sameR (m s : Int) (r : ByteArray) (A B : Option Addr) (c d : Nat) (xs : List FD) (w : World) (hn : xs.length ≤ 1099511627776) (hx : Rd w A xs.length 2 (fcells xs)) (hy : Rd w B xs.length 2 (fcells xs)) :
    Calls Tryz.prog 26 #[.agg #[.int .i64 s, .string r, .int .i64 m, .slice A xs.length c], .agg #[.int .i64 s, .string r, .int .i64 m, .slice B xs.length d]] w (RetB w true) := by
  have := sameResponse_any s m s m r r A B xs.length xs.length c d xs xs w hn hn hx hy rfl rfl
  simpa using this

/-- The five blocks of the walk; the two lists that were copied. -/
def SendS (w : World) (b3 b4 : Nat) (X T Y X1 Y1 : Array Value) (A1 : Option Addr) (fs : List FD) (A2 : Option Addr) (gs : List FD) (u : World) : Prop :=
  (Blk u w.heap.size X 24 ∧ Blk u (w.heap.size + 1) T 32 ∧ Blk u (w.heap.size + 1 + 1) Y 26 ∧ Blk u b3 X1 24 ∧ Blk u b4 Y1 26) ∧ Rd u A1 fs.length 2 (fcells fs) ∧ Rd u A2 gs.length 2 (fcells gs) ∧ Below w.heap.size w u
theorem SendS.below {w u v : World} {b3 b4 : Nat} {X T Y X1 Y1 : Array Value} {A1 A2 : Option Addr} {fs gs : List FD} (h : SendS w b3 b4 X T Y X1 Y1 A1 fs A2 gs u) (hb : Below u.heap.size u v) : SendS w b3 b4 X T Y X1 Y1 A1 fs A2 gs v :=
  ⟨⟨h.1.1.below hb, h.1.2.1.below hb, h.1.2.2.1.below hb, h.1.2.2.2.1.below hb, h.1.2.2.2.2.below hb⟩, h.2.1.below hb, h.2.2.1.below hb, below_then h.2.2.2.size h.2.2.2 hb⟩

end Go.Proofs.YtecopkcogobolaaGreatDoor
