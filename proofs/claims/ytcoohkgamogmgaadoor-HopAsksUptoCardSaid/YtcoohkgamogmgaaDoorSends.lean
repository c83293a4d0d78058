/- The contracts of hop.Request and of its document's twin; the walk of the law HopSends. Conditions: lists of bulk at most 2^20, texts of at most 2^20 bytes, numbers of 64 bits, the library's table of powers of ten. -/
import Derived.Test.YtcoohkgamogmgaaDoorRSend
import Derived.Test.YtcoohkgamogmgaaDoorReq
import Derived.Test.YtcoohkgamogmgaaDoorHop
namespace Go.Proofs.YtcoohkgamogmgaaDoor
open Go.RowKit

theorem three_small : NSmall F.three := by unfold NSmall F.three; decide
theorem four_small : NSmall F.four := by unfold NSmall F.four; decide
theorem hostOf_size (host : ByteArray) (port : Int) (h0 : -9223372036854775808 ≤ port) (h1 : port ≤ 9223372036854775807) : (F.hostOf host port).size ≤ host.size + 22 := by
  have h3 : (B (Lib.itoa port)).size ≤ 21 := by rw [B_size]; exact Lib.itoa_length_le port h0 h1
  have e : (⟨#[58]⟩ : ByteArray).size = 1 := rfl
  unfold F.hostOf
  split
  · omega
  · rw [ByteArray.size_append, ByteArray.size_append]; omega
theorem Rd.some {w : World} {A : Option Addr} {n size : Nat} {xs : List Value} (h : Rd w A n size xs) (hn : 0 < n) (hA : A = none) : False := by
  obtain ⟨b, o, e, _⟩ := h.2 hn
  rw [hA] at e
  cases e

theorem request_any (s r via host path : ByteArray) (m port : Int) (A : Option Addr) (n c : Nat) (fs : List FD) (w : World) (hl : fs.length = n) (hf : F.bulk fs ≤ 1048576) (hx : Rd w A n 2 (fcells fs)) (hnil : A = none → n = 0 ∧ c = 0)
    (h0 : -9223372036854775808 ≤ m) (h1 : m ≤ 9223372036854775807) (p0 : -9223372036854775808 ≤ port) (p1 : port ≤ 9223372036854775807) (hv : via.size ≤ 1048576) (hh : host.size ≤ 1048576) (ht : TabOk w) :
    Calls Tryd.prog 31 #[.agg #[.string s, .string r, .int .i64 m, .slice A n c], .agg #[.string host, .int .i64 port, .string path], .string via] w (RetQ w s (F.pathOf path) 1 (F.sent fs m via host port)) := by
  have zH := hostOf_size host port p0 p1
  have zI : (B (Lib.itoa port)).size ≤ 21 := by rw [B_size]; exact Lib.itoa_length_le port p0 p1
  have hs1 := F.bulk_strip fs
  have hs2 := F.bulk_without (F.strip fs) F.three
  have hs3 := F.len_le_bulk (F.strip fs)
  have hs4 := F.len_le_bulk (F.without (F.strip fs) F.three)
  have e4 : F.hostN.size = 4 := rfl
  have hS := Lib.hid (fun (w1 : World) (hb : Below w.heap.size w w1) => strip_any A n c fs w1 hl (by omega) (hx.below hb) hnil)
  have hW := Lib.hid (fun (A1 : Option Addr) (c1 : Nat) (X : Option Addr) (d : Nat) (w1 : World) (hx1 : Rd w1 A1 (F.strip fs).length 2 (fcells (F.strip fs))) (hn1 : A1 = none → (F.strip fs).length = 0 ∧ c1 = 0) (hX : Rd w1 X 3 1 (scells F.three)) =>
    without_any A1 (F.strip fs).length c1 (F.strip fs) X 3 d F.three w1 (by omega) rfl (small_of_bulk (by omega)) hx1 hn1 (by decide) rfl three_small hX)
  have hV := Lib.hid (fun (A1 : Option Addr) (c1 : Nat) (w1 : World) (hb : Below w.heap.size w w1) (hx1 : Rd w1 A1 (1 + (F.without (F.strip fs) F.three).length) 2 (fcells ([(F.hostN, F.hostOf host port)] ++ F.without (F.strip fs) F.three))) =>
    withVia_any A1 (1 + (F.without (F.strip fs) F.three).length) c1 ([(F.hostN, F.hostOf host port)] ++ F.without (F.strip fs) F.three) A n c fs m via w1 (by rw [List.length_append]; rfl) (by rw [F.bulk_append]; simp only [F.bulk]; omega) hx1 (fun h => (hx1.some (by omega) h).elim) hl (by omega) (hx.below hb) h0 h1 (by omega) (ht.below hb))
  by_cases hp : port = 80
  · have HH : Hid (F.hostOf host port = host) := if_pos hp
    exact request_80 s r via host path (B (Lib.itoa port)) (F.hostOf host port) m port A n c _ _ _ _ _ w hS hW hV (by omega) hp HH
  · have HH : Hid (F.hostOf host port = host ++ (⟨#[58]⟩ ++ B (Lib.itoa port))) := if_neg hp
    have e1 : (⟨#[58]⟩ : ByteArray).size = 1 := rfl
    exact request_port s r via host path (B (Lib.itoa port)) (F.hostOf host port) m port A n c _ _ _ _ _ w hS hW hV (by omega) (Lib.hid (fun w1 hb => itoa_any port p0 p1 w1 (ht.below hb))) (by omega) (by omega) hp HH

theorem refRequest_any (s r via host path : ByteArray) (m port : Int) (A : Option Addr) (n c : Nat) (fs : List FD) (w : World) (hl : fs.length = n) (hf : F.bulk fs ≤ 1048576) (hx : Rd w A n 2 (fcells fs))
    (h0 : -9223372036854775808 ≤ m) (h1 : m ≤ 9223372036854775807) (p0 : -9223372036854775808 ≤ port) (p1 : port ≤ 9223372036854775807) (hv : via.size ≤ 1048576) (hh : host.size ≤ 1048576) :
    Calls Tryd.prog 36 #[.agg #[.string s, .string r, .int .i64 m, .slice A n c], .agg #[.string host, .int .i64 port, .string path], .string via] w (RetQ w s (F.pathOf path) 1 (F.sent fs m via host port)) := by
  have zI : (B (Lib.itoa port)).size ≤ 21 := by rw [B_size]; exact Lib.itoa_length_le port p0 p1
  have hs1 := F.bulk_strip fs
  have hs2 := F.bulk_without (F.strip fs) F.four
  have hs3 := F.len_le_bulk (F.strip fs)
  have hs4 := F.len_le_bulk (F.without (F.strip fs) F.four)
  have hS := Lib.hid (fun (w1 : World) (hb : Below w.heap.size w w1) => refStrip_any A n c fs w1 hl (by omega) (hx.below hb))
  rw [← F.strip_eq] at hS
  have hW := Lib.hid (fun (A1 : Option Addr) (c1 : Nat) (X : Option Addr) (d : Nat) (w1 : World) (hx1 : Rd w1 A1 (F.strip fs).length 2 (fcells (F.strip fs))) (hX : Rd w1 X 4 1 (scells F.four)) =>
    refWithout_any A1 (F.strip fs).length c1 (F.strip fs) X 4 d F.four w1 (by omega) rfl (small_of_bulk (by omega)) hx1 (by decide) rfl four_small hX)
  have hV := Lib.hid (fun (w1 : World) (hb : Below w.heap.size w w1) => via_any A n c fs m via w1 hl (by omega) (hx.below hb) h0 h1 (by omega))
  have HPP : Hid (F.sent fs m via host port = [(F.hostN, F.hostOf host port)] ++ F.without (F.strip fs) F.four ++ [(F.via3, F.viaOf fs m via)]) := F.sent_eq fs m via host port
  have HPL : Hid ((F.sent fs m via host port).length = 1 + (F.without (F.strip fs) F.four).length + 1) := by
    have := HPP.out
    rw [this, List.length_append, List.length_append]; rfl
  have e1 : (⟨#[58]⟩ : ByteArray).size = 1 := rfl
  by_cases hp : port = 80
  · have HH : Hid (F.hostOf host port = host) := if_pos hp
    by_cases he : path = ⟨#[]⟩
    · exact refRequest_e80 s r via host path (B (Lib.itoa port)) (F.hostOf host port) _ m port A n c _ _ _ _ _ w hS hW hV (by omega) HPL HPP (if_pos he) he hp HH
    · exact refRequest_p80 s r via host path (B (Lib.itoa port)) (F.hostOf host port) _ m port A n c _ _ _ _ _ w hS hW hV (by omega) HPL HPP (if_neg he) he hp HH
  · have HH : Hid (F.hostOf host port = host ++ (⟨#[58]⟩ ++ B (Lib.itoa port))) := if_neg hp
    have hI := Lib.hid (fun w1 : World => show_any port w1 p0 p1)
    by_cases he : path = ⟨#[]⟩
    · exact refRequest_ex s r via host path (B (Lib.itoa port)) (F.hostOf host port) _ m port A n c _ _ _ _ _ w hS hW hV (by omega) HPL HPP (if_pos he) he hI (by omega) (by omega) hp HH
    · exact refRequest_px s r via host path (B (Lib.itoa port)) (F.hostOf host port) _ m port A n c _ _ _ _ _ w hS hW hV (by omega) HPL HPP (if_neg he) he hI (by omega) (by omega) hp HH

theorem sameQ (m : Int) (s r : ByteArray) (A B : Option Addr) (c d : Nat) (xs : List FD) (w : World) (hn : xs.length ≤ 1099511627776) (hx : Rd w A xs.length 2 (fcells xs)) (hy : Rd w B xs.length 2 (fcells xs)) :
    Calls Tryd.prog 35 #[.agg #[.string s, .string r, .int .i64 m, .slice A xs.length c], .agg #[.string s, .string r, .int .i64 m, .slice B xs.length d]] w (RetB w true) := by
  have := sameRequest_any m m s s r r A B xs.length xs.length c d xs xs w hn hn hx hy rfl rfl
  simpa using this
theorem sameR (m s : Int) (r : ByteArray) (A B : Option Addr) (c d : Nat) (xs : List FD) (w : World) (hn : xs.length ≤ 1099511627776) (hx : Rd w A xs.length 2 (fcells xs)) (hy : Rd w B xs.length 2 (fcells xs)) :
    Calls Tryd.prog 19 #[.agg #[.int .i64 s, .string r, .int .i64 m, .slice A xs.length c], .agg #[.int .i64 s, .string r, .int .i64 m, .slice B xs.length d]] w (RetB w true) := by
  have := sameResponse_any s m s m r r A B xs.length xs.length c d xs xs w hn hn hx hy rfl rfl
  simpa using this

/-- The five blocks of the walk; the two lists that were copied. -/
def SendS (w : World) (b3 b4 : Nat) (X T Y X1 Y1 : Array Value) (A1 : Option Addr) (fs : List FD) (A2 : Option Addr) (gs : List FD) (u : World) : Prop :=
  (Blk u w.heap.size X 50 ∧ Blk u (w.heap.size + 1) T 52 ∧ Blk u (w.heap.size + 1 + 1) Y 28 ∧ Blk u b3 X1 50 ∧ Blk u b4 Y1 28) ∧ Rd u A1 fs.length 2 (fcells fs) ∧ Rd u A2 gs.length 2 (fcells gs) ∧ Below w.heap.size w u
theorem SendS.below {w u v : World} {b3 b4 : Nat} {X T Y X1 Y1 : Array Value} {A1 A2 : Option Addr} {fs gs : List FD} (h : SendS w b3 b4 X T Y X1 Y1 A1 fs A2 gs u) (hb : Below u.heap.size u v) : SendS w b3 b4 X T Y X1 Y1 A1 fs A2 gs v :=
  ⟨⟨h.1.1.below hb, h.1.2.1.below hb, h.1.2.2.1.below hb, h.1.2.2.2.1.below hb, h.1.2.2.2.2.below hb⟩, h.2.1.below hb, h.2.2.1.below hb, below_then h.2.2.2.size h.2.2.2 hb⟩

set_option maxRecDepth 100000 in
set_option maxHeartbeats 2000000 in
theorem hopSends_any (s r via host path q : ByteArray) (m port t k : Int) (A : Option Addr) (c : Nat) (fs : List FD) (B0 : Option Addr) (d : Nat) (gs : List FD) (w : World)
    (hf : F.bulk fs ≤ 1048576) (hx : Rd w A fs.length 2 (fcells fs)) (hf2 : F.bulk gs ≤ 1048576) (hx2 : Rd w B0 gs.length 2 (fcells gs))
    (h0 : -9223372036854775808 ≤ m) (h1 : m ≤ 9223372036854775807) (p0 : -9223372036854775808 ≤ port) (p1 : port ≤ 9223372036854775807) (k0 : -9223372036854775808 ≤ k) (k1 : k ≤ 9223372036854775807) (hv : via.size ≤ 1048576) (hh : host.size ≤ 1048576) (ht : TabOk w) :
    Calls Tryd.prog 8 #[.agg #[.string s, .string r, .int .i64 m, .slice A fs.length c], .agg #[.string host, .int .i64 port, .string path], .agg #[.int .i64 t, .string q, .int .i64 k, .slice B0 gs.length d], .string via] w (RetB w true) := by
  have zH := hostOf_size host port p0 p1
  have zV := viaOf_size fs m via h0 h1
  have zW := viaOf_size gs k via k0 k1
  have hn := F.len_le_bulk fs
  have hk := F.len_le_bulk gs
  have zP := F.bulk_sent fs m via host port
  have hPL := F.len_le_bulk (F.sent fs m via host port)
  have zR := F.bulk_put (F.strip gs) F.via3 (F.viaOf gs k via)
  have zS := F.bulk_strip gs
  have e3 : F.via3.size = 3 := rfl
  have hRL := F.len_le_bulk (F.put (F.strip gs) F.via3 (F.viaOf gs k via))
  have HA := Lib.hid (fun (w' : World) (hb : Below w.heap.size w w') => alive_any w' (ht.below hb))
  have H1 := Lib.hid (fun (w' : World) (hb : Below w.heap.size w w') => copyRequest_any m s r A fs.length c fs w' rfl (by omega) (hx.below hb))
  have H2 := Lib.hid (fun (w' : World) (hb : Below w.heap.size w w') => copyResponse_any t k q B0 gs.length d gs w' rfl (by omega) (hx2.below hb))
  have H3 := Lib.hid (fun (A1 : Option Addr) (c1 : Nat) (w' : World) (hb : Below w.heap.size w w') (hx1 : Rd w' A1 fs.length 2 (fcells fs)) (hn1 : A1 = none → fs.length = 0 ∧ c1 = 0) => request_any s r via host path m port A1 fs.length c1 fs w' rfl hf hx1 hn1 h0 h1 p0 p1 hv hh (ht.below hb))
  have H4 := Lib.hid (fun (w' : World) (hb : Below w.heap.size w w') => refRequest_any s r via host path m port A fs.length c fs w' rfl hf (hx.below hb) h0 h1 p0 p1 hv hh)
  have H5 := Lib.hid (fun (A1 : Option Addr) (c1 : Nat) (w' : World) (hb : Below w.heap.size w w') (hx1 : Rd w' A1 gs.length 2 (fcells gs)) (hn1 : A1 = none → gs.length = 0 ∧ c1 = 0) => response_any t k q via A1 gs.length c1 gs w' rfl (by omega) hx1 hn1 k0 k1 (by omega) (ht.below hb))
  have H6 := Lib.hid (fun (w' : World) (hb : Below w.heap.size w w') => refResponse_any t k q via B0 gs.length d gs w' rfl (by omega) (hx2.below hb) k0 k1 (by omega))
  have HX := Lib.hid (fun (w' : World) (hb : Below w.heap.size w w') => hx.below hb)
  have HY := Lib.hid (fun (w' : World) (hb : Below w.heap.size w w') => hx2.below hb)
  replace hPL : (F.sent fs m via host port).length ≤ 1099511627776 := by omega
  replace hRL : (F.put (F.strip gs) F.via3 (F.viaOf gs k via)).length ≤ 1099511627776 := by omega
  generalize F.sent fs m via host port = PL at *
  generalize F.put (F.strip gs) F.via3 (F.viaOf gs k via) = RL at *
  clear zH zV zW zP zR zS e3 hx hx2 h0 h1 p0 p1 k0 k1 hv hh ht
  go_enter Tryd.func8, Tryd.ntmps8
  go_wp2_with fail
  have HS2 : Hid ((Blk (((w.alloc (.cells #[.string s, .string r, .int .i64 m, .slice A fs.length c] 50)).alloc (.cells #[.string host, .int .i64 port, .string path] 52)).alloc (.cells #[.int .i64 t, .string q, .int .i64 k, .slice B0 gs.length d] 28)) w.heap.size #[.string s, .string r, .int .i64 m, .slice A fs.length c] 50 ∧ Blk (((w.alloc (.cells #[.string s, .string r, .int .i64 m, .slice A fs.length c] 50)).alloc (.cells #[.string host, .int .i64 port, .string path] 52)).alloc (.cells #[.int .i64 t, .string q, .int .i64 k, .slice B0 gs.length d] 28)) (w.heap.size + 1) #[.string host, .int .i64 port, .string path] 52 ∧ Blk (((w.alloc (.cells #[.string s, .string r, .int .i64 m, .slice A fs.length c] 50)).alloc (.cells #[.string host, .int .i64 port, .string path] 52)).alloc (.cells #[.int .i64 t, .string q, .int .i64 k, .slice B0 gs.length d] 28)) (w.heap.size + 1 + 1) #[.int .i64 t, .string q, .int .i64 k, .slice B0 gs.length d] 28) ∧ Below w.heap.size w (((w.alloc (.cells #[.string s, .string r, .int .i64 m, .slice A fs.length c] 50)).alloc (.cells #[.string host, .int .i64 port, .string path] 52)).alloc (.cells #[.int .i64 t, .string q, .int .i64 k, .slice B0 gs.length d] 28))) := by
    refine Lib.hid ⟨⟨((Blk.new w _ _).alloc _).alloc _, ?_, ?_⟩, (((Below.refl _ _).alloc (Nat.le_refl _) _).alloc (by simp only [World.size_alloc]; omega) _).alloc (by simp only [World.size_alloc]; omega) _⟩
    · have := (Blk.new (w.alloc (.cells #[.string s, .string r, .int .i64 m, .slice A fs.length c] 50)) #[.string host, .int .i64 port, .string path] 52).alloc (.cells #[.int .i64 t, .string q, .int .i64 k, .slice B0 gs.length d] 28)
      rwa [World.size_alloc] at this
    · have := Blk.new ((w.alloc (.cells #[.string s, .string r, .int .i64 m, .slice A fs.length c] 50)).alloc (.cells #[.string host, .int .i64 port, .string path] 52)) #[.int .i64 t, .string q, .int .i64 k, .slice B0 gs.length d] 28
      rwa [World.size_alloc, World.size_alloc] at this
  generalize ((w.alloc (.cells #[.string s, .string r, .int .i64 m, .slice A fs.length c] 50)).alloc (.cells #[.string host, .int .i64 port, .string path] 52)).alloc (.cells #[.int .i64 t, .string q, .int .i64 k, .slice B0 gs.length d] 28) = w0 at *
  refine (HA.out _ HS2.out.2).mono ?_
  rintro e w1 ⟨rfl, hb1⟩
  have HS3 : Hid ((Blk w1 w.heap.size #[.string s, .string r, .int .i64 m, .slice A fs.length c] 50 ∧ Blk w1 (w.heap.size + 1) #[.string host, .int .i64 port, .string path] 52 ∧ Blk w1 (w.heap.size + 1 + 1) #[.int .i64 t, .string q, .int .i64 k, .slice B0 gs.length d] 28) ∧ Below w.heap.size w w1) := Lib.hid ⟨⟨HS2.out.1.1.below hb1, HS2.out.1.2.1.below hb1, HS2.out.1.2.2.below hb1⟩, below_then HS2.out.2.size HS2.out.2 hb1⟩
  obtain ⟨x0, x1, x2, x3⟩ := HS3.out.1.1.cells4
  clear hb1 HS2 HA
  go_wp2_with fail
  refine (H1.out _ HS3.out.2).mono ?_
  rintro e w2 ⟨A1, c1, rfl, hr2, hb2⟩
  have hn1 := fun h => hr2.nilB h
  have HN1 := Lib.hid hn1
  have HS4 : Hid ((Blk (w2.alloc (.cells #[.string s, .string r, .int .i64 m, .slice A1 fs.length c1] 50)) w.heap.size #[.string s, .string r, .int .i64 m, .slice A fs.length c] 50 ∧ Blk (w2.alloc (.cells #[.string s, .string r, .int .i64 m, .slice A1 fs.length c1] 50)) (w.heap.size + 1) #[.string host, .int .i64 port, .string path] 52 ∧ Blk (w2.alloc (.cells #[.string s, .string r, .int .i64 m, .slice A1 fs.length c1] 50)) (w.heap.size + 1 + 1) #[.int .i64 t, .string q, .int .i64 k, .slice B0 gs.length d] 28 ∧ Blk (w2.alloc (.cells #[.string s, .string r, .int .i64 m, .slice A1 fs.length c1] 50)) w2.heap.size #[.string s, .string r, .int .i64 m, .slice A1 fs.length c1] 50) ∧ Rd (w2.alloc (.cells #[.string s, .string r, .int .i64 m, .slice A1 fs.length c1] 50)) A1 fs.length 2 (fcells fs) ∧ Below w.heap.size w (w2.alloc (.cells #[.string s, .string r, .int .i64 m, .slice A1 fs.length c1] 50))) :=
    Lib.hid ⟨⟨(HS3.out.1.1.below hb2).alloc _, (HS3.out.1.2.1.below hb2).alloc _, (HS3.out.1.2.2.below hb2).alloc _, Blk.new w2 _ _⟩, hr2.rd.alloc _, (below_then HS3.out.2.size HS3.out.2 hb2).alloc (below_then HS3.out.2.size HS3.out.2 hb2).size _⟩
  obtain ⟨y0, y1, y2, y3⟩ := HS4.out.1.2.2.1.cells4
  clear hb2 hr2 HS3 H1 x0 x1 x2 x3 hn1
  go_wp2_with fail
  refine (H2.out _ HS4.out.2.2).mono ?_
  rintro e w3 ⟨A2, c2, rfl, hr3, hb3⟩
  have hn2 := fun h => hr3.nilB h
  have HN2 := Lib.hid hn2
  generalize hb3e : w2.heap.size = b3 at *
  have HS5 : Hid (SendS w b3 w3.heap.size #[.string s, .string r, .int .i64 m, .slice A fs.length c] #[.string host, .int .i64 port, .string path] #[.int .i64 t, .string q, .int .i64 k, .slice B0 gs.length d] #[.string s, .string r, .int .i64 m, .slice A1 fs.length c1] #[.int .i64 t, .string q, .int .i64 k, .slice A2 gs.length c2] A1 fs A2 gs (w3.alloc (.cells #[.int .i64 t, .string q, .int .i64 k, .slice A2 gs.length c2] 28))) :=
    Lib.hid ⟨⟨(HS4.out.1.1.below hb3).alloc _, (HS4.out.1.2.1.below hb3).alloc _, (HS4.out.1.2.2.1.below hb3).alloc _, (HS4.out.1.2.2.2.below hb3).alloc _, Blk.new w3 _ _⟩, (HS4.out.2.1.below hb3).alloc _, hr3.rd.alloc _, (below_then HS4.out.2.2.size HS4.out.2.2 hb3).alloc (below_then HS4.out.2.2.size HS4.out.2.2 hb3).size _⟩
  clear hb3 hr3 HS4 H2 y0 y1 y2 y3 hn2 hb3e
  go_wp2
  generalize w3.heap.size = b4 at *
  generalize w3.alloc (.cells #[.int .i64 t, .string q, .int .i64 k, .slice A2 gs.length c2] 28) = w4 at *
  have hn1 := HN1.out
  have hn2 := HN2.out
  clear HN1 HN2
  have hS0 := HS5.out.below (Below.refl _ _).drew
  refine wp_region_noPanic ?_
  refine HT.begin (n := 28) (S := SendS w b3 b4 #[.string s, .string r, .int .i64 m, .slice A fs.length c] #[.string host, .int .i64 port, .string path] #[.int .i64 t, .string q, .int .i64 k, .slice B0 gs.length d] #[.string s, .string r, .int .i64 m, .slice A1 fs.length c1] #[.int .i64 t, .string q, .int .i64 k, .slice A2 gs.length c2] A1 fs A2 gs) (by kernel_rfl) hS0 ?_
  refine HT.take 0 (.agg #[.string s, .string r, .int .i64 m, .slice A1 fs.length c1]) rfl (by kernel_rfl) (fun _ _ _ h => h) (Or.inl ⟨by rfl, ?_⟩) (?_ : HT _ _ _ _ _ _ _ ⟨#[.agg #[.string s, .string r, .int .i64 m, .slice A fs.length c], .agg #[.string host, .int .i64 port, .string path], .agg #[.int .i64 t, .string q, .int .i64 k, .slice B0 gs.length d], .string via, .pointer (some ⟨w.heap.size, 0, none⟩), .pointer (some ⟨w.heap.size + 1, 0, none⟩), .pointer (some ⟨w.heap.size + 1 + 1, 0, none⟩), undef, .bool false, .pointer (some ⟨b3, 0, none⟩), .pointer (some ⟨b4, 0, none⟩), .bool true, .bool false, .agg #[.string s, .string r, .int .i64 m, .slice A fs.length c], .agg #[.string s, .string r, .int .i64 m, .slice A1 fs.length c1], .agg #[.int .i64 t, .string q, .int .i64 k, .slice B0 gs.length d], .agg #[.int .i64 t, .string q, .int .i64 k, .slice A2 gs.length c2], .agg #[.string s, .string r, .int .i64 m, .slice A1 fs.length c1], undef, undef, undef, undef, undef, undef, undef, undef, undef, undef, undef, undef, undef, undef, undef, undef, undef, undef, undef, undef, undef, undef, undef, undef, undef, undef, undef], []⟩ _)
  · intro u hu
    obtain ⟨⟨h0, h1, h2, h3, h4⟩, _⟩ := hu
    obtain ⟨x0, x1, x2, x3⟩ := h3.cells4
    go_simp
  refine HT.take 1 (.agg #[.string host, .int .i64 port, .string path]) rfl (by kernel_rfl) (fun _ _ _ h => h) (Or.inl ⟨by rfl, ?_⟩) (?_ : HT _ _ _ _ _ _ _ ⟨#[.agg #[.string s, .string r, .int .i64 m, .slice A fs.length c], .agg #[.string host, .int .i64 port, .string path], .agg #[.int .i64 t, .string q, .int .i64 k, .slice B0 gs.length d], .string via, .pointer (some ⟨w.heap.size, 0, none⟩), .pointer (some ⟨w.heap.size + 1, 0, none⟩), .pointer (some ⟨w.heap.size + 1 + 1, 0, none⟩), undef, .bool false, .pointer (some ⟨b3, 0, none⟩), .pointer (some ⟨b4, 0, none⟩), .bool true, .bool false, .agg #[.string s, .string r, .int .i64 m, .slice A fs.length c], .agg #[.string s, .string r, .int .i64 m, .slice A1 fs.length c1], .agg #[.int .i64 t, .string q, .int .i64 k, .slice B0 gs.length d], .agg #[.int .i64 t, .string q, .int .i64 k, .slice A2 gs.length c2], .agg #[.string s, .string r, .int .i64 m, .slice A1 fs.length c1], .agg #[.string host, .int .i64 port, .string path], undef, undef, undef, undef, undef, undef, undef, undef, undef, undef, undef, undef, undef, undef, undef, undef, undef, undef, undef, undef, undef, undef, undef, undef, undef, undef], []⟩ _)
  · intro u hu
    obtain ⟨⟨h0, h1, h2, h3, h4⟩, _⟩ := hu
    obtain ⟨x0, x1, x2⟩ := h1.cells3
    go_simp
  refine HT.take 2 (.string via) rfl (by kernel_rfl) (fun _ _ _ h => h) (Or.inl ⟨by rfl, ?_⟩) (?_ : HT _ _ _ _ _ _ _ ⟨#[.agg #[.string s, .string r, .int .i64 m, .slice A fs.length c], .agg #[.string host, .int .i64 port, .string path], .agg #[.int .i64 t, .string q, .int .i64 k, .slice B0 gs.length d], .string via, .pointer (some ⟨w.heap.size, 0, none⟩), .pointer (some ⟨w.heap.size + 1, 0, none⟩), .pointer (some ⟨w.heap.size + 1 + 1, 0, none⟩), undef, .bool false, .pointer (some ⟨b3, 0, none⟩), .pointer (some ⟨b4, 0, none⟩), .bool true, .bool false, .agg #[.string s, .string r, .int .i64 m, .slice A fs.length c], .agg #[.string s, .string r, .int .i64 m, .slice A1 fs.length c1], .agg #[.int .i64 t, .string q, .int .i64 k, .slice B0 gs.length d], .agg #[.int .i64 t, .string q, .int .i64 k, .slice A2 gs.length c2], .agg #[.string s, .string r, .int .i64 m, .slice A1 fs.length c1], .agg #[.string host, .int .i64 port, .string path], .string via, undef, undef, undef, undef, undef, undef, undef, undef, undef, undef, undef, undef, undef, undef, undef, undef, undef, undef, undef, undef, undef, undef, undef, undef, undef], []⟩ _)
  · intro u hu
    go_simp
  refine HT.take 4 (.agg #[.string s, .string r, .int .i64 m, .slice A fs.length c]) rfl (by kernel_rfl) (fun _ _ _ h => h) (Or.inl ⟨by rfl, ?_⟩) (?_ : HT _ _ _ _ _ _ _ ⟨#[.agg #[.string s, .string r, .int .i64 m, .slice A fs.length c], .agg #[.string host, .int .i64 port, .string path], .agg #[.int .i64 t, .string q, .int .i64 k, .slice B0 gs.length d], .string via, .pointer (some ⟨w.heap.size, 0, none⟩), .pointer (some ⟨w.heap.size + 1, 0, none⟩), .pointer (some ⟨w.heap.size + 1 + 1, 0, none⟩), undef, .bool false, .pointer (some ⟨b3, 0, none⟩), .pointer (some ⟨b4, 0, none⟩), .bool true, .bool false, .agg #[.string s, .string r, .int .i64 m, .slice A fs.length c], .agg #[.string s, .string r, .int .i64 m, .slice A1 fs.length c1], .agg #[.int .i64 t, .string q, .int .i64 k, .slice B0 gs.length d], .agg #[.int .i64 t, .string q, .int .i64 k, .slice A2 gs.length c2], .agg #[.string s, .string r, .int .i64 m, .slice A1 fs.length c1], .agg #[.string host, .int .i64 port, .string path], .string via, undef, .agg #[.string s, .string r, .int .i64 m, .slice A fs.length c], undef, undef, undef, undef, undef, undef, undef, undef, undef, undef, undef, undef, undef, undef, undef, undef, undef, undef, undef, undef, undef, undef, undef], []⟩ _)
  · intro u hu
    obtain ⟨⟨h0, h1, h2, h3, h4⟩, _⟩ := hu
    obtain ⟨x0, x1, x2, x3⟩ := h0.cells4
    go_simp
  refine HT.take 5 (.agg #[.string host, .int .i64 port, .string path]) rfl (by kernel_rfl) (fun _ _ _ h => h) (Or.inl ⟨by rfl, ?_⟩) (?_ : HT _ _ _ _ _ _ _ ⟨#[.agg #[.string s, .string r, .int .i64 m, .slice A fs.length c], .agg #[.string host, .int .i64 port, .string path], .agg #[.int .i64 t, .string q, .int .i64 k, .slice B0 gs.length d], .string via, .pointer (some ⟨w.heap.size, 0, none⟩), .pointer (some ⟨w.heap.size + 1, 0, none⟩), .pointer (some ⟨w.heap.size + 1 + 1, 0, none⟩), undef, .bool false, .pointer (some ⟨b3, 0, none⟩), .pointer (some ⟨b4, 0, none⟩), .bool true, .bool false, .agg #[.string s, .string r, .int .i64 m, .slice A fs.length c], .agg #[.string s, .string r, .int .i64 m, .slice A1 fs.length c1], .agg #[.int .i64 t, .string q, .int .i64 k, .slice B0 gs.length d], .agg #[.int .i64 t, .string q, .int .i64 k, .slice A2 gs.length c2], .agg #[.string s, .string r, .int .i64 m, .slice A1 fs.length c1], .agg #[.string host, .int .i64 port, .string path], .string via, undef, .agg #[.string s, .string r, .int .i64 m, .slice A fs.length c], .agg #[.string host, .int .i64 port, .string path], undef, undef, undef, undef, undef, undef, undef, undef, undef, undef, undef, undef, undef, undef, undef, undef, undef, undef, undef, undef, undef, undef], []⟩ _)
  · intro u hu
    obtain ⟨⟨h0, h1, h2, h3, h4⟩, _⟩ := hu
    obtain ⟨x0, x1, x2⟩ := h1.cells3
    go_simp
  refine HT.take 6 (.string via) rfl (by kernel_rfl) (fun _ _ _ h => h) (Or.inl ⟨by rfl, ?_⟩) (?_ : HT _ _ _ _ _ _ _ ⟨#[.agg #[.string s, .string r, .int .i64 m, .slice A fs.length c], .agg #[.string host, .int .i64 port, .string path], .agg #[.int .i64 t, .string q, .int .i64 k, .slice B0 gs.length d], .string via, .pointer (some ⟨w.heap.size, 0, none⟩), .pointer (some ⟨w.heap.size + 1, 0, none⟩), .pointer (some ⟨w.heap.size + 1 + 1, 0, none⟩), undef, .bool false, .pointer (some ⟨b3, 0, none⟩), .pointer (some ⟨b4, 0, none⟩), .bool true, .bool false, .agg #[.string s, .string r, .int .i64 m, .slice A fs.length c], .agg #[.string s, .string r, .int .i64 m, .slice A1 fs.length c1], .agg #[.int .i64 t, .string q, .int .i64 k, .slice B0 gs.length d], .agg #[.int .i64 t, .string q, .int .i64 k, .slice A2 gs.length c2], .agg #[.string s, .string r, .int .i64 m, .slice A1 fs.length c1], .agg #[.string host, .int .i64 port, .string path], .string via, undef, .agg #[.string s, .string r, .int .i64 m, .slice A fs.length c], .agg #[.string host, .int .i64 port, .string path], .string via, undef, undef, undef, undef, undef, undef, undef, undef, undef, undef, undef, undef, undef, undef, undef, undef, undef, undef, undef, undef, undef], []⟩ _)
  · intro u hu
    go_simp
  refine HT.step 3 rfl (by kernel_rfl) (fun hS K hK => ?_)
  go_simp
  refine (H3.out A1 c1 _ hS.2.2.2 hS.2.1 hn1).mono ?_
  rintro e w5 ⟨A5, c5, rfl, hr5, hb5⟩
  have hq5 := hr5.rd
  refine hK.out _ _ (hS.below hb5) ?_
  clear hK hS hb5 hr5
  refine HT.step 7 rfl (by kernel_rfl) (fun hS K hK => ?_)
  go_simp
  refine (H4.out _ hS.2.2.2).mono ?_
  rintro e w6 ⟨A6, c6, rfl, hr6, hb6⟩
  have hq5 := hq5.below hb6
  have hq6 := hr6.rd
  refine hK.out _ _ (hS.below hb6) ?_
  clear hK hS hb6 hr6
  refine HT.step 8 rfl (by kernel_rfl) (fun hS K hK => ?_)
  go_simp
  refine (sameQ 1 s (F.pathOf path) A5 A6 c5 c6 PL w6 hPL hq5 hq6).mono ?_
  rintro e w7 ⟨rfl, hb7⟩
  refine hK.out _ _ (hS.below hb7) ?_
  clear hK hS hb7 hq5 hq6
  refine HT.take 9 (.bool true) rfl (by kernel_rfl) (fun _ _ _ h => h) (Or.inl ⟨by rfl, ?_⟩) (?_ : HT _ _ _ _ _ _ _ ⟨#[.agg #[.string s, .string r, .int .i64 m, .slice A fs.length c], .agg #[.string host, .int .i64 port, .string path], .agg #[.int .i64 t, .string q, .int .i64 k, .slice B0 gs.length d], .string via, .pointer (some ⟨w.heap.size, 0, none⟩), .pointer (some ⟨w.heap.size + 1, 0, none⟩), .pointer (some ⟨w.heap.size + 1 + 1, 0, none⟩), undef, .bool false, .pointer (some ⟨b3, 0, none⟩), .pointer (some ⟨b4, 0, none⟩), .bool true, .bool false, .agg #[.string s, .string r, .int .i64 m, .slice A fs.length c], .agg #[.string s, .string r, .int .i64 m, .slice A1 fs.length c1], .agg #[.int .i64 t, .string q, .int .i64 k, .slice B0 gs.length d], .agg #[.int .i64 t, .string q, .int .i64 k, .slice A2 gs.length c2], .agg #[.string s, .string r, .int .i64 m, .slice A1 fs.length c1], .agg #[.string host, .int .i64 port, .string path], .string via, .agg #[.string s, .string (F.pathOf path), .int .i64 1, .slice A5 PL.length c5], .agg #[.string s, .string r, .int .i64 m, .slice A fs.length c], .agg #[.string host, .int .i64 port, .string path], .string via, .agg #[.string s, .string (F.pathOf path), .int .i64 1, .slice A6 PL.length c6], .bool true, .bool true, undef, undef, undef, undef, undef, undef, undef, undef, undef, undef, undef, undef, undef, undef, undef, undef, undef, undef], []⟩ _)
  · intro u hu
    go_simp
  refine HT.take 10 (.agg #[.int .i64 t, .string q, .int .i64 k, .slice A2 gs.length c2]) rfl (by kernel_rfl) (fun _ _ _ h => h) (Or.inl ⟨by rfl, ?_⟩) (?_ : HT _ _ _ _ _ _ _ ⟨#[.agg #[.string s, .string r, .int .i64 m, .slice A fs.length c], .agg #[.string host, .int .i64 port, .string path], .agg #[.int .i64 t, .string q, .int .i64 k, .slice B0 gs.length d], .string via, .pointer (some ⟨w.heap.size, 0, none⟩), .pointer (some ⟨w.heap.size + 1, 0, none⟩), .pointer (some ⟨w.heap.size + 1 + 1, 0, none⟩), undef, .bool false, .pointer (some ⟨b3, 0, none⟩), .pointer (some ⟨b4, 0, none⟩), .bool true, .bool false, .agg #[.string s, .string r, .int .i64 m, .slice A fs.length c], .agg #[.string s, .string r, .int .i64 m, .slice A1 fs.length c1], .agg #[.int .i64 t, .string q, .int .i64 k, .slice B0 gs.length d], .agg #[.int .i64 t, .string q, .int .i64 k, .slice A2 gs.length c2], .agg #[.string s, .string r, .int .i64 m, .slice A1 fs.length c1], .agg #[.string host, .int .i64 port, .string path], .string via, .agg #[.string s, .string (F.pathOf path), .int .i64 1, .slice A5 PL.length c5], .agg #[.string s, .string r, .int .i64 m, .slice A fs.length c], .agg #[.string host, .int .i64 port, .string path], .string via, .agg #[.string s, .string (F.pathOf path), .int .i64 1, .slice A6 PL.length c6], .bool true, .bool true, .agg #[.int .i64 t, .string q, .int .i64 k, .slice A2 gs.length c2], undef, undef, undef, undef, undef, undef, undef, undef, undef, undef, undef, undef, undef, undef, undef, undef, undef], []⟩ _)
  · intro u hu
    obtain ⟨⟨h0, h1, h2, h3, h4⟩, _⟩ := hu
    obtain ⟨x0, x1, x2, x3⟩ := h4.cells4
    go_simp
  refine HT.take 11 (.string via) rfl (by kernel_rfl) (fun _ _ _ h => h) (Or.inl ⟨by rfl, ?_⟩) (?_ : HT _ _ _ _ _ _ _ ⟨#[.agg #[.string s, .string r, .int .i64 m, .slice A fs.length c], .agg #[.string host, .int .i64 port, .string path], .agg #[.int .i64 t, .string q, .int .i64 k, .slice B0 gs.length d], .string via, .pointer (some ⟨w.heap.size, 0, none⟩), .pointer (some ⟨w.heap.size + 1, 0, none⟩), .pointer (some ⟨w.heap.size + 1 + 1, 0, none⟩), undef, .bool false, .pointer (some ⟨b3, 0, none⟩), .pointer (some ⟨b4, 0, none⟩), .bool true, .bool false, .agg #[.string s, .string r, .int .i64 m, .slice A fs.length c], .agg #[.string s, .string r, .int .i64 m, .slice A1 fs.length c1], .agg #[.int .i64 t, .string q, .int .i64 k, .slice B0 gs.length d], .agg #[.int .i64 t, .string q, .int .i64 k, .slice A2 gs.length c2], .agg #[.string s, .string r, .int .i64 m, .slice A1 fs.length c1], .agg #[.string host, .int .i64 port, .string path], .string via, .agg #[.string s, .string (F.pathOf path), .int .i64 1, .slice A5 PL.length c5], .agg #[.string s, .string r, .int .i64 m, .slice A fs.length c], .agg #[.string host, .int .i64 port, .string path], .string via, .agg #[.string s, .string (F.pathOf path), .int .i64 1, .slice A6 PL.length c6], .bool true, .bool true, .agg #[.int .i64 t, .string q, .int .i64 k, .slice A2 gs.length c2], .string via, undef, undef, undef, undef, undef, undef, undef, undef, undef, undef, undef, undef, undef, undef, undef, undef], []⟩ _)
  · intro u hu
    go_simp
  refine HT.take 13 (.agg #[.int .i64 t, .string q, .int .i64 k, .slice B0 gs.length d]) rfl (by kernel_rfl) (fun _ _ _ h => h) (Or.inl ⟨by rfl, ?_⟩) (?_ : HT _ _ _ _ _ _ _ ⟨#[.agg #[.string s, .string r, .int .i64 m, .slice A fs.length c], .agg #[.string host, .int .i64 port, .string path], .agg #[.int .i64 t, .string q, .int .i64 k, .slice B0 gs.length d], .string via, .pointer (some ⟨w.heap.size, 0, none⟩), .pointer (some ⟨w.heap.size + 1, 0, none⟩), .pointer (some ⟨w.heap.size + 1 + 1, 0, none⟩), undef, .bool false, .pointer (some ⟨b3, 0, none⟩), .pointer (some ⟨b4, 0, none⟩), .bool true, .bool false, .agg #[.string s, .string r, .int .i64 m, .slice A fs.length c], .agg #[.string s, .string r, .int .i64 m, .slice A1 fs.length c1], .agg #[.int .i64 t, .string q, .int .i64 k, .slice B0 gs.length d], .agg #[.int .i64 t, .string q, .int .i64 k, .slice A2 gs.length c2], .agg #[.string s, .string r, .int .i64 m, .slice A1 fs.length c1], .agg #[.string host, .int .i64 port, .string path], .string via, .agg #[.string s, .string (F.pathOf path), .int .i64 1, .slice A5 PL.length c5], .agg #[.string s, .string r, .int .i64 m, .slice A fs.length c], .agg #[.string host, .int .i64 port, .string path], .string via, .agg #[.string s, .string (F.pathOf path), .int .i64 1, .slice A6 PL.length c6], .bool true, .bool true, .agg #[.int .i64 t, .string q, .int .i64 k, .slice A2 gs.length c2], .string via, undef, .agg #[.int .i64 t, .string q, .int .i64 k, .slice B0 gs.length d], undef, undef, undef, undef, undef, undef, undef, undef, undef, undef, undef, undef, undef, undef], []⟩ _)
  · intro u hu
    obtain ⟨⟨h0, h1, h2, h3, h4⟩, _⟩ := hu
    obtain ⟨x0, x1, x2, x3⟩ := h2.cells4
    go_simp
  refine HT.take 14 (.string via) rfl (by kernel_rfl) (fun _ _ _ h => h) (Or.inl ⟨by rfl, ?_⟩) (?_ : HT _ _ _ _ _ _ _ ⟨#[.agg #[.string s, .string r, .int .i64 m, .slice A fs.length c], .agg #[.string host, .int .i64 port, .string path], .agg #[.int .i64 t, .string q, .int .i64 k, .slice B0 gs.length d], .string via, .pointer (some ⟨w.heap.size, 0, none⟩), .pointer (some ⟨w.heap.size + 1, 0, none⟩), .pointer (some ⟨w.heap.size + 1 + 1, 0, none⟩), undef, .bool false, .pointer (some ⟨b3, 0, none⟩), .pointer (some ⟨b4, 0, none⟩), .bool true, .bool false, .agg #[.string s, .string r, .int .i64 m, .slice A fs.length c], .agg #[.string s, .string r, .int .i64 m, .slice A1 fs.length c1], .agg #[.int .i64 t, .string q, .int .i64 k, .slice B0 gs.length d], .agg #[.int .i64 t, .string q, .int .i64 k, .slice A2 gs.length c2], .agg #[.string s, .string r, .int .i64 m, .slice A1 fs.length c1], .agg #[.string host, .int .i64 port, .string path], .string via, .agg #[.string s, .string (F.pathOf path), .int .i64 1, .slice A5 PL.length c5], .agg #[.string s, .string r, .int .i64 m, .slice A fs.length c], .agg #[.string host, .int .i64 port, .string path], .string via, .agg #[.string s, .string (F.pathOf path), .int .i64 1, .slice A6 PL.length c6], .bool true, .bool true, .agg #[.int .i64 t, .string q, .int .i64 k, .slice A2 gs.length c2], .string via, undef, .agg #[.int .i64 t, .string q, .int .i64 k, .slice B0 gs.length d], .string via, undef, undef, undef, undef, undef, undef, undef, undef, undef, undef, undef, undef, undef], []⟩ _)
  · intro u hu
    go_simp
  refine HT.step 12 rfl (by kernel_rfl) (fun hS K hK => ?_)
  go_simp
  refine (H5.out A2 c2 _ hS.2.2.2 hS.2.2.1 hn2).mono ?_
  rintro e w8 ⟨A8, c8, rfl, hr8, hb8⟩
  have hq8 := hr8.rd
  refine hK.out _ _ (hS.below hb8) ?_
  clear hK hS hb8 hr8
  refine HT.step 15 rfl (by kernel_rfl) (fun hS K hK => ?_)
  go_simp
  refine (H6.out _ hS.2.2.2).mono ?_
  rintro e w9 ⟨A9, c9, rfl, hr9, hb9⟩
  have hq8 := hq8.below hb9
  have hq9 := hr9.rd
  refine hK.out _ _ (hS.below hb9) ?_
  clear hK hS hb9 hr9
  refine HT.step 16 rfl (by kernel_rfl) (fun hS K hK => ?_)
  go_simp
  refine (sameR 1 t q A8 A9 c8 c9 RL w9 hRL hq8 hq9).mono ?_
  rintro e w10 ⟨rfl, hb10⟩
  refine hK.out _ _ (hS.below hb10) ?_
  clear hK hS hb10 hq8 hq9
  refine HT.take 17 (.bool true) rfl (by kernel_rfl) (fun _ _ _ h => h) (Or.inl ⟨by rfl, ?_⟩) (?_ : HT _ _ _ _ _ _ _ ⟨#[.agg #[.string s, .string r, .int .i64 m, .slice A fs.length c], .agg #[.string host, .int .i64 port, .string path], .agg #[.int .i64 t, .string q, .int .i64 k, .slice B0 gs.length d], .string via, .pointer (some ⟨w.heap.size, 0, none⟩), .pointer (some ⟨w.heap.size + 1, 0, none⟩), .pointer (some ⟨w.heap.size + 1 + 1, 0, none⟩), undef, .bool false, .pointer (some ⟨b3, 0, none⟩), .pointer (some ⟨b4, 0, none⟩), .bool true, .bool false, .agg #[.string s, .string r, .int .i64 m, .slice A fs.length c], .agg #[.string s, .string r, .int .i64 m, .slice A1 fs.length c1], .agg #[.int .i64 t, .string q, .int .i64 k, .slice B0 gs.length d], .agg #[.int .i64 t, .string q, .int .i64 k, .slice A2 gs.length c2], .agg #[.string s, .string r, .int .i64 m, .slice A1 fs.length c1], .agg #[.string host, .int .i64 port, .string path], .string via, .agg #[.string s, .string (F.pathOf path), .int .i64 1, .slice A5 PL.length c5], .agg #[.string s, .string r, .int .i64 m, .slice A fs.length c], .agg #[.string host, .int .i64 port, .string path], .string via, .agg #[.string s, .string (F.pathOf path), .int .i64 1, .slice A6 PL.length c6], .bool true, .bool true, .agg #[.int .i64 t, .string q, .int .i64 k, .slice A2 gs.length c2], .string via, .agg #[.int .i64 t, .string q, .int .i64 1, .slice A8 RL.length c8], .agg #[.int .i64 t, .string q, .int .i64 k, .slice B0 gs.length d], .string via, .agg #[.int .i64 t, .string q, .int .i64 1, .slice A9 RL.length c9], .bool true, .bool true, undef, undef, undef, undef, undef, undef, undef, undef, undef, undef], []⟩ _)
  · intro u hu
    go_simp
  refine HT.take 18 (.bool true) rfl (by kernel_rfl) (fun _ _ _ h => h) (Or.inl ⟨by rfl, ?_⟩) (?_ : HT _ _ _ _ _ _ _ ⟨#[.agg #[.string s, .string r, .int .i64 m, .slice A fs.length c], .agg #[.string host, .int .i64 port, .string path], .agg #[.int .i64 t, .string q, .int .i64 k, .slice B0 gs.length d], .string via, .pointer (some ⟨w.heap.size, 0, none⟩), .pointer (some ⟨w.heap.size + 1, 0, none⟩), .pointer (some ⟨w.heap.size + 1 + 1, 0, none⟩), undef, .bool false, .pointer (some ⟨b3, 0, none⟩), .pointer (some ⟨b4, 0, none⟩), .bool true, .bool false, .agg #[.string s, .string r, .int .i64 m, .slice A fs.length c], .agg #[.string s, .string r, .int .i64 m, .slice A1 fs.length c1], .agg #[.int .i64 t, .string q, .int .i64 k, .slice B0 gs.length d], .agg #[.int .i64 t, .string q, .int .i64 k, .slice A2 gs.length c2], .agg #[.string s, .string r, .int .i64 m, .slice A1 fs.length c1], .agg #[.string host, .int .i64 port, .string path], .string via, .agg #[.string s, .string (F.pathOf path), .int .i64 1, .slice A5 PL.length c5], .agg #[.string s, .string r, .int .i64 m, .slice A fs.length c], .agg #[.string host, .int .i64 port, .string path], .string via, .agg #[.string s, .string (F.pathOf path), .int .i64 1, .slice A6 PL.length c6], .bool true, .bool true, .agg #[.int .i64 t, .string q, .int .i64 k, .slice A2 gs.length c2], .string via, .agg #[.int .i64 t, .string q, .int .i64 1, .slice A8 RL.length c8], .agg #[.int .i64 t, .string q, .int .i64 k, .slice B0 gs.length d], .string via, .agg #[.int .i64 t, .string q, .int .i64 1, .slice A9 RL.length c9], .bool true, .bool true, .bool true, undef, undef, undef, undef, undef, undef, undef, undef, undef], []⟩ _)
  · intro u hu
    go_simp
  refine HT.take 19 (.agg #[.string s, .string r, .int .i64 m, .slice A1 fs.length c1]) rfl (by kernel_rfl) (fun _ _ _ h => h) (Or.inl ⟨by rfl, ?_⟩) (?_ : HT _ _ _ _ _ _ _ ⟨#[.agg #[.string s, .string r, .int .i64 m, .slice A fs.length c], .agg #[.string host, .int .i64 port, .string path], .agg #[.int .i64 t, .string q, .int .i64 k, .slice B0 gs.length d], .string via, .pointer (some ⟨w.heap.size, 0, none⟩), .pointer (some ⟨w.heap.size + 1, 0, none⟩), .pointer (some ⟨w.heap.size + 1 + 1, 0, none⟩), undef, .bool false, .pointer (some ⟨b3, 0, none⟩), .pointer (some ⟨b4, 0, none⟩), .bool true, .bool false, .agg #[.string s, .string r, .int .i64 m, .slice A fs.length c], .agg #[.string s, .string r, .int .i64 m, .slice A1 fs.length c1], .agg #[.int .i64 t, .string q, .int .i64 k, .slice B0 gs.length d], .agg #[.int .i64 t, .string q, .int .i64 k, .slice A2 gs.length c2], .agg #[.string s, .string r, .int .i64 m, .slice A1 fs.length c1], .agg #[.string host, .int .i64 port, .string path], .string via, .agg #[.string s, .string (F.pathOf path), .int .i64 1, .slice A5 PL.length c5], .agg #[.string s, .string r, .int .i64 m, .slice A fs.length c], .agg #[.string host, .int .i64 port, .string path], .string via, .agg #[.string s, .string (F.pathOf path), .int .i64 1, .slice A6 PL.length c6], .bool true, .bool true, .agg #[.int .i64 t, .string q, .int .i64 k, .slice A2 gs.length c2], .string via, .agg #[.int .i64 t, .string q, .int .i64 1, .slice A8 RL.length c8], .agg #[.int .i64 t, .string q, .int .i64 k, .slice B0 gs.length d], .string via, .agg #[.int .i64 t, .string q, .int .i64 1, .slice A9 RL.length c9], .bool true, .bool true, .bool true, .agg #[.string s, .string r, .int .i64 m, .slice A1 fs.length c1], undef, undef, undef, undef, undef, undef, undef, undef], []⟩ _)
  · intro u hu
    obtain ⟨⟨h0, h1, h2, h3, h4⟩, _⟩ := hu
    obtain ⟨x0, x1, x2, x3⟩ := h3.cells4
    go_simp
  refine HT.take 20 (.agg #[.string s, .string r, .int .i64 m, .slice A fs.length c]) rfl (by kernel_rfl) (fun _ _ _ h => h) (Or.inl ⟨by rfl, ?_⟩) (?_ : HT _ _ _ _ _ _ _ ⟨#[.agg #[.string s, .string r, .int .i64 m, .slice A fs.length c], .agg #[.string host, .int .i64 port, .string path], .agg #[.int .i64 t, .string q, .int .i64 k, .slice B0 gs.length d], .string via, .pointer (some ⟨w.heap.size, 0, none⟩), .pointer (some ⟨w.heap.size + 1, 0, none⟩), .pointer (some ⟨w.heap.size + 1 + 1, 0, none⟩), undef, .bool false, .pointer (some ⟨b3, 0, none⟩), .pointer (some ⟨b4, 0, none⟩), .bool true, .bool false, .agg #[.string s, .string r, .int .i64 m, .slice A fs.length c], .agg #[.string s, .string r, .int .i64 m, .slice A1 fs.length c1], .agg #[.int .i64 t, .string q, .int .i64 k, .slice B0 gs.length d], .agg #[.int .i64 t, .string q, .int .i64 k, .slice A2 gs.length c2], .agg #[.string s, .string r, .int .i64 m, .slice A1 fs.length c1], .agg #[.string host, .int .i64 port, .string path], .string via, .agg #[.string s, .string (F.pathOf path), .int .i64 1, .slice A5 PL.length c5], .agg #[.string s, .string r, .int .i64 m, .slice A fs.length c], .agg #[.string host, .int .i64 port, .string path], .string via, .agg #[.string s, .string (F.pathOf path), .int .i64 1, .slice A6 PL.length c6], .bool true, .bool true, .agg #[.int .i64 t, .string q, .int .i64 k, .slice A2 gs.length c2], .string via, .agg #[.int .i64 t, .string q, .int .i64 1, .slice A8 RL.length c8], .agg #[.int .i64 t, .string q, .int .i64 k, .slice B0 gs.length d], .string via, .agg #[.int .i64 t, .string q, .int .i64 1, .slice A9 RL.length c9], .bool true, .bool true, .bool true, .agg #[.string s, .string r, .int .i64 m, .slice A1 fs.length c1], .agg #[.string s, .string r, .int .i64 m, .slice A fs.length c], undef, undef, undef, undef, undef, undef, undef], []⟩ _)
  · intro u hu
    obtain ⟨⟨h0, h1, h2, h3, h4⟩, _⟩ := hu
    obtain ⟨x0, x1, x2, x3⟩ := h0.cells4
    go_simp
  refine HT.step 21 rfl (by kernel_rfl) (fun hS K hK => ?_)
  go_simp
  refine (sameQ m s r A1 A c1 c fs w10 (by omega) hS.2.1 (HX.out _ hS.2.2.2)).mono ?_
  rintro e w11 ⟨rfl, hb11⟩
  refine hK.out _ _ (hS.below hb11) ?_
  clear hK hS hb11
  refine HT.take 22 (.bool true) rfl (by kernel_rfl) (fun _ _ _ h => h) (Or.inl ⟨by rfl, ?_⟩) (?_ : HT _ _ _ _ _ _ _ ⟨#[.agg #[.string s, .string r, .int .i64 m, .slice A fs.length c], .agg #[.string host, .int .i64 port, .string path], .agg #[.int .i64 t, .string q, .int .i64 k, .slice B0 gs.length d], .string via, .pointer (some ⟨w.heap.size, 0, none⟩), .pointer (some ⟨w.heap.size + 1, 0, none⟩), .pointer (some ⟨w.heap.size + 1 + 1, 0, none⟩), undef, .bool false, .pointer (some ⟨b3, 0, none⟩), .pointer (some ⟨b4, 0, none⟩), .bool true, .bool false, .agg #[.string s, .string r, .int .i64 m, .slice A fs.length c], .agg #[.string s, .string r, .int .i64 m, .slice A1 fs.length c1], .agg #[.int .i64 t, .string q, .int .i64 k, .slice B0 gs.length d], .agg #[.int .i64 t, .string q, .int .i64 k, .slice A2 gs.length c2], .agg #[.string s, .string r, .int .i64 m, .slice A1 fs.length c1], .agg #[.string host, .int .i64 port, .string path], .string via, .agg #[.string s, .string (F.pathOf path), .int .i64 1, .slice A5 PL.length c5], .agg #[.string s, .string r, .int .i64 m, .slice A fs.length c], .agg #[.string host, .int .i64 port, .string path], .string via, .agg #[.string s, .string (F.pathOf path), .int .i64 1, .slice A6 PL.length c6], .bool true, .bool true, .agg #[.int .i64 t, .string q, .int .i64 k, .slice A2 gs.length c2], .string via, .agg #[.int .i64 t, .string q, .int .i64 1, .slice A8 RL.length c8], .agg #[.int .i64 t, .string q, .int .i64 k, .slice B0 gs.length d], .string via, .agg #[.int .i64 t, .string q, .int .i64 1, .slice A9 RL.length c9], .bool true, .bool true, .bool true, .agg #[.string s, .string r, .int .i64 m, .slice A1 fs.length c1], .agg #[.string s, .string r, .int .i64 m, .slice A fs.length c], .bool true, .bool true, undef, undef, undef, undef, undef], []⟩ _)
  · intro u hu
    go_simp
  refine HT.take 23 (.bool true) rfl (by kernel_rfl) (fun _ _ _ h => h) (Or.inl ⟨by rfl, ?_⟩) (?_ : HT _ _ _ _ _ _ _ ⟨#[.agg #[.string s, .string r, .int .i64 m, .slice A fs.length c], .agg #[.string host, .int .i64 port, .string path], .agg #[.int .i64 t, .string q, .int .i64 k, .slice B0 gs.length d], .string via, .pointer (some ⟨w.heap.size, 0, none⟩), .pointer (some ⟨w.heap.size + 1, 0, none⟩), .pointer (some ⟨w.heap.size + 1 + 1, 0, none⟩), undef, .bool false, .pointer (some ⟨b3, 0, none⟩), .pointer (some ⟨b4, 0, none⟩), .bool true, .bool false, .agg #[.string s, .string r, .int .i64 m, .slice A fs.length c], .agg #[.string s, .string r, .int .i64 m, .slice A1 fs.length c1], .agg #[.int .i64 t, .string q, .int .i64 k, .slice B0 gs.length d], .agg #[.int .i64 t, .string q, .int .i64 k, .slice A2 gs.length c2], .agg #[.string s, .string r, .int .i64 m, .slice A1 fs.length c1], .agg #[.string host, .int .i64 port, .string path], .string via, .agg #[.string s, .string (F.pathOf path), .int .i64 1, .slice A5 PL.length c5], .agg #[.string s, .string r, .int .i64 m, .slice A fs.length c], .agg #[.string host, .int .i64 port, .string path], .string via, .agg #[.string s, .string (F.pathOf path), .int .i64 1, .slice A6 PL.length c6], .bool true, .bool true, .agg #[.int .i64 t, .string q, .int .i64 k, .slice A2 gs.length c2], .string via, .agg #[.int .i64 t, .string q, .int .i64 1, .slice A8 RL.length c8], .agg #[.int .i64 t, .string q, .int .i64 k, .slice B0 gs.length d], .string via, .agg #[.int .i64 t, .string q, .int .i64 1, .slice A9 RL.length c9], .bool true, .bool true, .bool true, .agg #[.string s, .string r, .int .i64 m, .slice A1 fs.length c1], .agg #[.string s, .string r, .int .i64 m, .slice A fs.length c], .bool true, .bool true, .bool true, undef, undef, undef, undef], []⟩ _)
  · intro u hu
    go_simp
  refine HT.take 24 (.agg #[.int .i64 t, .string q, .int .i64 k, .slice A2 gs.length c2]) rfl (by kernel_rfl) (fun _ _ _ h => h) (Or.inl ⟨by rfl, ?_⟩) (?_ : HT _ _ _ _ _ _ _ ⟨#[.agg #[.string s, .string r, .int .i64 m, .slice A fs.length c], .agg #[.string host, .int .i64 port, .string path], .agg #[.int .i64 t, .string q, .int .i64 k, .slice B0 gs.length d], .string via, .pointer (some ⟨w.heap.size, 0, none⟩), .pointer (some ⟨w.heap.size + 1, 0, none⟩), .pointer (some ⟨w.heap.size + 1 + 1, 0, none⟩), undef, .bool false, .pointer (some ⟨b3, 0, none⟩), .pointer (some ⟨b4, 0, none⟩), .bool true, .bool false, .agg #[.string s, .string r, .int .i64 m, .slice A fs.length c], .agg #[.string s, .string r, .int .i64 m, .slice A1 fs.length c1], .agg #[.int .i64 t, .string q, .int .i64 k, .slice B0 gs.length d], .agg #[.int .i64 t, .string q, .int .i64 k, .slice A2 gs.length c2], .agg #[.string s, .string r, .int .i64 m, .slice A1 fs.length c1], .agg #[.string host, .int .i64 port, .string path], .string via, .agg #[.string s, .string (F.pathOf path), .int .i64 1, .slice A5 PL.length c5], .agg #[.string s, .string r, .int .i64 m, .slice A fs.length c], .agg #[.string host, .int .i64 port, .string path], .string via, .agg #[.string s, .string (F.pathOf path), .int .i64 1, .slice A6 PL.length c6], .bool true, .bool true, .agg #[.int .i64 t, .string q, .int .i64 k, .slice A2 gs.length c2], .string via, .agg #[.int .i64 t, .string q, .int .i64 1, .slice A8 RL.length c8], .agg #[.int .i64 t, .string q, .int .i64 k, .slice B0 gs.length d], .string via, .agg #[.int .i64 t, .string q, .int .i64 1, .slice A9 RL.length c9], .bool true, .bool true, .bool true, .agg #[.string s, .string r, .int .i64 m, .slice A1 fs.length c1], .agg #[.string s, .string r, .int .i64 m, .slice A fs.length c], .bool true, .bool true, .bool true, .agg #[.int .i64 t, .string q, .int .i64 k, .slice A2 gs.length c2], undef, undef, undef], []⟩ _)
  · intro u hu
    obtain ⟨⟨h0, h1, h2, h3, h4⟩, _⟩ := hu
    obtain ⟨x0, x1, x2, x3⟩ := h4.cells4
    go_simp
  refine HT.take 25 (.agg #[.int .i64 t, .string q, .int .i64 k, .slice B0 gs.length d]) rfl (by kernel_rfl) (fun _ _ _ h => h) (Or.inl ⟨by rfl, ?_⟩) (?_ : HT _ _ _ _ _ _ _ ⟨#[.agg #[.string s, .string r, .int .i64 m, .slice A fs.length c], .agg #[.string host, .int .i64 port, .string path], .agg #[.int .i64 t, .string q, .int .i64 k, .slice B0 gs.length d], .string via, .pointer (some ⟨w.heap.size, 0, none⟩), .pointer (some ⟨w.heap.size + 1, 0, none⟩), .pointer (some ⟨w.heap.size + 1 + 1, 0, none⟩), undef, .bool false, .pointer (some ⟨b3, 0, none⟩), .pointer (some ⟨b4, 0, none⟩), .bool true, .bool false, .agg #[.string s, .string r, .int .i64 m, .slice A fs.length c], .agg #[.string s, .string r, .int .i64 m, .slice A1 fs.length c1], .agg #[.int .i64 t, .string q, .int .i64 k, .slice B0 gs.length d], .agg #[.int .i64 t, .string q, .int .i64 k, .slice A2 gs.length c2], .agg #[.string s, .string r, .int .i64 m, .slice A1 fs.length c1], .agg #[.string host, .int .i64 port, .string path], .string via, .agg #[.string s, .string (F.pathOf path), .int .i64 1, .slice A5 PL.length c5], .agg #[.string s, .string r, .int .i64 m, .slice A fs.length c], .agg #[.string host, .int .i64 port, .string path], .string via, .agg #[.string s, .string (F.pathOf path), .int .i64 1, .slice A6 PL.length c6], .bool true, .bool true, .agg #[.int .i64 t, .string q, .int .i64 k, .slice A2 gs.length c2], .string via, .agg #[.int .i64 t, .string q, .int .i64 1, .slice A8 RL.length c8], .agg #[.int .i64 t, .string q, .int .i64 k, .slice B0 gs.length d], .string via, .agg #[.int .i64 t, .string q, .int .i64 1, .slice A9 RL.length c9], .bool true, .bool true, .bool true, .agg #[.string s, .string r, .int .i64 m, .slice A1 fs.length c1], .agg #[.string s, .string r, .int .i64 m, .slice A fs.length c], .bool true, .bool true, .bool true, .agg #[.int .i64 t, .string q, .int .i64 k, .slice A2 gs.length c2], .agg #[.int .i64 t, .string q, .int .i64 k, .slice B0 gs.length d], undef, undef], []⟩ _)
  · intro u hu
    obtain ⟨⟨h0, h1, h2, h3, h4⟩, _⟩ := hu
    obtain ⟨x0, x1, x2, x3⟩ := h2.cells4
    go_simp
  refine HT.step 26 rfl (by kernel_rfl) (fun hS K hK => ?_)
  go_simp
  refine (sameR k t q A2 B0 c2 d gs w11 (by omega) hS.2.2.1 (HY.out _ hS.2.2.2)).mono ?_
  rintro e w12 ⟨rfl, hb12⟩
  refine hK.out _ _ (hS.below hb12) ?_
  clear hK hS hb12
  refine HT.take 27 (.bool true) rfl (by kernel_rfl) (fun _ _ _ h => h) (Or.inl ⟨by rfl, ?_⟩) (?_ : HT _ _ _ _ _ _ _ ⟨#[.agg #[.string s, .string r, .int .i64 m, .slice A fs.length c], .agg #[.string host, .int .i64 port, .string path], .agg #[.int .i64 t, .string q, .int .i64 k, .slice B0 gs.length d], .string via, .pointer (some ⟨w.heap.size, 0, none⟩), .pointer (some ⟨w.heap.size + 1, 0, none⟩), .pointer (some ⟨w.heap.size + 1 + 1, 0, none⟩), undef, .bool false, .pointer (some ⟨b3, 0, none⟩), .pointer (some ⟨b4, 0, none⟩), .bool true, .bool false, .agg #[.string s, .string r, .int .i64 m, .slice A fs.length c], .agg #[.string s, .string r, .int .i64 m, .slice A1 fs.length c1], .agg #[.int .i64 t, .string q, .int .i64 k, .slice B0 gs.length d], .agg #[.int .i64 t, .string q, .int .i64 k, .slice A2 gs.length c2], .agg #[.string s, .string r, .int .i64 m, .slice A1 fs.length c1], .agg #[.string host, .int .i64 port, .string path], .string via, .agg #[.string s, .string (F.pathOf path), .int .i64 1, .slice A5 PL.length c5], .agg #[.string s, .string r, .int .i64 m, .slice A fs.length c], .agg #[.string host, .int .i64 port, .string path], .string via, .agg #[.string s, .string (F.pathOf path), .int .i64 1, .slice A6 PL.length c6], .bool true, .bool true, .agg #[.int .i64 t, .string q, .int .i64 k, .slice A2 gs.length c2], .string via, .agg #[.int .i64 t, .string q, .int .i64 1, .slice A8 RL.length c8], .agg #[.int .i64 t, .string q, .int .i64 k, .slice B0 gs.length d], .string via, .agg #[.int .i64 t, .string q, .int .i64 1, .slice A9 RL.length c9], .bool true, .bool true, .bool true, .agg #[.string s, .string r, .int .i64 m, .slice A1 fs.length c1], .agg #[.string s, .string r, .int .i64 m, .slice A fs.length c], .bool true, .bool true, .bool true, .agg #[.int .i64 t, .string q, .int .i64 k, .slice A2 gs.length c2], .agg #[.int .i64 t, .string q, .int .i64 k, .slice B0 gs.length d], .bool true, .bool true], []⟩ _)
  · intro u hu
    go_simp
  refine HT.tail _ rfl rfl (by kernel_rfl) (fun hS => ?_)
  have HB := Lib.hid hS.2.2.2
  clear hS
  go_wp2
  refine NoPanic.normal ?_
  go_wp2
  go_ret
  exact ⟨rfl, HB.out⟩
end Go.Proofs.YtcoohkgamogmgaaDoor
