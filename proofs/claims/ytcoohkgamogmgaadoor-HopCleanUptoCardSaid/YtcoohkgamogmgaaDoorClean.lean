/- The walk of the law HopClean. Conditions: a list of bulk at most 2^20, texts of at most 2^20 bytes, numbers of 64 bits, the library's table of powers of ten. -/
import Derived.Test.YtcoohkgamogmgaaDoorSends
import Derived.IntWalk
namespace Go.Proofs.YtcoohkgamogmgaaDoor
open Go.RowKit

/-- What the walk holds behind the request: the request's block, its list, the argument's block. -/
def CleanS (w : World) (b7 : Nat) (X X7 : Array Value) (A2 : Option Addr) (PL : List FD) (u : World) : Prop :=
  Blk u b7 X7 50 ∧ Rd u A2 PL.length 2 (fcells PL) ∧ Blk u w.heap.size X 50 ∧ Below w.heap.size w u
theorem CleanS.below {w u v : World} {b7 : Nat} {X X7 : Array Value} {A2 : Option Addr} {PL : List FD} (h : CleanS w b7 X X7 A2 PL u) (hb : Below u.heap.size u v) : CleanS w b7 X X7 A2 PL v :=
  ⟨h.1.below hb, h.2.1.below hb, h.2.2.1.below hb, below_then h.2.2.2.size h.2.2.2 hb⟩
theorem small_bulk {fs : List FD} (h : F.bulk fs ≤ 8589934592) : FSmall fs := fun f hf => by
  have := F.mem_bulk hf
  omega
theorem ten_small : ∀ x ∈ F.ten, x.size ≤ 1099511627776 := by unfold F.ten F.clenN F.expectN; decide
theorem pathOf_ne (p : ByteArray) : ¬ F.pathOf p = ⟨#[]⟩ := by
  unfold F.pathOf
  split
  · decide
  · assumption

set_option maxRecDepth 100000 in
set_option maxHeartbeats 2000000 in
theorem hopClean_any (s r via host path : ByteArray) (m port : Int) (A : Option Addr) (c : Nat) (fs : List FD) (w : World)
    (hf : F.bulk fs ≤ 1048576) (hx : Rd w A fs.length 2 (fcells fs))
    (h0 : -9223372036854775808 ≤ m) (h1 : m ≤ 9223372036854775807) (p0 : -9223372036854775808 ≤ port) (p1 : port ≤ 9223372036854775807) (hv : via.size ≤ 1048576) (hh : host.size ≤ 1048576) (ht : TabOk w) :
    Calls Tryd.prog 7 #[.agg #[.string s, .string r, .int .i64 m, .slice A fs.length c], .agg #[.string host, .int .i64 port, .string path], .string via] w (RetB w true) := by
  have zH := hostOf_size host port p0 p1
  have zV := viaOf_size fs m via h0 h1
  have hn := F.len_le_bulk fs
  have zP := F.bulk_sent fs m via host port
  have hPL := F.len_le_bulk (F.sent fs m via host port)
  have zT := toks_sum fs F.cConn
  obtain ⟨ve1, ve2⟩ := F.via_ends fs m via
  have HA := Lib.hid (fun (w' : World) (hb : Below w.heap.size w w') => alive_any w' (ht.below hb))
  have H1 := Lib.hid (fun (w' : World) (hb : Below w.heap.size w w') => copyRequest_any m s r A fs.length c fs w' rfl (by omega) (hx.below hb))
  have H3 := Lib.hid (fun (A1 : Option Addr) (c1 : Nat) (w' : World) (hb : Below w.heap.size w w') (hx1 : Rd w' A1 fs.length 2 (fcells fs)) (hn1 : A1 = none → fs.length = 0 ∧ c1 = 0) => request_any s r via host path m port A1 fs.length c1 fs w' rfl hf hx1 hn1 h0 h1 p0 p1 hv hh (ht.below hb))
  have HF := Lib.hid (fun (w' : World) (hb : Below w.heap.size w w') => copyFields_any A fs.length c fs w' (by omega) (hx.below hb))
  have HV := Lib.hid (fun (A2 : Option Addr) (c2 : Nat) (name : ByteArray) (hnm : name.size ≤ 1099511627776) (w' : World) (hx1 : Rd w' A2 (F.sent fs m via host port).length 2 (fcells (F.sent fs m via host port))) => values_any A2 (F.sent fs m via host port).length c2 (F.sent fs m via host port) name w' (by omega) rfl (small_bulk (by omega)) hnm hx1)
  have HTK := Lib.hid (fun (A2 : Option Addr) (c2 : Nat) (w' : World) (hx1 : Rd w' A2 fs.length 2 (fcells fs)) => tokens_any A2 fs.length c2 fs F.cConn w' (by omega) rfl (small_bulk (by omega)) (by decide) (by omega) hx1)
  have HTEN := Lib.hid (fun name (hn : name ∈ F.ten) => F.clean_ten fs m via host port name hn)
  have HWORD := Lib.hid (fun x (hx : x ∈ F.tokens fs F.cConn) => F.clean_word fs m via host port x hx)
  have HSM := Lib.hid (fun x (hx : x ∈ F.tokens fs F.cConn) => mem_toks hx)
  have HHOST := Lib.hid (F.values_sent_host fs m via host port)
  have HVIA := Lib.hid (F.values_sent_via fs m via host port)
  have HP7 := Lib.hid (pathOf_ne path)
  generalize hts : F.tokens fs F.cConn = ts at *
  have hTL : ts.length ≤ 1048576 := by omega
  generalize hPLe : F.sent fs m via host port = PL at *
  generalize hVe : F.viaOf fs m via = V at *
  generalize hHe : F.hostOf host port = HO at *
  generalize hpe : F.pathOf path = p7 at *
  have hVs : V.size ≤ 1099511627776 := by omega
  have hviab : F.bulk fs ≤ 1099511627776 := by omega
  clear hts hPLe hVe hHe hpe zH zP zT hx h0 h1 p0 p1 hv hh ht hn hPL zV hf
  have HVE := Lib.hid (And.intro ve1 ve2)
  clear ve1 ve2
  go_enter Tryd.func7, Tryd.ntmps7
  go_wp2_with fail
  have HS0 := Lib.hid (Two.start w #[.string s, .string r, .int .i64 m, .slice A fs.length c] 50 #[.string host, .int .i64 port, .string path] 52)
  generalize (w.alloc (.cells #[.string s, .string r, .int .i64 m, .slice A fs.length c] 50)).alloc (.cells #[.string host, .int .i64 port, .string path] 52) = w0 at *
  refine (HA.out _ HS0.out.2.2).mono ?_
  rintro e w1 ⟨rfl, hb1⟩
  have HS1 := Lib.hid (HS0.out.below hb1)
  clear HS0 hb1 HA
  go_wp2
  have hS0 := HS1.out.drew
  refine wp_region_noPanic ?_
  refine HT.begin (n := 6) (S := Two w #[.string s, .string r, .int .i64 m, .slice A fs.length c] 50 #[.string host, .int .i64 port, .string path] 52) (by kernel_rfl) hS0 ?_
  refine HT.take 0 (.agg #[.string s, .string r, .int .i64 m, .slice A fs.length c]) rfl (by kernel_rfl) (fun _ _ _ h => h) (Or.inl ⟨by rfl, ?_⟩) (?_ : HT _ _ _ _ _ _ _ ⟨#[_, _, _, _, _, _, _, _, _, _, _, _, _, _, _, .agg #[.string s, .string r, .int .i64 m, .slice A fs.length c], _, _, _, _, _, _, _, _, _, _, _, _, _, _, _, _, _, _, _, _, _, _, _, _, _, _, _, _, _, _, _, _, _, _, _, _, _, _, _, _, _, _, _, _, _, _, _, _, _, _, _, _, _, _, _, _, _, _, _, _, _, _, _, _, _, _, _, _, _, _, _, _, _, _, _, _, _, _, _, _, _, _, _, _, _, _, _, _, _, _, _, _, _, _, _, _, _, _, _, _, _, _, _, _, _, _, _], []⟩ _)
  · intro u hu
    obtain ⟨hq, ht, hb⟩ := hu
    obtain ⟨x0, x1, x2, x3⟩ := hq.cells4
    go_simp
  refine HT.take 2 (.agg #[.string host, .int .i64 port, .string path]) rfl (by kernel_rfl) (fun _ _ _ h => h) (Or.inl ⟨by rfl, ?_⟩) (?_ : HT _ _ _ _ _ _ _ ⟨#[_, _, _, _, _, _, _, _, _, _, _, _, _, _, _, .agg #[.string s, .string r, .int .i64 m, .slice A fs.length c], _, .agg #[.string host, .int .i64 port, .string path], _, _, _, _, _, _, _, _, _, _, _, _, _, _, _, _, _, _, _, _, _, _, _, _, _, _, _, _, _, _, _, _, _, _, _, _, _, _, _, _, _, _, _, _, _, _, _, _, _, _, _, _, _, _, _, _, _, _, _, _, _, _, _, _, _, _, _, _, _, _, _, _, _, _, _, _, _, _, _, _, _, _, _, _, _, _, _, _, _, _, _, _, _, _, _, _, _, _, _, _, _, _, _, _, _], []⟩ _)
  · intro u hu
    obtain ⟨hq, ht, hb⟩ := hu
    obtain ⟨x0, x1, x2⟩ := ht.cells3
    go_simp
  refine HT.take 3 (.string via) rfl (by kernel_rfl) (fun _ _ _ h => h) (Or.inl ⟨by rfl, ?_⟩) (?_ : HT _ _ _ _ _ _ _ ⟨#[_, _, _, _, _, _, _, _, _, _, _, _, _, _, _, .agg #[.string s, .string r, .int .i64 m, .slice A fs.length c], _, .agg #[.string host, .int .i64 port, .string path], .string via, _, _, _, _, _, _, _, _, _, _, _, _, _, _, _, _, _, _, _, _, _, _, _, _, _, _, _, _, _, _, _, _, _, _, _, _, _, _, _, _, _, _, _, _, _, _, _, _, _, _, _, _, _, _, _, _, _, _, _, _, _, _, _, _, _, _, _, _, _, _, _, _, _, _, _, _, _, _, _, _, _, _, _, _, _, _, _, _, _, _, _, _, _, _, _, _, _, _, _, _, _, _, _, _], []⟩ _)
  · intro u hu
    go_simp
  refine HT.block (f0 := 1) [1, 4, 5] (fun j v u => match j with | 1 => ∃ A1 c1, v = .agg #[.string s, .string r, .int .i64 m, .slice A1 fs.length c1] ∧ Rd u A1 fs.length 2 (fcells fs) ∧ (A1 = none → fs.length = 0 ∧ c1 = 0) | 4 => ∃ A2 c2, v = .agg #[.string s, .string p7, .int .i64 1, .slice A2 PL.length c2] ∧ Row u w.heap.size 67 2 A2 PL.length c2 (fcells PL) | 5 => PtrBlk (w.heap.size + 2) #[.string ⟨#[]⟩, .string ⟨#[]⟩, .int .i64 0, .slice none 0 0] 50 v u | _ => True) (fun vs => ⟨#[_, _, _, _, _, _, _, vs 5, _, _, _, _, _, _, _, .agg #[.string s, .string r, .int .i64 m, .slice A fs.length c], vs 1, .agg #[.string host, .int .i64 port, .string path], .string via, vs 4, _, _, _, _, _, _, _, _, _, _, _, _, _, _, _, _, _, _, _, _, _, _, _, _, _, _, _, _, _, _, _, _, _, _, _, _, _, _, _, _, _, _, _, _, _, _, _, _, _, _, _, _, _, _, _, _, _, _, _, _, _, _, _, _, _, _, _, _, _, _, _, _, _, _, _, _, _, _, _, _, _, _, _, _, _, _, _, _, _, _, _, _, _, _, _, _, _, _, _, _, _, _, _], []⟩) (fun _ => rfl) (by kernel_rfl) (fun u u' hb h => h.below hb) (fun j v u u' hb h => by revert h; split <;> intro h <;> first | exact h.below hb | (obtain ⟨A1, c1, hv, hr, hn⟩ := h; exact ⟨A1, c1, hv, hr.below hb, hn⟩) | (obtain ⟨A1, c1, hv, hr⟩ := h; exact ⟨A1, c1, hv, hr.below hb⟩) | trivial) (List.forall_mem_cons.2 ⟨⟨_, rfl, ?_⟩, List.forall_mem_cons.2 ⟨⟨_, rfl, ?_⟩, List.forall_mem_cons.2 ⟨⟨_, rfl, ?_⟩, fun _ h => by cases h⟩⟩⟩) ?_
  · intro vs u hS hd K hK
    go_simp
    refine (H1.out u hS.2.2).mono ?_
    rintro e w5 ⟨A1, c1, rfl, hr, hb⟩
    exact hK.out (.agg #[.string s, .string r, .int .i64 m, .slice A1 fs.length c1]) _ ⟨A1, c1, rfl, hr.rd, fun h => hr.nilB h⟩ hb
  · intro vs u hS hd K hK
    obtain ⟨A1, c1, e1, hr1, hn1⟩ : (fun v u => ∃ A1 c1, v = .agg #[.string s, .string r, .int .i64 m, .slice A1 fs.length c1] ∧ Rd u A1 fs.length 2 (fcells fs) ∧ (A1 = none → fs.length = 0 ∧ c1 = 0)) (vs 1) u := hd 1 (by simp) (by kernel_rfl)
    have hc := H3.out A1 c1 u hS.2.2 hr1 hn1
    rw [← e1] at hc
    clear e1 hd
    have HC := Lib.hid hc
    clear hc
    go_simp
    refine HC.out.mono ?_
    rintro e w5 ⟨A2, c2, rfl, hr, hb⟩
    exact hK.out (.agg #[.string s, .string p7, .int .i64 1, .slice A2 PL.length c2]) _ ⟨A2, c2, rfl, hr.mono hS.2.2.size⟩ hb
  · intro vs u hS hd K hK
    go_simp
    exact hK.out (.pointer (some ⟨u.heap.size, 0, none⟩)) _ ⟨_, rfl, hS.size, Blk.new u _ _⟩ ((Below.refl _ _).alloc (Nat.le_refl _) _)
  intro vs u hS hR
  have hv16 := hR 1 (by simp)
  generalize vs 1 = v16 at *
  have hv19 := hR 4 (by simp)
  generalize vs 4 = v19 at *
  have hv7 := hR 5 (by simp)
  generalize vs 5 = v7 at *
  clear hR
  refine (?_ : HT _ _ _ _ _ _ _ ⟨#[_, _, _, _, _, _, _, v7, _, _, _, _, _, _, _, .agg #[.string s, .string r, .int .i64 m, .slice A fs.length c], v16, .agg #[.string host, .int .i64 port, .string path], .string via, v19, _, _, _, _, _, _, _, _, _, _, _, _, _, _, _, _, _, _, _, _, _, _, _, _, _, _, _, _, _, _, _, _, _, _, _, _, _, _, _, _, _, _, _, _, _, _, _, _, _, _, _, _, _, _, _, _, _, _, _, _, _, _, _, _, _, _, _, _, _, _, _, _, _, _, _, _, _, _, _, _, _, _, _, _, _, _, _, _, _, _, _, _, _, _, _, _, _, _, _, _, _, _, _], []⟩ _)
  obtain ⟨A1, c1, rfl, _, _⟩ := hv16
  obtain ⟨A2, c2, rfl, hr2⟩ := hv19
  obtain ⟨b7, rfl, hb7, hk7⟩ := hv7
  refine HT.tail _ rfl rfl (by kernel_rfl) (fun hS => ?_)
  have HS5 : Hid (CleanS w b7 #[.string s, .string r, .int .i64 m, .slice A fs.length c] #[.string s, .string p7, .int .i64 1, .slice A2 PL.length c2] A2 PL ((((u.setCell ⟨b7, 0, none⟩ (.string s)).setCell ⟨b7, 1, none⟩ (.string p7)).setCell ⟨b7, 2, none⟩ (.int .i64 1)).setCell ⟨b7, 3, none⟩ (.slice A2 PL.length c2))) := Lib.hid ⟨hk7.set4 (.string s) (.string p7) (.int .i64 1) (.slice A2 PL.length c2), (hr2.farT4 hk7 (by decide) (.string s) (.string p7) (.int .i64 1) (.slice A2 PL.length c2)).rd, hS.1.far4 (b' := b7) (by omega) (.string s) (.string p7) (.int .i64 1) (.slice A2 PL.length c2), below_four hS.2.2 (b := b7) (by omega) (.string s) (.string p7) (.int .i64 1) (.slice A2 PL.length c2)⟩
  obtain ⟨y0, y1, y2, y3⟩ := hk7.cells4
  obtain ⟨f0, f1, f2, f3⟩ := hk7.free4
  clear hS hr2 hk7 HS1
  go_wp2
  refine NoPanic.normal ?_
  clear y0 y1 y2 y3 f0 f1 f2 f3
  generalize ((((u.setCell ⟨b7, 0, none⟩ (.string s)).setCell ⟨b7, 1, none⟩ (.string p7)).setCell ⟨b7, 2, none⟩ (.int .i64 1)).setCell ⟨b7, 3, none⟩ (.slice A2 PL.length c2)) = w5 at *
  go_wp2
  have HS6 := Lib.hid (HS5.out.below ((Below.refl _ _).alloc (Nat.le_refl _) (.cells #[.string ⟨#[67, 111, 110, 110, 101, 99, 116, 105, 111, 110]⟩, .string ⟨#[75, 101, 101, 112, 45, 65, 108, 105, 118, 101]⟩, .string ⟨#[80, 114, 111, 120, 121, 45, 67, 111, 110, 110, 101, 99, 116, 105, 111, 110]⟩, .string ⟨#[80, 114, 111, 120, 121, 45, 65, 117, 116, 104, 111, 114, 105, 122, 97, 116, 105, 111, 110]⟩, .string ⟨#[84, 69]⟩, .string ⟨#[84, 114, 97, 105, 108, 101, 114]⟩, .string ⟨#[84, 114, 97, 110, 115, 102, 101, 114, 45, 69, 110, 99, 111, 100, 105, 110, 103]⟩, .string ⟨#[85, 112, 103, 114, 97, 100, 101]⟩, .string ⟨#[67, 111, 110, 116, 101, 110, 116, 45, 76, 101, 110, 103, 116, 104]⟩, .string ⟨#[69, 120, 112, 101, 99, 116]⟩] 9)))
  have HN6 : Hid (Rd (w5.alloc (.cells #[.string ⟨#[67, 111, 110, 110, 101, 99, 116, 105, 111, 110]⟩, .string ⟨#[75, 101, 101, 112, 45, 65, 108, 105, 118, 101]⟩, .string ⟨#[80, 114, 111, 120, 121, 45, 67, 111, 110, 110, 101, 99, 116, 105, 111, 110]⟩, .string ⟨#[80, 114, 111, 120, 121, 45, 65, 117, 116, 104, 111, 114, 105, 122, 97, 116, 105, 111, 110]⟩, .string ⟨#[84, 69]⟩, .string ⟨#[84, 114, 97, 105, 108, 101, 114]⟩, .string ⟨#[84, 114, 97, 110, 115, 102, 101, 114, 45, 69, 110, 99, 111, 100, 105, 110, 103]⟩, .string ⟨#[85, 112, 103, 114, 97, 100, 101]⟩, .string ⟨#[67, 111, 110, 116, 101, 110, 116, 45, 76, 101, 110, 103, 116, 104]⟩, .string ⟨#[69, 120, 112, 101, 99, 116]⟩] 9)) (some ⟨w5.heap.size, 0, none⟩) 10 1 (scells F.ten)) := Lib.hid (Rd.newRow w5 9 #[.string ⟨#[67, 111, 110, 110, 101, 99, 116, 105, 111, 110]⟩, .string ⟨#[75, 101, 101, 112, 45, 65, 108, 105, 118, 101]⟩, .string ⟨#[80, 114, 111, 120, 121, 45, 67, 111, 110, 110, 101, 99, 116, 105, 111, 110]⟩, .string ⟨#[80, 114, 111, 120, 121, 45, 65, 117, 116, 104, 111, 114, 105, 122, 97, 116, 105, 111, 110]⟩, .string ⟨#[84, 69]⟩, .string ⟨#[84, 114, 97, 105, 108, 101, 114]⟩, .string ⟨#[84, 114, 97, 110, 115, 102, 101, 114, 45, 69, 110, 99, 111, 100, 105, 110, 103]⟩, .string ⟨#[85, 112, 103, 114, 97, 100, 101]⟩, .string ⟨#[67, 111, 110, 116, 101, 110, 116, 45, 76, 101, 110, 103, 116, 104]⟩, .string ⟨#[69, 120, 112, 101, 99, 116]⟩] 10 1 rfl)
  generalize w5.alloc (.cells #[.string ⟨#[67, 111, 110, 110, 101, 99, 116, 105, 111, 110]⟩, .string ⟨#[75, 101, 101, 112, 45, 65, 108, 105, 118, 101]⟩, .string ⟨#[80, 114, 111, 120, 121, 45, 67, 111, 110, 110, 101, 99, 116, 105, 111, 110]⟩, .string ⟨#[80, 114, 111, 120, 121, 45, 65, 117, 116, 104, 111, 114, 105, 122, 97, 116, 105, 111, 110]⟩, .string ⟨#[84, 69]⟩, .string ⟨#[84, 114, 97, 105, 108, 101, 114]⟩, .string ⟨#[84, 114, 97, 110, 115, 102, 101, 114, 45, 69, 110, 99, 111, 100, 105, 110, 103]⟩, .string ⟨#[85, 112, 103, 114, 97, 100, 101]⟩, .string ⟨#[67, 111, 110, 116, 101, 110, 116, 45, 76, 101, 110, 103, 116, 104]⟩, .string ⟨#[69, 120, 112, 101, 99, 116]⟩] 9) = w6 at *
  generalize w5.heap.size = bN at *
  clear HS5
  go_loopw [9] (fun i wr => ∃ k : Nat, k ≤ 10 ∧ i = .int .i64 k ∧ CleanS w b7 #[.string s, .string r, .int .i64 m, .slice A fs.length c] #[.string s, .string p7, .int .i64 1, .slice A2 PL.length c2] A2 PL wr ∧ Rd wr (some ⟨bN, 0, none⟩) 10 1 (scells F.ten)) (fun i _ => 10 - (intOf i).toNat)
  case atStart => exact ⟨0, Nat.zero_le _, rfl, HS6.out, HN6.out⟩
  case round =>
    clear HS6 HN6
    obtain ⟨k, hk, rfl, hS, hN⟩ := hrel
    by_cases hlt : k < 10
    · obtain ⟨b, o, hA, hb, cx⟩ := hN.str hlt rfl
      obtain ⟨rfl, rfl⟩ : b = bN ∧ o = 0 := by simpa using hA.symm
      have hnm := HTEN.out (F.ten[k]'hlt) (List.getElem_mem _)
      have hsz := ten_small (F.ten[k]'hlt) (List.getElem_mem _)
      generalize F.ten[k]'hlt = x at *
      rw [Nat.zero_add] at cx
      have HVK : Hid (∀ u, Rd u A2 PL.length 2 (fcells PL) → Calls Tryd.prog 33 #[.slice A2 PL.length c2, .string x] u (RetRow u 9 1 0 [])) := by
        have := HV.out A2 c2 x hsz
        rw [hnm] at this
        exact this
      have HS := Lib.hid hS
      have HN := Lib.hid hN
      have CX := Lib.hid cx
      clear hS hN hnm hsz hA cx
      go_wp2
      have hS0 : (CleanS w b7 #[.string s, .string r, .int .i64 m, .slice A fs.length c] #[.string s, .string p7, .int .i64 1, .slice A2 PL.length c2] A2 PL wr.drew ∧ Rd wr.drew (some ⟨b, 0, none⟩) 10 1 (scells F.ten) ∧ wr.drew.cell? ⟨b, k, none⟩ = some (.string x)) := ⟨HS.out.below (Below.refl _ _).drew, HN.out, CX.out⟩
      clear HS HN CX
      refine wp_region_noPanic ?_
      refine HT.begin (n := 6) (S := (fun u => CleanS w b7 #[.string s, .string r, .int .i64 m, .slice A fs.length c] #[.string s, .string p7, .int .i64 1, .slice A2 PL.length c2] A2 PL u ∧ Rd u (some ⟨b, 0, none⟩) 10 1 (scells F.ten) ∧ u.cell? ⟨b, k, none⟩ = some (.string x))) (by kernel_rfl) hS0 ?_
      refine HT.take 0 (.pointer (some ⟨b7, 3, none⟩)) rfl (by kernel_rfl) (fun _ _ _ h => h) (Or.inl ⟨by rfl, ?_⟩) (?_ : HT _ _ _ _ _ _ _ ⟨#[_, _, _, _, _, _, _, _, _, _, _, _, _, _, _, _, _, _, _, _, _, _, _, _, _, _, _, .pointer (some ⟨b7, 3, none⟩), _, _, _, _, _, _, _, _, _, _, _, _, _, _, _, _, _, _, _, _, _, _, _, _, _, _, _, _, _, _, _, _, _, _, _, _, _, _, _, _, _, _, _, _, _, _, _, _, _, _, _, _, _, _, _, _, _, _, _, _, _, _, _, _, _, _, _, _, _, _, _, _, _, _, _, _, _, _, _, _, _, _, _, _, _, _, _, _, _, _, _, _, _, _, _], []⟩ _)
      · intro u hu
        go_simp
      refine HT.take 1 (.slice A2 PL.length c2) rfl (by kernel_rfl) (fun _ _ _ h => h) (Or.inl ⟨by rfl, ?_⟩) (?_ : HT _ _ _ _ _ _ _ ⟨#[_, _, _, _, _, _, _, _, _, _, _, _, _, _, _, _, _, _, _, _, _, _, _, _, _, _, _, .pointer (some ⟨b7, 3, none⟩), .slice A2 PL.length c2, _, _, _, _, _, _, _, _, _, _, _, _, _, _, _, _, _, _, _, _, _, _, _, _, _, _, _, _, _, _, _, _, _, _, _, _, _, _, _, _, _, _, _, _, _, _, _, _, _, _, _, _, _, _, _, _, _, _, _, _, _, _, _, _, _, _, _, _, _, _, _, _, _, _, _, _, _, _, _, _, _, _, _, _, _, _, _, _, _, _, _, _, _, _], []⟩ _)
      · intro u hu
        obtain ⟨⟨hq, _⟩, _⟩ := hu
        obtain ⟨x0, x1, x2, x3⟩ := hq.cells4
        go_simp
      refine HT.take 2 (.slice (some ⟨b, 0, none⟩) 10 10) rfl (by kernel_rfl) (fun _ _ _ h => h) (Or.inl ⟨by rfl, ?_⟩) (?_ : HT _ _ _ _ _ _ _ ⟨#[_, _, _, _, _, _, _, _, _, _, _, _, _, _, _, _, _, _, _, _, _, _, _, _, _, _, _, .pointer (some ⟨b7, 3, none⟩), .slice A2 PL.length c2, .slice (some ⟨b, 0, none⟩) 10 10, _, _, _, _, _, _, _, _, _, _, _, _, _, _, _, _, _, _, _, _, _, _, _, _, _, _, _, _, _, _, _, _, _, _, _, _, _, _, _, _, _, _, _, _, _, _, _, _, _, _, _, _, _, _, _, _, _, _, _, _, _, _, _, _, _, _, _, _, _, _, _, _, _, _, _, _, _, _, _, _, _, _, _, _, _, _, _, _, _, _, _, _, _], []⟩ _)
      · intro u hu
        go_simp
      refine HT.take 3 (.int .i64 k) rfl (by kernel_rfl) (fun _ _ _ h => h) (Or.inl ⟨by rfl, ?_⟩) (?_ : HT _ _ _ _ _ _ _ ⟨#[_, _, _, _, _, _, _, _, _, _, _, _, _, _, _, _, _, _, _, _, _, _, _, _, _, _, _, .pointer (some ⟨b7, 3, none⟩), .slice A2 PL.length c2, .slice (some ⟨b, 0, none⟩) 10 10, .int .i64 k, _, _, _, _, _, _, _, _, _, _, _, _, _, _, _, _, _, _, _, _, _, _, _, _, _, _, _, _, _, _, _, _, _, _, _, _, _, _, _, _, _, _, _, _, _, _, _, _, _, _, _, _, _, _, _, _, _, _, _, _, _, _, _, _, _, _, _, _, _, _, _, _, _, _, _, _, _, _, _, _, _, _, _, _, _, _, _, _, _, _, _, _], []⟩ _)
      · intro u hu
        go_simp
      refine HT.take 4 (.pointer (some ⟨b, k, none⟩)) rfl (by kernel_rfl) (fun _ _ _ h => h) (Or.inl ⟨by rfl, ?_⟩) (?_ : HT _ _ _ _ _ _ _ ⟨#[_, _, _, _, _, _, _, _, _, _, _, _, _, _, _, _, _, _, _, _, _, _, _, _, _, _, _, .pointer (some ⟨b7, 3, none⟩), .slice A2 PL.length c2, .slice (some ⟨b, 0, none⟩) 10 10, .int .i64 k, .pointer (some ⟨b, k, none⟩), _, _, _, _, _, _, _, _, _, _, _, _, _, _, _, _, _, _, _, _, _, _, _, _, _, _, _, _, _, _, _, _, _, _, _, _, _, _, _, _, _, _, _, _, _, _, _, _, _, _, _, _, _, _, _, _, _, _, _, _, _, _, _, _, _, _, _, _, _, _, _, _, _, _, _, _, _, _, _, _, _, _, _, _, _, _, _, _, _, _, _], []⟩ _)
      · intro u hu
        go_simp
      refine HT.take 5 (.string x) rfl (by kernel_rfl) (fun _ _ _ h => h) (Or.inl ⟨by rfl, ?_⟩) (?_ : HT _ _ _ _ _ _ _ ⟨#[_, _, _, _, _, _, _, _, _, _, _, _, _, _, _, _, _, _, _, _, _, _, _, _, _, _, _, .pointer (some ⟨b7, 3, none⟩), .slice A2 PL.length c2, .slice (some ⟨b, 0, none⟩) 10 10, .int .i64 k, .pointer (some ⟨b, k, none⟩), .string x, _, _, _, _, _, _, _, _, _, _, _, _, _, _, _, _, _, _, _, _, _, _, _, _, _, _, _, _, _, _, _, _, _, _, _, _, _, _, _, _, _, _, _, _, _, _, _, _, _, _, _, _, _, _, _, _, _, _, _, _, _, _, _, _, _, _, _, _, _, _, _, _, _, _, _, _, _, _, _, _, _, _, _, _, _, _, _, _, _, _], []⟩ _)
      · intro u hu
        obtain ⟨_, _, cx⟩ := hu
        go_simp
      refine HT.tail _ rfl rfl (by kernel_rfl) (fun hS => ?_)
      have HS := Lib.hid hS
      clear hS hS0
      go_wp2_with fail
      refine (HVK.out _ HS.out.1.2.1).mono ?_
      rintro e w8 ⟨R1, d1, rfl, hr, hb8⟩
      have HS7 := Lib.hid (HS.out.1.below hb8)
      have HN7 := Lib.hid (HS.out.2.1.below hb8)
      clear hr hb8 HS
      go_wp2
      refine NoPanic.normal ?_
      go_wp2
      go_roundw
      case rel => exact ⟨k + 1, by omega, by go_num, HS7.out, HN7.out⟩
      case measure => simp [intOf]; omega
    · have hk10 : k = 10 := by omega
      subst hk10
      clear hlt
      have HS7 := Lib.hid hS
      clear hS hN HTEN
      obtain ⟨z0, z1, z2, z3⟩ := HS7.out.2.2.1.cells4
      go_wp2_with fail
      refine (HF.out _ HS7.out.2.2.2).mono ?_
      rintro e w9 ⟨A3, c3, rfl, hr3, hb9⟩
      have HS9 := Lib.hid (HS7.out.below hb9)
      have hr3d := hr3.rd
      clear hr3 hb9 HS7 HF z0 z1 z2 z3
      go_wp2_with fail
      refine (HTK.out A3 c3 _ hr3d).mono ?_
      rintro e w10 ⟨At, ct, rfl, hrt, hb10⟩
      have HS10 := Lib.hid (HS9.out.below hb10)
      have HW10 := Lib.hid hrt.rd
      clear hrt hb10 HS9 HTK hr3d
      go_wp2
      go_loopw [11] (fun i wr => ∃ k : Nat, k ≤ ts.length ∧ i = .int .i64 k ∧ CleanS w b7 #[.string s, .string r, .int .i64 m, .slice A fs.length c] #[.string s, .string p7, .int .i64 1, .slice A2 PL.length c2] A2 PL wr ∧ Rd wr At ts.length 1 (scells ts)) (fun i _ => ts.length - (intOf i).toNat)
      case atStart => exact ⟨0, Nat.zero_le _, rfl, HS10.out, HW10.out⟩
      case round =>
        clear HS10 HW10
        obtain ⟨k, hk, rfl, hS, hN⟩ := hrel
        by_cases hlt : k < ts.length
        · have hmem : ts[k]'hlt ∈ ts := List.getElem_mem _
          obtain ⟨b, o, rfl, hb, cx⟩ := hN.str hlt rfl
          have hw := HWORD.out _ hmem
          have hsz := HSM.out _ hmem
          generalize ts[k]'hlt = x at *
          have HS := Lib.hid hS
          have HN := Lib.hid hN
          clear hS hN hmem
          by_cases hxh : x = ⟨#[104, 111, 115, 116]⟩
          · subst hxh
            have CX := Lib.hid cx
            clear cx hw hsz
            go_wp2
            have hS0 : (CleanS w b7 #[.string s, .string r, .int .i64 m, .slice A fs.length c] #[.string s, .string p7, .int .i64 1, .slice A2 PL.length c2] A2 PL wr.drew ∧ Rd wr.drew (some ⟨b, o, none⟩) ts.length 1 (scells ts) ∧ wr.drew.cell? ⟨b, o + k, none⟩ = some (.string ⟨#[104, 111, 115, 116]⟩)) := ⟨HS.out.below (Below.refl _ _).drew, HN.out, CX.out⟩
            clear HS HN CX
            refine wp_region_noPanic ?_
            refine HT.begin (n := 19) (S := (fun u => CleanS w b7 #[.string s, .string r, .int .i64 m, .slice A fs.length c] #[.string s, .string p7, .int .i64 1, .slice A2 PL.length c2] A2 PL u ∧ Rd u (some ⟨b, o, none⟩) ts.length 1 (scells ts) ∧ u.cell? ⟨b, o + k, none⟩ = some (.string ⟨#[104, 111, 115, 116]⟩))) (by kernel_rfl) hS0 ?_
            refine HT.take 0 (.slice (some ⟨b, o, none⟩) ts.length ct) rfl (by kernel_rfl) (fun _ _ _ h => h) (Or.inl ⟨by rfl, ?_⟩) (?_ : HT _ _ _ _ _ _ _ ⟨#[_, _, _, _, _, _, _, _, _, _, _, _, _, _, _, _, _, _, _, _, _, _, _, _, _, _, _, _, _, _, _, _, _, _, _, _, _, _, _, _, _, _, _, _, _, _, .slice (some ⟨b, o, none⟩) ts.length ct, _, _, _, _, _, _, _, _, _, _, _, _, _, _, _, _, _, _, _, _, _, _, _, _, _, _, _, _, _, _, _, _, _, _, _, _, _, _, _, _, _, _, _, _, _, _, _, _, _, _, _, _, _, _, _, _, _, _, _, _, _, _, _, _, _, _, _, _, _, _, _, _, _, _, _, _], []⟩ _)
            · intro u hu
              go_simp
            refine HT.take 1 (.int .i64 k) rfl (by kernel_rfl) (fun _ _ _ h => h) (Or.inl ⟨by rfl, ?_⟩) (?_ : HT _ _ _ _ _ _ _ ⟨#[_, _, _, _, _, _, _, _, _, _, _, _, _, _, _, _, _, _, _, _, _, _, _, _, _, _, _, _, _, _, _, _, _, _, _, _, _, _, _, _, _, _, _, _, _, _, .slice (some ⟨b, o, none⟩) ts.length ct, .int .i64 k, _, _, _, _, _, _, _, _, _, _, _, _, _, _, _, _, _, _, _, _, _, _, _, _, _, _, _, _, _, _, _, _, _, _, _, _, _, _, _, _, _, _, _, _, _, _, _, _, _, _, _, _, _, _, _, _, _, _, _, _, _, _, _, _, _, _, _, _, _, _, _, _, _, _, _], []⟩ _)
            · intro u hu
              go_simp
            refine HT.take 2 (.pointer (some ⟨b, o + k, none⟩)) rfl (by kernel_rfl) (fun _ _ _ h => h) (Or.inl ⟨by rfl, ?_⟩) (?_ : HT _ _ _ _ _ _ _ ⟨#[_, _, _, _, _, _, _, _, _, _, _, _, _, _, _, _, _, _, _, _, _, _, _, _, _, _, _, _, _, _, _, _, _, _, _, _, _, _, _, _, _, _, _, _, _, _, .slice (some ⟨b, o, none⟩) ts.length ct, .int .i64 k, .pointer (some ⟨b, o + k, none⟩), _, _, _, _, _, _, _, _, _, _, _, _, _, _, _, _, _, _, _, _, _, _, _, _, _, _, _, _, _, _, _, _, _, _, _, _, _, _, _, _, _, _, _, _, _, _, _, _, _, _, _, _, _, _, _, _, _, _, _, _, _, _, _, _, _, _, _, _, _, _, _, _, _, _], []⟩ _)
            · intro u hu
              go_simp
            refine HT.take 3 (.string ⟨#[104, 111, 115, 116]⟩) rfl (by kernel_rfl) (fun _ _ _ h => h) (Or.inl ⟨by rfl, ?_⟩) (?_ : HT _ _ _ _ _ _ _ ⟨#[_, _, _, _, _, _, _, _, _, _, _, _, _, _, _, _, _, _, _, _, _, _, _, _, _, _, _, _, _, _, _, _, _, _, _, _, _, _, _, _, _, _, _, _, _, _, .slice (some ⟨b, o, none⟩) ts.length ct, .int .i64 k, .pointer (some ⟨b, o + k, none⟩), .string ⟨#[104, 111, 115, 116]⟩, _, _, _, _, _, _, _, _, _, _, _, _, _, _, _, _, _, _, _, _, _, _, _, _, _, _, _, _, _, _, _, _, _, _, _, _, _, _, _, _, _, _, _, _, _, _, _, _, _, _, _, _, _, _, _, _, _, _, _, _, _, _, _, _, _, _, _, _, _, _, _, _, _], []⟩ _)
            · intro u hu
              obtain ⟨_, _, cx⟩ := hu
              go_simp
            refine HT.take 4 (.bool false) rfl (by kernel_rfl) (fun _ _ _ h => h) (Or.inl ⟨by rfl, ?_⟩) (?_ : HT _ _ _ _ _ _ _ ⟨#[_, _, _, _, _, _, _, _, _, _, _, _, _, _, _, _, _, _, _, _, _, _, _, _, _, _, _, _, _, _, _, _, _, _, _, _, _, _, _, _, _, _, _, _, _, _, .slice (some ⟨b, o, none⟩) ts.length ct, .int .i64 k, .pointer (some ⟨b, o + k, none⟩), .string ⟨#[104, 111, 115, 116]⟩, .bool false, _, _, _, _, _, _, _, _, _, _, _, _, _, _, _, _, _, _, _, _, _, _, _, _, _, _, _, _, _, _, _, _, _, _, _, _, _, _, _, _, _, _, _, _, _, _, _, _, _, _, _, _, _, _, _, _, _, _, _, _, _, _, _, _, _, _, _, _, _, _, _, _], []⟩ _)
            · intro u hu
              go_simp
            refine HT.take 5 (.bool false) rfl (by kernel_rfl) (fun _ _ _ h => h) (Or.inl ⟨by rfl, ?_⟩) (?_ : HT _ _ _ _ _ _ _ ⟨#[_, _, _, _, _, _, _, _, _, _, _, _, _, _, _, _, _, _, _, _, _, _, _, _, _, _, _, _, _, _, _, _, _, _, _, _, _, _, _, _, _, _, _, _, _, _, .slice (some ⟨b, o, none⟩) ts.length ct, .int .i64 k, .pointer (some ⟨b, o + k, none⟩), .string ⟨#[104, 111, 115, 116]⟩, .bool false, .bool false, _, _, _, _, _, _, _, _, _, _, _, _, _, _, _, _, _, _, _, _, _, _, _, _, _, _, _, _, _, _, _, _, _, _, _, _, _, _, _, _, _, _, _, _, _, _, _, _, _, _, _, _, _, _, _, _, _, _, _, _, _, _, _, _, _, _, _, _, _, _, _], []⟩ _)
            · intro u hu
              go_simp
            refine HT.take 6 undef rfl (by kernel_rfl) (fun _ _ _ h => h) (Or.inr ⟨by rfl, rfl⟩) (?_ : HT _ _ _ _ _ _ _ ⟨#[_, _, _, _, _, _, _, _, _, _, _, _, _, _, _, _, _, _, _, _, _, _, _, _, _, _, _, _, _, _, _, _, _, _, _, _, _, _, _, _, _, _, _, _, _, _, .slice (some ⟨b, o, none⟩) ts.length ct, .int .i64 k, .pointer (some ⟨b, o + k, none⟩), .string ⟨#[104, 111, 115, 116]⟩, .bool false, .bool false, undef, _, _, _, _, _, _, _, _, _, _, _, _, _, _, _, _, _, _, _, _, _, _, _, _, _, _, _, _, _, _, _, _, _, _, _, _, _, _, _, _, _, _, _, _, _, _, _, _, _, _, _, _, _, _, _, _, _, _, _, _, _, _, _, _, _, _, _, _, _, _], []⟩ _)
            refine HT.take 7 undef rfl (by kernel_rfl) (fun _ _ _ h => h) (Or.inr ⟨by rfl, rfl⟩) (?_ : HT _ _ _ _ _ _ _ ⟨#[_, _, _, _, _, _, _, _, _, _, _, _, _, _, _, _, _, _, _, _, _, _, _, _, _, _, _, _, _, _, _, _, _, _, _, _, _, _, _, _, _, _, _, _, _, _, .slice (some ⟨b, o, none⟩) ts.length ct, .int .i64 k, .pointer (some ⟨b, o + k, none⟩), .string ⟨#[104, 111, 115, 116]⟩, .bool false, .bool false, undef, undef, _, _, _, _, _, _, _, _, _, _, _, _, _, _, _, _, _, _, _, _, _, _, _, _, _, _, _, _, _, _, _, _, _, _, _, _, _, _, _, _, _, _, _, _, _, _, _, _, _, _, _, _, _, _, _, _, _, _, _, _, _, _, _, _, _, _, _, _, _], []⟩ _)
            refine HT.take 8 undef rfl (by kernel_rfl) (fun _ _ _ h => h) (Or.inr ⟨by rfl, rfl⟩) (?_ : HT _ _ _ _ _ _ _ ⟨#[_, _, _, _, _, _, _, _, _, _, _, _, _, _, _, _, _, _, _, _, _, _, _, _, _, _, _, _, _, _, _, _, _, _, _, _, _, _, _, _, _, _, _, _, _, _, .slice (some ⟨b, o, none⟩) ts.length ct, .int .i64 k, .pointer (some ⟨b, o + k, none⟩), .string ⟨#[104, 111, 115, 116]⟩, .bool false, .bool false, undef, undef, undef, _, _, _, _, _, _, _, _, _, _, _, _, _, _, _, _, _, _, _, _, _, _, _, _, _, _, _, _, _, _, _, _, _, _, _, _, _, _, _, _, _, _, _, _, _, _, _, _, _, _, _, _, _, _, _, _, _, _, _, _, _, _, _, _, _, _, _, _], []⟩ _)
            refine HT.take 9 undef rfl (by kernel_rfl) (fun _ _ _ h => h) (Or.inr ⟨by rfl, rfl⟩) (?_ : HT _ _ _ _ _ _ _ ⟨#[_, _, _, _, _, _, _, _, _, _, _, _, _, _, _, _, _, _, _, _, _, _, _, _, _, _, _, _, _, _, _, _, _, _, _, _, _, _, _, _, _, _, _, _, _, _, .slice (some ⟨b, o, none⟩) ts.length ct, .int .i64 k, .pointer (some ⟨b, o + k, none⟩), .string ⟨#[104, 111, 115, 116]⟩, .bool false, .bool false, undef, undef, undef, undef, _, _, _, _, _, _, _, _, _, _, _, _, _, _, _, _, _, _, _, _, _, _, _, _, _, _, _, _, _, _, _, _, _, _, _, _, _, _, _, _, _, _, _, _, _, _, _, _, _, _, _, _, _, _, _, _, _, _, _, _, _, _, _, _, _, _, _], []⟩ _)
            refine HT.take 10 undef rfl (by kernel_rfl) (fun _ _ _ h => h) (Or.inr ⟨by rfl, rfl⟩) (?_ : HT _ _ _ _ _ _ _ ⟨#[_, _, _, _, _, _, _, _, _, _, _, _, _, _, _, _, _, _, _, _, _, _, _, _, _, _, _, _, _, _, _, _, _, _, _, _, _, _, _, _, _, _, _, _, _, _, .slice (some ⟨b, o, none⟩) ts.length ct, .int .i64 k, .pointer (some ⟨b, o + k, none⟩), .string ⟨#[104, 111, 115, 116]⟩, .bool false, .bool false, undef, undef, undef, undef, undef, _, _, _, _, _, _, _, _, _, _, _, _, _, _, _, _, _, _, _, _, _, _, _, _, _, _, _, _, _, _, _, _, _, _, _, _, _, _, _, _, _, _, _, _, _, _, _, _, _, _, _, _, _, _, _, _, _, _, _, _, _, _, _, _, _, _], []⟩ _)
            refine HT.take 11 (.bool false) rfl (by kernel_rfl) (fun _ _ _ h => h) (Or.inl ⟨by rfl, ?_⟩) (?_ : HT _ _ _ _ _ _ _ ⟨#[_, _, _, _, _, _, _, _, _, _, _, _, _, _, _, _, _, _, _, _, _, _, _, _, _, _, _, _, _, _, _, _, _, _, _, _, _, _, _, _, _, _, _, _, _, _, .slice (some ⟨b, o, none⟩) ts.length ct, .int .i64 k, .pointer (some ⟨b, o + k, none⟩), .string ⟨#[104, 111, 115, 116]⟩, .bool false, .bool false, undef, undef, undef, undef, undef, .bool false, _, _, _, _, _, _, _, _, _, _, _, _, _, _, _, _, _, _, _, _, _, _, _, _, _, _, _, _, _, _, _, _, _, _, _, _, _, _, _, _, _, _, _, _, _, _, _, _, _, _, _, _, _, _, _, _, _, _, _, _, _, _, _, _, _], []⟩ _)
            · intro u hu
              go_simp
            refine HT.take 12 (.bool false) rfl (by kernel_rfl) (fun _ _ _ h => h) (Or.inl ⟨by rfl, ?_⟩) (?_ : HT _ _ _ _ _ _ _ ⟨#[_, _, _, _, _, _, _, _, _, _, _, _, _, _, _, _, _, _, _, _, _, _, _, _, _, _, _, _, _, _, _, _, _, _, _, _, _, _, _, _, _, _, _, _, _, _, .slice (some ⟨b, o, none⟩) ts.length ct, .int .i64 k, .pointer (some ⟨b, o + k, none⟩), .string ⟨#[104, 111, 115, 116]⟩, .bool false, .bool false, undef, undef, undef, undef, undef, .bool false, .bool false, _, _, _, _, _, _, _, _, _, _, _, _, _, _, _, _, _, _, _, _, _, _, _, _, _, _, _, _, _, _, _, _, _, _, _, _, _, _, _, _, _, _, _, _, _, _, _, _, _, _, _, _, _, _, _, _, _, _, _, _, _, _, _, _], []⟩ _)
            · intro u hu
              go_simp
            refine HT.take 13 undef rfl (by kernel_rfl) (fun _ _ _ h => h) (Or.inr ⟨by rfl, rfl⟩) (?_ : HT _ _ _ _ _ _ _ ⟨#[_, _, _, _, _, _, _, _, _, _, _, _, _, _, _, _, _, _, _, _, _, _, _, _, _, _, _, _, _, _, _, _, _, _, _, _, _, _, _, _, _, _, _, _, _, _, .slice (some ⟨b, o, none⟩) ts.length ct, .int .i64 k, .pointer (some ⟨b, o + k, none⟩), .string ⟨#[104, 111, 115, 116]⟩, .bool false, .bool false, undef, undef, undef, undef, undef, .bool false, .bool false, undef, _, _, _, _, _, _, _, _, _, _, _, _, _, _, _, _, _, _, _, _, _, _, _, _, _, _, _, _, _, _, _, _, _, _, _, _, _, _, _, _, _, _, _, _, _, _, _, _, _, _, _, _, _, _, _, _, _, _, _, _, _, _, _], []⟩ _)
            refine HT.take 14 undef rfl (by kernel_rfl) (fun _ _ _ h => h) (Or.inr ⟨by rfl, rfl⟩) (?_ : HT _ _ _ _ _ _ _ ⟨#[_, _, _, _, _, _, _, _, _, _, _, _, _, _, _, _, _, _, _, _, _, _, _, _, _, _, _, _, _, _, _, _, _, _, _, _, _, _, _, _, _, _, _, _, _, _, .slice (some ⟨b, o, none⟩) ts.length ct, .int .i64 k, .pointer (some ⟨b, o + k, none⟩), .string ⟨#[104, 111, 115, 116]⟩, .bool false, .bool false, undef, undef, undef, undef, undef, .bool false, .bool false, undef, undef, _, _, _, _, _, _, _, _, _, _, _, _, _, _, _, _, _, _, _, _, _, _, _, _, _, _, _, _, _, _, _, _, _, _, _, _, _, _, _, _, _, _, _, _, _, _, _, _, _, _, _, _, _, _, _, _, _, _, _, _, _, _], []⟩ _)
            refine HT.take 15 undef rfl (by kernel_rfl) (fun _ _ _ h => h) (Or.inr ⟨by rfl, rfl⟩) (?_ : HT _ _ _ _ _ _ _ ⟨#[_, _, _, _, _, _, _, _, _, _, _, _, _, _, _, _, _, _, _, _, _, _, _, _, _, _, _, _, _, _, _, _, _, _, _, _, _, _, _, _, _, _, _, _, _, _, .slice (some ⟨b, o, none⟩) ts.length ct, .int .i64 k, .pointer (some ⟨b, o + k, none⟩), .string ⟨#[104, 111, 115, 116]⟩, .bool false, .bool false, undef, undef, undef, undef, undef, .bool false, .bool false, undef, undef, undef, _, _, _, _, _, _, _, _, _, _, _, _, _, _, _, _, _, _, _, _, _, _, _, _, _, _, _, _, _, _, _, _, _, _, _, _, _, _, _, _, _, _, _, _, _, _, _, _, _, _, _, _, _, _, _, _, _, _, _, _, _], []⟩ _)
            refine HT.take 16 undef rfl (by kernel_rfl) (fun _ _ _ h => h) (Or.inr ⟨by rfl, rfl⟩) (?_ : HT _ _ _ _ _ _ _ ⟨#[_, _, _, _, _, _, _, _, _, _, _, _, _, _, _, _, _, _, _, _, _, _, _, _, _, _, _, _, _, _, _, _, _, _, _, _, _, _, _, _, _, _, _, _, _, _, .slice (some ⟨b, o, none⟩) ts.length ct, .int .i64 k, .pointer (some ⟨b, o + k, none⟩), .string ⟨#[104, 111, 115, 116]⟩, .bool false, .bool false, undef, undef, undef, undef, undef, .bool false, .bool false, undef, undef, undef, undef, _, _, _, _, _, _, _, _, _, _, _, _, _, _, _, _, _, _, _, _, _, _, _, _, _, _, _, _, _, _, _, _, _, _, _, _, _, _, _, _, _, _, _, _, _, _, _, _, _, _, _, _, _, _, _, _, _, _, _, _], []⟩ _)
            refine HT.take 17 undef rfl (by kernel_rfl) (fun _ _ _ h => h) (Or.inr ⟨by rfl, rfl⟩) (?_ : HT _ _ _ _ _ _ _ ⟨#[_, _, _, _, _, _, _, _, _, _, _, _, _, _, _, _, _, _, _, _, _, _, _, _, _, _, _, _, _, _, _, _, _, _, _, _, _, _, _, _, _, _, _, _, _, _, .slice (some ⟨b, o, none⟩) ts.length ct, .int .i64 k, .pointer (some ⟨b, o + k, none⟩), .string ⟨#[104, 111, 115, 116]⟩, .bool false, .bool false, undef, undef, undef, undef, undef, .bool false, .bool false, undef, undef, undef, undef, undef, _, _, _, _, _, _, _, _, _, _, _, _, _, _, _, _, _, _, _, _, _, _, _, _, _, _, _, _, _, _, _, _, _, _, _, _, _, _, _, _, _, _, _, _, _, _, _, _, _, _, _, _, _, _, _, _, _, _, _], []⟩ _)
            refine HT.take 18 undef rfl (by kernel_rfl) (fun _ _ _ h => h) (Or.inr ⟨by rfl, rfl⟩) (?_ : HT _ _ _ _ _ _ _ ⟨#[_, _, _, _, _, _, _, _, _, _, _, _, _, _, _, _, _, _, _, _, _, _, _, _, _, _, _, _, _, _, _, _, _, _, _, _, _, _, _, _, _, _, _, _, _, _, .slice (some ⟨b, o, none⟩) ts.length ct, .int .i64 k, .pointer (some ⟨b, o + k, none⟩), .string ⟨#[104, 111, 115, 116]⟩, .bool false, .bool false, undef, undef, undef, undef, undef, .bool false, .bool false, undef, undef, undef, undef, undef, undef, _, _, _, _, _, _, _, _, _, _, _, _, _, _, _, _, _, _, _, _, _, _, _, _, _, _, _, _, _, _, _, _, _, _, _, _, _, _, _, _, _, _, _, _, _, _, _, _, _, _, _, _, _, _, _, _, _, _], []⟩ _)
            refine HT.tail _ rfl rfl (by kernel_rfl) (fun hS => ?_)
            have HS7 := Lib.hid hS.1
            have HN7 := Lib.hid hS.2.1
            clear hS hS0
            go_wp2
            refine NoPanic.normal ?_
            go_wp2
            go_roundw
            case rel => exact ⟨k + 1, by omega, by go_num, HS7.out, HN7.out⟩
            case measure => simp [intOf]; omega
          · by_cases hxv : x = ⟨#[118, 105, 97]⟩
            · subst hxv
              have CX := Lib.hid cx
              clear cx hw hsz hxh
              go_wp2
              have hS0 : (CleanS w b7 #[.string s, .string r, .int .i64 m, .slice A fs.length c] #[.string s, .string p7, .int .i64 1, .slice A2 PL.length c2] A2 PL wr.drew ∧ Rd wr.drew (some ⟨b, o, none⟩) ts.length 1 (scells ts) ∧ wr.drew.cell? ⟨b, o + k, none⟩ = some (.string ⟨#[118, 105, 97]⟩)) := ⟨HS.out.below (Below.refl _ _).drew, HN.out, CX.out⟩
              clear HS HN CX
              refine wp_region_noPanic ?_
              refine HT.begin (n := 19) (S := (fun u => CleanS w b7 #[.string s, .string r, .int .i64 m, .slice A fs.length c] #[.string s, .string p7, .int .i64 1, .slice A2 PL.length c2] A2 PL u ∧ Rd u (some ⟨b, o, none⟩) ts.length 1 (scells ts) ∧ u.cell? ⟨b, o + k, none⟩ = some (.string ⟨#[118, 105, 97]⟩))) (by kernel_rfl) hS0 ?_
              refine HT.take 0 (.slice (some ⟨b, o, none⟩) ts.length ct) rfl (by kernel_rfl) (fun _ _ _ h => h) (Or.inl ⟨by rfl, ?_⟩) (?_ : HT _ _ _ _ _ _ _ ⟨#[_, _, _, _, _, _, _, _, _, _, _, _, _, _, _, _, _, _, _, _, _, _, _, _, _, _, _, _, _, _, _, _, _, _, _, _, _, _, _, _, _, _, _, _, _, _, .slice (some ⟨b, o, none⟩) ts.length ct, _, _, _, _, _, _, _, _, _, _, _, _, _, _, _, _, _, _, _, _, _, _, _, _, _, _, _, _, _, _, _, _, _, _, _, _, _, _, _, _, _, _, _, _, _, _, _, _, _, _, _, _, _, _, _, _, _, _, _, _, _, _, _, _, _, _, _, _, _, _, _, _, _, _, _, _], []⟩ _)
              · intro u hu
                go_simp
              refine HT.take 1 (.int .i64 k) rfl (by kernel_rfl) (fun _ _ _ h => h) (Or.inl ⟨by rfl, ?_⟩) (?_ : HT _ _ _ _ _ _ _ ⟨#[_, _, _, _, _, _, _, _, _, _, _, _, _, _, _, _, _, _, _, _, _, _, _, _, _, _, _, _, _, _, _, _, _, _, _, _, _, _, _, _, _, _, _, _, _, _, .slice (some ⟨b, o, none⟩) ts.length ct, .int .i64 k, _, _, _, _, _, _, _, _, _, _, _, _, _, _, _, _, _, _, _, _, _, _, _, _, _, _, _, _, _, _, _, _, _, _, _, _, _, _, _, _, _, _, _, _, _, _, _, _, _, _, _, _, _, _, _, _, _, _, _, _, _, _, _, _, _, _, _, _, _, _, _, _, _, _, _], []⟩ _)
              · intro u hu
                go_simp
              refine HT.take 2 (.pointer (some ⟨b, o + k, none⟩)) rfl (by kernel_rfl) (fun _ _ _ h => h) (Or.inl ⟨by rfl, ?_⟩) (?_ : HT _ _ _ _ _ _ _ ⟨#[_, _, _, _, _, _, _, _, _, _, _, _, _, _, _, _, _, _, _, _, _, _, _, _, _, _, _, _, _, _, _, _, _, _, _, _, _, _, _, _, _, _, _, _, _, _, .slice (some ⟨b, o, none⟩) ts.length ct, .int .i64 k, .pointer (some ⟨b, o + k, none⟩), _, _, _, _, _, _, _, _, _, _, _, _, _, _, _, _, _, _, _, _, _, _, _, _, _, _, _, _, _, _, _, _, _, _, _, _, _, _, _, _, _, _, _, _, _, _, _, _, _, _, _, _, _, _, _, _, _, _, _, _, _, _, _, _, _, _, _, _, _, _, _, _, _, _], []⟩ _)
              · intro u hu
                go_simp
              refine HT.take 3 (.string ⟨#[118, 105, 97]⟩) rfl (by kernel_rfl) (fun _ _ _ h => h) (Or.inl ⟨by rfl, ?_⟩) (?_ : HT _ _ _ _ _ _ _ ⟨#[_, _, _, _, _, _, _, _, _, _, _, _, _, _, _, _, _, _, _, _, _, _, _, _, _, _, _, _, _, _, _, _, _, _, _, _, _, _, _, _, _, _, _, _, _, _, .slice (some ⟨b, o, none⟩) ts.length ct, .int .i64 k, .pointer (some ⟨b, o + k, none⟩), .string ⟨#[118, 105, 97]⟩, _, _, _, _, _, _, _, _, _, _, _, _, _, _, _, _, _, _, _, _, _, _, _, _, _, _, _, _, _, _, _, _, _, _, _, _, _, _, _, _, _, _, _, _, _, _, _, _, _, _, _, _, _, _, _, _, _, _, _, _, _, _, _, _, _, _, _, _, _, _, _, _, _], []⟩ _)
              · intro u hu
                obtain ⟨_, _, cx⟩ := hu
                go_simp
              refine HT.take 4 (.bool true) rfl (by kernel_rfl) (fun _ _ _ h => h) (Or.inl ⟨by rfl, ?_⟩) (?_ : HT _ _ _ _ _ _ _ ⟨#[_, _, _, _, _, _, _, _, _, _, _, _, _, _, _, _, _, _, _, _, _, _, _, _, _, _, _, _, _, _, _, _, _, _, _, _, _, _, _, _, _, _, _, _, _, _, .slice (some ⟨b, o, none⟩) ts.length ct, .int .i64 k, .pointer (some ⟨b, o + k, none⟩), .string ⟨#[118, 105, 97]⟩, .bool true, _, _, _, _, _, _, _, _, _, _, _, _, _, _, _, _, _, _, _, _, _, _, _, _, _, _, _, _, _, _, _, _, _, _, _, _, _, _, _, _, _, _, _, _, _, _, _, _, _, _, _, _, _, _, _, _, _, _, _, _, _, _, _, _, _, _, _, _, _, _, _, _], []⟩ _)
              · intro u hu
                go_simp
              refine HT.take 5 (.bool true) rfl (by kernel_rfl) (fun _ _ _ h => h) (Or.inl ⟨by rfl, ?_⟩) (?_ : HT _ _ _ _ _ _ _ ⟨#[_, _, _, _, _, _, _, _, _, _, _, _, _, _, _, _, _, _, _, _, _, _, _, _, _, _, _, _, _, _, _, _, _, _, _, _, _, _, _, _, _, _, _, _, _, _, .slice (some ⟨b, o, none⟩) ts.length ct, .int .i64 k, .pointer (some ⟨b, o + k, none⟩), .string ⟨#[118, 105, 97]⟩, .bool true, .bool true, _, _, _, _, _, _, _, _, _, _, _, _, _, _, _, _, _, _, _, _, _, _, _, _, _, _, _, _, _, _, _, _, _, _, _, _, _, _, _, _, _, _, _, _, _, _, _, _, _, _, _, _, _, _, _, _, _, _, _, _, _, _, _, _, _, _, _, _, _, _, _], []⟩ _)
              · intro u hu
                go_simp
              refine HT.take 6 (.slice (some ⟨b, o, none⟩) ts.length ct) rfl (by kernel_rfl) (fun _ _ _ h => h) (Or.inl ⟨by rfl, ?_⟩) (?_ : HT _ _ _ _ _ _ _ ⟨#[_, _, _, _, _, _, _, _, _, _, _, _, _, _, _, _, _, _, _, _, _, _, _, _, _, _, _, _, _, _, _, _, _, _, _, _, _, _, _, _, _, _, _, _, _, _, .slice (some ⟨b, o, none⟩) ts.length ct, .int .i64 k, .pointer (some ⟨b, o + k, none⟩), .string ⟨#[118, 105, 97]⟩, .bool true, .bool true, .slice (some ⟨b, o, none⟩) ts.length ct, _, _, _, _, _, _, _, _, _, _, _, _, _, _, _, _, _, _, _, _, _, _, _, _, _, _, _, _, _, _, _, _, _, _, _, _, _, _, _, _, _, _, _, _, _, _, _, _, _, _, _, _, _, _, _, _, _, _, _, _, _, _, _, _, _, _, _, _, _, _], []⟩ _)
              · intro u hu
                go_simp
              refine HT.take 7 (.int .i64 k) rfl (by kernel_rfl) (fun _ _ _ h => h) (Or.inl ⟨by rfl, ?_⟩) (?_ : HT _ _ _ _ _ _ _ ⟨#[_, _, _, _, _, _, _, _, _, _, _, _, _, _, _, _, _, _, _, _, _, _, _, _, _, _, _, _, _, _, _, _, _, _, _, _, _, _, _, _, _, _, _, _, _, _, .slice (some ⟨b, o, none⟩) ts.length ct, .int .i64 k, .pointer (some ⟨b, o + k, none⟩), .string ⟨#[118, 105, 97]⟩, .bool true, .bool true, .slice (some ⟨b, o, none⟩) ts.length ct, .int .i64 k, _, _, _, _, _, _, _, _, _, _, _, _, _, _, _, _, _, _, _, _, _, _, _, _, _, _, _, _, _, _, _, _, _, _, _, _, _, _, _, _, _, _, _, _, _, _, _, _, _, _, _, _, _, _, _, _, _, _, _, _, _, _, _, _, _, _, _, _, _], []⟩ _)
              · intro u hu
                go_simp
              refine HT.take 8 (.pointer (some ⟨b, o + k, none⟩)) rfl (by kernel_rfl) (fun _ _ _ h => h) (Or.inl ⟨by rfl, ?_⟩) (?_ : HT _ _ _ _ _ _ _ ⟨#[_, _, _, _, _, _, _, _, _, _, _, _, _, _, _, _, _, _, _, _, _, _, _, _, _, _, _, _, _, _, _, _, _, _, _, _, _, _, _, _, _, _, _, _, _, _, .slice (some ⟨b, o, none⟩) ts.length ct, .int .i64 k, .pointer (some ⟨b, o + k, none⟩), .string ⟨#[118, 105, 97]⟩, .bool true, .bool true, .slice (some ⟨b, o, none⟩) ts.length ct, .int .i64 k, .pointer (some ⟨b, o + k, none⟩), _, _, _, _, _, _, _, _, _, _, _, _, _, _, _, _, _, _, _, _, _, _, _, _, _, _, _, _, _, _, _, _, _, _, _, _, _, _, _, _, _, _, _, _, _, _, _, _, _, _, _, _, _, _, _, _, _, _, _, _, _, _, _, _, _, _, _, _], []⟩ _)
              · intro u hu
                go_simp
              refine HT.take 9 (.string ⟨#[118, 105, 97]⟩) rfl (by kernel_rfl) (fun _ _ _ h => h) (Or.inl ⟨by rfl, ?_⟩) (?_ : HT _ _ _ _ _ _ _ ⟨#[_, _, _, _, _, _, _, _, _, _, _, _, _, _, _, _, _, _, _, _, _, _, _, _, _, _, _, _, _, _, _, _, _, _, _, _, _, _, _, _, _, _, _, _, _, _, .slice (some ⟨b, o, none⟩) ts.length ct, .int .i64 k, .pointer (some ⟨b, o + k, none⟩), .string ⟨#[118, 105, 97]⟩, .bool true, .bool true, .slice (some ⟨b, o, none⟩) ts.length ct, .int .i64 k, .pointer (some ⟨b, o + k, none⟩), .string ⟨#[118, 105, 97]⟩, _, _, _, _, _, _, _, _, _, _, _, _, _, _, _, _, _, _, _, _, _, _, _, _, _, _, _, _, _, _, _, _, _, _, _, _, _, _, _, _, _, _, _, _, _, _, _, _, _, _, _, _, _, _, _, _, _, _, _, _, _, _, _, _, _, _, _], []⟩ _)
              · intro u hu
                obtain ⟨_, _, cx⟩ := hu
                go_simp
              refine HT.take 10 (.bool false) rfl (by kernel_rfl) (fun _ _ _ h => h) (Or.inl ⟨by rfl, ?_⟩) (?_ : HT _ _ _ _ _ _ _ ⟨#[_, _, _, _, _, _, _, _, _, _, _, _, _, _, _, _, _, _, _, _, _, _, _, _, _, _, _, _, _, _, _, _, _, _, _, _, _, _, _, _, _, _, _, _, _, _, .slice (some ⟨b, o, none⟩) ts.length ct, .int .i64 k, .pointer (some ⟨b, o + k, none⟩), .string ⟨#[118, 105, 97]⟩, .bool true, .bool true, .slice (some ⟨b, o, none⟩) ts.length ct, .int .i64 k, .pointer (some ⟨b, o + k, none⟩), .string ⟨#[118, 105, 97]⟩, .bool false, _, _, _, _, _, _, _, _, _, _, _, _, _, _, _, _, _, _, _, _, _, _, _, _, _, _, _, _, _, _, _, _, _, _, _, _, _, _, _, _, _, _, _, _, _, _, _, _, _, _, _, _, _, _, _, _, _, _, _, _, _, _, _, _, _, _], []⟩ _)
              · intro u hu
                go_simp
              refine HT.take 11 (.bool false) rfl (by kernel_rfl) (fun _ _ _ h => h) (Or.inl ⟨by rfl, ?_⟩) (?_ : HT _ _ _ _ _ _ _ ⟨#[_, _, _, _, _, _, _, _, _, _, _, _, _, _, _, _, _, _, _, _, _, _, _, _, _, _, _, _, _, _, _, _, _, _, _, _, _, _, _, _, _, _, _, _, _, _, .slice (some ⟨b, o, none⟩) ts.length ct, .int .i64 k, .pointer (some ⟨b, o + k, none⟩), .string ⟨#[118, 105, 97]⟩, .bool true, .bool true, .slice (some ⟨b, o, none⟩) ts.length ct, .int .i64 k, .pointer (some ⟨b, o + k, none⟩), .string ⟨#[118, 105, 97]⟩, .bool false, .bool false, _, _, _, _, _, _, _, _, _, _, _, _, _, _, _, _, _, _, _, _, _, _, _, _, _, _, _, _, _, _, _, _, _, _, _, _, _, _, _, _, _, _, _, _, _, _, _, _, _, _, _, _, _, _, _, _, _, _, _, _, _, _, _, _, _], []⟩ _)
              · intro u hu
                go_simp
              refine HT.take 12 (.bool false) rfl (by kernel_rfl) (fun _ _ _ h => h) (Or.inl ⟨by rfl, ?_⟩) (?_ : HT _ _ _ _ _ _ _ ⟨#[_, _, _, _, _, _, _, _, _, _, _, _, _, _, _, _, _, _, _, _, _, _, _, _, _, _, _, _, _, _, _, _, _, _, _, _, _, _, _, _, _, _, _, _, _, _, .slice (some ⟨b, o, none⟩) ts.length ct, .int .i64 k, .pointer (some ⟨b, o + k, none⟩), .string ⟨#[118, 105, 97]⟩, .bool true, .bool true, .slice (some ⟨b, o, none⟩) ts.length ct, .int .i64 k, .pointer (some ⟨b, o + k, none⟩), .string ⟨#[118, 105, 97]⟩, .bool false, .bool false, .bool false, _, _, _, _, _, _, _, _, _, _, _, _, _, _, _, _, _, _, _, _, _, _, _, _, _, _, _, _, _, _, _, _, _, _, _, _, _, _, _, _, _, _, _, _, _, _, _, _, _, _, _, _, _, _, _, _, _, _, _, _, _, _, _, _], []⟩ _)
              · intro u hu
                go_simp
              refine HT.take 13 undef rfl (by kernel_rfl) (fun _ _ _ h => h) (Or.inr ⟨by rfl, rfl⟩) (?_ : HT _ _ _ _ _ _ _ ⟨#[_, _, _, _, _, _, _, _, _, _, _, _, _, _, _, _, _, _, _, _, _, _, _, _, _, _, _, _, _, _, _, _, _, _, _, _, _, _, _, _, _, _, _, _, _, _, .slice (some ⟨b, o, none⟩) ts.length ct, .int .i64 k, .pointer (some ⟨b, o + k, none⟩), .string ⟨#[118, 105, 97]⟩, .bool true, .bool true, .slice (some ⟨b, o, none⟩) ts.length ct, .int .i64 k, .pointer (some ⟨b, o + k, none⟩), .string ⟨#[118, 105, 97]⟩, .bool false, .bool false, .bool false, undef, _, _, _, _, _, _, _, _, _, _, _, _, _, _, _, _, _, _, _, _, _, _, _, _, _, _, _, _, _, _, _, _, _, _, _, _, _, _, _, _, _, _, _, _, _, _, _, _, _, _, _, _, _, _, _, _, _, _, _, _, _, _, _], []⟩ _)
              refine HT.take 14 undef rfl (by kernel_rfl) (fun _ _ _ h => h) (Or.inr ⟨by rfl, rfl⟩) (?_ : HT _ _ _ _ _ _ _ ⟨#[_, _, _, _, _, _, _, _, _, _, _, _, _, _, _, _, _, _, _, _, _, _, _, _, _, _, _, _, _, _, _, _, _, _, _, _, _, _, _, _, _, _, _, _, _, _, .slice (some ⟨b, o, none⟩) ts.length ct, .int .i64 k, .pointer (some ⟨b, o + k, none⟩), .string ⟨#[118, 105, 97]⟩, .bool true, .bool true, .slice (some ⟨b, o, none⟩) ts.length ct, .int .i64 k, .pointer (some ⟨b, o + k, none⟩), .string ⟨#[118, 105, 97]⟩, .bool false, .bool false, .bool false, undef, undef, _, _, _, _, _, _, _, _, _, _, _, _, _, _, _, _, _, _, _, _, _, _, _, _, _, _, _, _, _, _, _, _, _, _, _, _, _, _, _, _, _, _, _, _, _, _, _, _, _, _, _, _, _, _, _, _, _, _, _, _, _, _], []⟩ _)
              refine HT.take 15 undef rfl (by kernel_rfl) (fun _ _ _ h => h) (Or.inr ⟨by rfl, rfl⟩) (?_ : HT _ _ _ _ _ _ _ ⟨#[_, _, _, _, _, _, _, _, _, _, _, _, _, _, _, _, _, _, _, _, _, _, _, _, _, _, _, _, _, _, _, _, _, _, _, _, _, _, _, _, _, _, _, _, _, _, .slice (some ⟨b, o, none⟩) ts.length ct, .int .i64 k, .pointer (some ⟨b, o + k, none⟩), .string ⟨#[118, 105, 97]⟩, .bool true, .bool true, .slice (some ⟨b, o, none⟩) ts.length ct, .int .i64 k, .pointer (some ⟨b, o + k, none⟩), .string ⟨#[118, 105, 97]⟩, .bool false, .bool false, .bool false, undef, undef, undef, _, _, _, _, _, _, _, _, _, _, _, _, _, _, _, _, _, _, _, _, _, _, _, _, _, _, _, _, _, _, _, _, _, _, _, _, _, _, _, _, _, _, _, _, _, _, _, _, _, _, _, _, _, _, _, _, _, _, _, _, _], []⟩ _)
              refine HT.take 16 undef rfl (by kernel_rfl) (fun _ _ _ h => h) (Or.inr ⟨by rfl, rfl⟩) (?_ : HT _ _ _ _ _ _ _ ⟨#[_, _, _, _, _, _, _, _, _, _, _, _, _, _, _, _, _, _, _, _, _, _, _, _, _, _, _, _, _, _, _, _, _, _, _, _, _, _, _, _, _, _, _, _, _, _, .slice (some ⟨b, o, none⟩) ts.length ct, .int .i64 k, .pointer (some ⟨b, o + k, none⟩), .string ⟨#[118, 105, 97]⟩, .bool true, .bool true, .slice (some ⟨b, o, none⟩) ts.length ct, .int .i64 k, .pointer (some ⟨b, o + k, none⟩), .string ⟨#[118, 105, 97]⟩, .bool false, .bool false, .bool false, undef, undef, undef, undef, _, _, _, _, _, _, _, _, _, _, _, _, _, _, _, _, _, _, _, _, _, _, _, _, _, _, _, _, _, _, _, _, _, _, _, _, _, _, _, _, _, _, _, _, _, _, _, _, _, _, _, _, _, _, _, _, _, _, _, _], []⟩ _)
              refine HT.take 17 undef rfl (by kernel_rfl) (fun _ _ _ h => h) (Or.inr ⟨by rfl, rfl⟩) (?_ : HT _ _ _ _ _ _ _ ⟨#[_, _, _, _, _, _, _, _, _, _, _, _, _, _, _, _, _, _, _, _, _, _, _, _, _, _, _, _, _, _, _, _, _, _, _, _, _, _, _, _, _, _, _, _, _, _, .slice (some ⟨b, o, none⟩) ts.length ct, .int .i64 k, .pointer (some ⟨b, o + k, none⟩), .string ⟨#[118, 105, 97]⟩, .bool true, .bool true, .slice (some ⟨b, o, none⟩) ts.length ct, .int .i64 k, .pointer (some ⟨b, o + k, none⟩), .string ⟨#[118, 105, 97]⟩, .bool false, .bool false, .bool false, undef, undef, undef, undef, undef, _, _, _, _, _, _, _, _, _, _, _, _, _, _, _, _, _, _, _, _, _, _, _, _, _, _, _, _, _, _, _, _, _, _, _, _, _, _, _, _, _, _, _, _, _, _, _, _, _, _, _, _, _, _, _, _, _, _, _], []⟩ _)
              refine HT.take 18 undef rfl (by kernel_rfl) (fun _ _ _ h => h) (Or.inr ⟨by rfl, rfl⟩) (?_ : HT _ _ _ _ _ _ _ ⟨#[_, _, _, _, _, _, _, _, _, _, _, _, _, _, _, _, _, _, _, _, _, _, _, _, _, _, _, _, _, _, _, _, _, _, _, _, _, _, _, _, _, _, _, _, _, _, .slice (some ⟨b, o, none⟩) ts.length ct, .int .i64 k, .pointer (some ⟨b, o + k, none⟩), .string ⟨#[118, 105, 97]⟩, .bool true, .bool true, .slice (some ⟨b, o, none⟩) ts.length ct, .int .i64 k, .pointer (some ⟨b, o + k, none⟩), .string ⟨#[118, 105, 97]⟩, .bool false, .bool false, .bool false, undef, undef, undef, undef, undef, undef, _, _, _, _, _, _, _, _, _, _, _, _, _, _, _, _, _, _, _, _, _, _, _, _, _, _, _, _, _, _, _, _, _, _, _, _, _, _, _, _, _, _, _, _, _, _, _, _, _, _, _, _, _, _, _, _, _, _], []⟩ _)
              refine HT.tail _ rfl rfl (by kernel_rfl) (fun hS => ?_)
              have HS7 := Lib.hid hS.1
              have HN7 := Lib.hid hS.2.1
              clear hS hS0
              go_wp2
              refine NoPanic.normal ?_
              go_wp2
              go_roundw
              case rel => exact ⟨k + 1, by omega, by go_num, HS7.out, HN7.out⟩
              case measure => simp [intOf]; omega
            · have hnm := hw hxh hxv
              have g1 : ¬ x.toList = [104, 111, 115, 116] := fun h => hxh (toList_inj.1 (h.trans (by simp)))
              have g2 : ¬ x.toList = [118, 105, 97] := fun h => hxv (toList_inj.1 (h.trans (by simp)))
              have HVK : Hid (∀ u, Rd u A2 PL.length 2 (fcells PL) → Calls Tryd.prog 33 #[.slice A2 PL.length c2, .string x] u (RetRow u 9 1 0 [])) := by
                have := HV.out A2 c2 x (by omega)
                rw [hnm] at this
                exact this
              have CX := Lib.hid cx
              clear cx hw hsz hxh hxv hnm
              go_wp2
              have hS0 : (CleanS w b7 #[.string s, .string r, .int .i64 m, .slice A fs.length c] #[.string s, .string p7, .int .i64 1, .slice A2 PL.length c2] A2 PL wr.drew ∧ Rd wr.drew (some ⟨b, o, none⟩) ts.length 1 (scells ts) ∧ wr.drew.cell? ⟨b, o + k, none⟩ = some (.string x)) := ⟨HS.out.below (Below.refl _ _).drew, HN.out, CX.out⟩
              clear HS HN CX
              refine wp_region_noPanic ?_
              refine HT.begin (n := 19) (S := (fun u => CleanS w b7 #[.string s, .string r, .int .i64 m, .slice A fs.length c] #[.string s, .string p7, .int .i64 1, .slice A2 PL.length c2] A2 PL u ∧ Rd u (some ⟨b, o, none⟩) ts.length 1 (scells ts) ∧ u.cell? ⟨b, o + k, none⟩ = some (.string x))) (by kernel_rfl) hS0 ?_
              refine HT.take 0 (.slice (some ⟨b, o, none⟩) ts.length ct) rfl (by kernel_rfl) (fun _ _ _ h => h) (Or.inl ⟨by rfl, ?_⟩) (?_ : HT _ _ _ _ _ _ _ ⟨#[_, _, _, _, _, _, _, _, _, _, _, _, _, _, _, _, _, _, _, _, _, _, _, _, _, _, _, _, _, _, _, _, _, _, _, _, _, _, _, _, _, _, _, _, _, _, .slice (some ⟨b, o, none⟩) ts.length ct, _, _, _, _, _, _, _, _, _, _, _, _, _, _, _, _, _, _, _, _, _, _, _, _, _, _, _, _, _, _, _, _, _, _, _, _, _, _, _, _, _, _, _, _, _, _, _, _, _, _, _, _, _, _, _, _, _, _, _, _, _, _, _, _, _, _, _, _, _, _, _, _, _, _, _, _], []⟩ _)
              · intro u hu
                go_simp
              refine HT.take 1 (.int .i64 k) rfl (by kernel_rfl) (fun _ _ _ h => h) (Or.inl ⟨by rfl, ?_⟩) (?_ : HT _ _ _ _ _ _ _ ⟨#[_, _, _, _, _, _, _, _, _, _, _, _, _, _, _, _, _, _, _, _, _, _, _, _, _, _, _, _, _, _, _, _, _, _, _, _, _, _, _, _, _, _, _, _, _, _, .slice (some ⟨b, o, none⟩) ts.length ct, .int .i64 k, _, _, _, _, _, _, _, _, _, _, _, _, _, _, _, _, _, _, _, _, _, _, _, _, _, _, _, _, _, _, _, _, _, _, _, _, _, _, _, _, _, _, _, _, _, _, _, _, _, _, _, _, _, _, _, _, _, _, _, _, _, _, _, _, _, _, _, _, _, _, _, _, _, _, _], []⟩ _)
              · intro u hu
                go_simp
              refine HT.take 2 (.pointer (some ⟨b, o + k, none⟩)) rfl (by kernel_rfl) (fun _ _ _ h => h) (Or.inl ⟨by rfl, ?_⟩) (?_ : HT _ _ _ _ _ _ _ ⟨#[_, _, _, _, _, _, _, _, _, _, _, _, _, _, _, _, _, _, _, _, _, _, _, _, _, _, _, _, _, _, _, _, _, _, _, _, _, _, _, _, _, _, _, _, _, _, .slice (some ⟨b, o, none⟩) ts.length ct, .int .i64 k, .pointer (some ⟨b, o + k, none⟩), _, _, _, _, _, _, _, _, _, _, _, _, _, _, _, _, _, _, _, _, _, _, _, _, _, _, _, _, _, _, _, _, _, _, _, _, _, _, _, _, _, _, _, _, _, _, _, _, _, _, _, _, _, _, _, _, _, _, _, _, _, _, _, _, _, _, _, _, _, _, _, _, _, _], []⟩ _)
              · intro u hu
                go_simp
              refine HT.take 3 (.string x) rfl (by kernel_rfl) (fun _ _ _ h => h) (Or.inl ⟨by rfl, ?_⟩) (?_ : HT _ _ _ _ _ _ _ ⟨#[_, _, _, _, _, _, _, _, _, _, _, _, _, _, _, _, _, _, _, _, _, _, _, _, _, _, _, _, _, _, _, _, _, _, _, _, _, _, _, _, _, _, _, _, _, _, .slice (some ⟨b, o, none⟩) ts.length ct, .int .i64 k, .pointer (some ⟨b, o + k, none⟩), .string x, _, _, _, _, _, _, _, _, _, _, _, _, _, _, _, _, _, _, _, _, _, _, _, _, _, _, _, _, _, _, _, _, _, _, _, _, _, _, _, _, _, _, _, _, _, _, _, _, _, _, _, _, _, _, _, _, _, _, _, _, _, _, _, _, _, _, _, _, _, _, _, _, _], []⟩ _)
              · intro u hu
                obtain ⟨_, _, cx⟩ := hu
                go_simp
              refine HT.take 4 (.bool true) rfl (by kernel_rfl) (fun _ _ _ h => h) (Or.inl ⟨by rfl, ?_⟩) (?_ : HT _ _ _ _ _ _ _ ⟨#[_, _, _, _, _, _, _, _, _, _, _, _, _, _, _, _, _, _, _, _, _, _, _, _, _, _, _, _, _, _, _, _, _, _, _, _, _, _, _, _, _, _, _, _, _, _, .slice (some ⟨b, o, none⟩) ts.length ct, .int .i64 k, .pointer (some ⟨b, o + k, none⟩), .string x, .bool true, _, _, _, _, _, _, _, _, _, _, _, _, _, _, _, _, _, _, _, _, _, _, _, _, _, _, _, _, _, _, _, _, _, _, _, _, _, _, _, _, _, _, _, _, _, _, _, _, _, _, _, _, _, _, _, _, _, _, _, _, _, _, _, _, _, _, _, _, _, _, _, _], []⟩ _)
              · intro u hu
                go_simp
              refine HT.take 5 (.bool true) rfl (by kernel_rfl) (fun _ _ _ h => h) (Or.inl ⟨by rfl, ?_⟩) (?_ : HT _ _ _ _ _ _ _ ⟨#[_, _, _, _, _, _, _, _, _, _, _, _, _, _, _, _, _, _, _, _, _, _, _, _, _, _, _, _, _, _, _, _, _, _, _, _, _, _, _, _, _, _, _, _, _, _, .slice (some ⟨b, o, none⟩) ts.length ct, .int .i64 k, .pointer (some ⟨b, o + k, none⟩), .string x, .bool true, .bool true, _, _, _, _, _, _, _, _, _, _, _, _, _, _, _, _, _, _, _, _, _, _, _, _, _, _, _, _, _, _, _, _, _, _, _, _, _, _, _, _, _, _, _, _, _, _, _, _, _, _, _, _, _, _, _, _, _, _, _, _, _, _, _, _, _, _, _, _, _, _, _], []⟩ _)
              · intro u hu
                go_simp
              refine HT.take 6 (.slice (some ⟨b, o, none⟩) ts.length ct) rfl (by kernel_rfl) (fun _ _ _ h => h) (Or.inl ⟨by rfl, ?_⟩) (?_ : HT _ _ _ _ _ _ _ ⟨#[_, _, _, _, _, _, _, _, _, _, _, _, _, _, _, _, _, _, _, _, _, _, _, _, _, _, _, _, _, _, _, _, _, _, _, _, _, _, _, _, _, _, _, _, _, _, .slice (some ⟨b, o, none⟩) ts.length ct, .int .i64 k, .pointer (some ⟨b, o + k, none⟩), .string x, .bool true, .bool true, .slice (some ⟨b, o, none⟩) ts.length ct, _, _, _, _, _, _, _, _, _, _, _, _, _, _, _, _, _, _, _, _, _, _, _, _, _, _, _, _, _, _, _, _, _, _, _, _, _, _, _, _, _, _, _, _, _, _, _, _, _, _, _, _, _, _, _, _, _, _, _, _, _, _, _, _, _, _, _, _, _, _], []⟩ _)
              · intro u hu
                go_simp
              refine HT.take 7 (.int .i64 k) rfl (by kernel_rfl) (fun _ _ _ h => h) (Or.inl ⟨by rfl, ?_⟩) (?_ : HT _ _ _ _ _ _ _ ⟨#[_, _, _, _, _, _, _, _, _, _, _, _, _, _, _, _, _, _, _, _, _, _, _, _, _, _, _, _, _, _, _, _, _, _, _, _, _, _, _, _, _, _, _, _, _, _, .slice (some ⟨b, o, none⟩) ts.length ct, .int .i64 k, .pointer (some ⟨b, o + k, none⟩), .string x, .bool true, .bool true, .slice (some ⟨b, o, none⟩) ts.length ct, .int .i64 k, _, _, _, _, _, _, _, _, _, _, _, _, _, _, _, _, _, _, _, _, _, _, _, _, _, _, _, _, _, _, _, _, _, _, _, _, _, _, _, _, _, _, _, _, _, _, _, _, _, _, _, _, _, _, _, _, _, _, _, _, _, _, _, _, _, _, _, _, _], []⟩ _)
              · intro u hu
                go_simp
              refine HT.take 8 (.pointer (some ⟨b, o + k, none⟩)) rfl (by kernel_rfl) (fun _ _ _ h => h) (Or.inl ⟨by rfl, ?_⟩) (?_ : HT _ _ _ _ _ _ _ ⟨#[_, _, _, _, _, _, _, _, _, _, _, _, _, _, _, _, _, _, _, _, _, _, _, _, _, _, _, _, _, _, _, _, _, _, _, _, _, _, _, _, _, _, _, _, _, _, .slice (some ⟨b, o, none⟩) ts.length ct, .int .i64 k, .pointer (some ⟨b, o + k, none⟩), .string x, .bool true, .bool true, .slice (some ⟨b, o, none⟩) ts.length ct, .int .i64 k, .pointer (some ⟨b, o + k, none⟩), _, _, _, _, _, _, _, _, _, _, _, _, _, _, _, _, _, _, _, _, _, _, _, _, _, _, _, _, _, _, _, _, _, _, _, _, _, _, _, _, _, _, _, _, _, _, _, _, _, _, _, _, _, _, _, _, _, _, _, _, _, _, _, _, _, _, _, _], []⟩ _)
              · intro u hu
                go_simp
              refine HT.take 9 (.string x) rfl (by kernel_rfl) (fun _ _ _ h => h) (Or.inl ⟨by rfl, ?_⟩) (?_ : HT _ _ _ _ _ _ _ ⟨#[_, _, _, _, _, _, _, _, _, _, _, _, _, _, _, _, _, _, _, _, _, _, _, _, _, _, _, _, _, _, _, _, _, _, _, _, _, _, _, _, _, _, _, _, _, _, .slice (some ⟨b, o, none⟩) ts.length ct, .int .i64 k, .pointer (some ⟨b, o + k, none⟩), .string x, .bool true, .bool true, .slice (some ⟨b, o, none⟩) ts.length ct, .int .i64 k, .pointer (some ⟨b, o + k, none⟩), .string x, _, _, _, _, _, _, _, _, _, _, _, _, _, _, _, _, _, _, _, _, _, _, _, _, _, _, _, _, _, _, _, _, _, _, _, _, _, _, _, _, _, _, _, _, _, _, _, _, _, _, _, _, _, _, _, _, _, _, _, _, _, _, _, _, _, _, _], []⟩ _)
              · intro u hu
                obtain ⟨_, _, cx⟩ := hu
                go_simp
              refine HT.take 10 (.bool true) rfl (by kernel_rfl) (fun _ _ _ h => h) (Or.inl ⟨by rfl, ?_⟩) (?_ : HT _ _ _ _ _ _ _ ⟨#[_, _, _, _, _, _, _, _, _, _, _, _, _, _, _, _, _, _, _, _, _, _, _, _, _, _, _, _, _, _, _, _, _, _, _, _, _, _, _, _, _, _, _, _, _, _, .slice (some ⟨b, o, none⟩) ts.length ct, .int .i64 k, .pointer (some ⟨b, o + k, none⟩), .string x, .bool true, .bool true, .slice (some ⟨b, o, none⟩) ts.length ct, .int .i64 k, .pointer (some ⟨b, o + k, none⟩), .string x, .bool true, _, _, _, _, _, _, _, _, _, _, _, _, _, _, _, _, _, _, _, _, _, _, _, _, _, _, _, _, _, _, _, _, _, _, _, _, _, _, _, _, _, _, _, _, _, _, _, _, _, _, _, _, _, _, _, _, _, _, _, _, _, _, _, _, _, _], []⟩ _)
              · intro u hu
                go_simp
              refine HT.take 11 (.bool true) rfl (by kernel_rfl) (fun _ _ _ h => h) (Or.inl ⟨by rfl, ?_⟩) (?_ : HT _ _ _ _ _ _ _ ⟨#[_, _, _, _, _, _, _, _, _, _, _, _, _, _, _, _, _, _, _, _, _, _, _, _, _, _, _, _, _, _, _, _, _, _, _, _, _, _, _, _, _, _, _, _, _, _, .slice (some ⟨b, o, none⟩) ts.length ct, .int .i64 k, .pointer (some ⟨b, o + k, none⟩), .string x, .bool true, .bool true, .slice (some ⟨b, o, none⟩) ts.length ct, .int .i64 k, .pointer (some ⟨b, o + k, none⟩), .string x, .bool true, .bool true, _, _, _, _, _, _, _, _, _, _, _, _, _, _, _, _, _, _, _, _, _, _, _, _, _, _, _, _, _, _, _, _, _, _, _, _, _, _, _, _, _, _, _, _, _, _, _, _, _, _, _, _, _, _, _, _, _, _, _, _, _, _, _, _, _], []⟩ _)
              · intro u hu
                go_simp
              refine HT.take 12 (.bool true) rfl (by kernel_rfl) (fun _ _ _ h => h) (Or.inl ⟨by rfl, ?_⟩) (?_ : HT _ _ _ _ _ _ _ ⟨#[_, _, _, _, _, _, _, _, _, _, _, _, _, _, _, _, _, _, _, _, _, _, _, _, _, _, _, _, _, _, _, _, _, _, _, _, _, _, _, _, _, _, _, _, _, _, .slice (some ⟨b, o, none⟩) ts.length ct, .int .i64 k, .pointer (some ⟨b, o + k, none⟩), .string x, .bool true, .bool true, .slice (some ⟨b, o, none⟩) ts.length ct, .int .i64 k, .pointer (some ⟨b, o + k, none⟩), .string x, .bool true, .bool true, .bool true, _, _, _, _, _, _, _, _, _, _, _, _, _, _, _, _, _, _, _, _, _, _, _, _, _, _, _, _, _, _, _, _, _, _, _, _, _, _, _, _, _, _, _, _, _, _, _, _, _, _, _, _, _, _, _, _, _, _, _, _, _, _, _, _], []⟩ _)
              · intro u hu
                go_simp
              refine HT.take 13 (.pointer (some ⟨b7, 3, none⟩)) rfl (by kernel_rfl) (fun _ _ _ h => h) (Or.inl ⟨by rfl, ?_⟩) (?_ : HT _ _ _ _ _ _ _ ⟨#[_, _, _, _, _, _, _, _, _, _, _, _, _, _, _, _, _, _, _, _, _, _, _, _, _, _, _, _, _, _, _, _, _, _, _, _, _, _, _, _, _, _, _, _, _, _, .slice (some ⟨b, o, none⟩) ts.length ct, .int .i64 k, .pointer (some ⟨b, o + k, none⟩), .string x, .bool true, .bool true, .slice (some ⟨b, o, none⟩) ts.length ct, .int .i64 k, .pointer (some ⟨b, o + k, none⟩), .string x, .bool true, .bool true, .bool true, .pointer (some ⟨b7, 3, none⟩), _, _, _, _, _, _, _, _, _, _, _, _, _, _, _, _, _, _, _, _, _, _, _, _, _, _, _, _, _, _, _, _, _, _, _, _, _, _, _, _, _, _, _, _, _, _, _, _, _, _, _, _, _, _, _, _, _, _, _, _, _, _, _], []⟩ _)
              · intro u hu
                go_simp
              refine HT.take 14 (.slice A2 PL.length c2) rfl (by kernel_rfl) (fun _ _ _ h => h) (Or.inl ⟨by rfl, ?_⟩) (?_ : HT _ _ _ _ _ _ _ ⟨#[_, _, _, _, _, _, _, _, _, _, _, _, _, _, _, _, _, _, _, _, _, _, _, _, _, _, _, _, _, _, _, _, _, _, _, _, _, _, _, _, _, _, _, _, _, _, .slice (some ⟨b, o, none⟩) ts.length ct, .int .i64 k, .pointer (some ⟨b, o + k, none⟩), .string x, .bool true, .bool true, .slice (some ⟨b, o, none⟩) ts.length ct, .int .i64 k, .pointer (some ⟨b, o + k, none⟩), .string x, .bool true, .bool true, .bool true, .pointer (some ⟨b7, 3, none⟩), .slice A2 PL.length c2, _, _, _, _, _, _, _, _, _, _, _, _, _, _, _, _, _, _, _, _, _, _, _, _, _, _, _, _, _, _, _, _, _, _, _, _, _, _, _, _, _, _, _, _, _, _, _, _, _, _, _, _, _, _, _, _, _, _, _, _, _, _], []⟩ _)
              · intro u hu
                obtain ⟨⟨hq, _⟩, _⟩ := hu
                obtain ⟨x0, x1, x2, x3⟩ := hq.cells4
                go_simp
              refine HT.take 15 (.slice (some ⟨b, o, none⟩) ts.length ct) rfl (by kernel_rfl) (fun _ _ _ h => h) (Or.inl ⟨by rfl, ?_⟩) (?_ : HT _ _ _ _ _ _ _ ⟨#[_, _, _, _, _, _, _, _, _, _, _, _, _, _, _, _, _, _, _, _, _, _, _, _, _, _, _, _, _, _, _, _, _, _, _, _, _, _, _, _, _, _, _, _, _, _, .slice (some ⟨b, o, none⟩) ts.length ct, .int .i64 k, .pointer (some ⟨b, o + k, none⟩), .string x, .bool true, .bool true, .slice (some ⟨b, o, none⟩) ts.length ct, .int .i64 k, .pointer (some ⟨b, o + k, none⟩), .string x, .bool true, .bool true, .bool true, .pointer (some ⟨b7, 3, none⟩), .slice A2 PL.length c2, .slice (some ⟨b, o, none⟩) ts.length ct, _, _, _, _, _, _, _, _, _, _, _, _, _, _, _, _, _, _, _, _, _, _, _, _, _, _, _, _, _, _, _, _, _, _, _, _, _, _, _, _, _, _, _, _, _, _, _, _, _, _, _, _, _, _, _, _, _, _, _, _, _], []⟩ _)
              · intro u hu
                go_simp
              refine HT.take 16 (.int .i64 k) rfl (by kernel_rfl) (fun _ _ _ h => h) (Or.inl ⟨by rfl, ?_⟩) (?_ : HT _ _ _ _ _ _ _ ⟨#[_, _, _, _, _, _, _, _, _, _, _, _, _, _, _, _, _, _, _, _, _, _, _, _, _, _, _, _, _, _, _, _, _, _, _, _, _, _, _, _, _, _, _, _, _, _, .slice (some ⟨b, o, none⟩) ts.length ct, .int .i64 k, .pointer (some ⟨b, o + k, none⟩), .string x, .bool true, .bool true, .slice (some ⟨b, o, none⟩) ts.length ct, .int .i64 k, .pointer (some ⟨b, o + k, none⟩), .string x, .bool true, .bool true, .bool true, .pointer (some ⟨b7, 3, none⟩), .slice A2 PL.length c2, .slice (some ⟨b, o, none⟩) ts.length ct, .int .i64 k, _, _, _, _, _, _, _, _, _, _, _, _, _, _, _, _, _, _, _, _, _, _, _, _, _, _, _, _, _, _, _, _, _, _, _, _, _, _, _, _, _, _, _, _, _, _, _, _, _, _, _, _, _, _, _, _, _, _, _, _], []⟩ _)
              · intro u hu
                go_simp
              refine HT.take 17 (.pointer (some ⟨b, o + k, none⟩)) rfl (by kernel_rfl) (fun _ _ _ h => h) (Or.inl ⟨by rfl, ?_⟩) (?_ : HT _ _ _ _ _ _ _ ⟨#[_, _, _, _, _, _, _, _, _, _, _, _, _, _, _, _, _, _, _, _, _, _, _, _, _, _, _, _, _, _, _, _, _, _, _, _, _, _, _, _, _, _, _, _, _, _, .slice (some ⟨b, o, none⟩) ts.length ct, .int .i64 k, .pointer (some ⟨b, o + k, none⟩), .string x, .bool true, .bool true, .slice (some ⟨b, o, none⟩) ts.length ct, .int .i64 k, .pointer (some ⟨b, o + k, none⟩), .string x, .bool true, .bool true, .bool true, .pointer (some ⟨b7, 3, none⟩), .slice A2 PL.length c2, .slice (some ⟨b, o, none⟩) ts.length ct, .int .i64 k, .pointer (some ⟨b, o + k, none⟩), _, _, _, _, _, _, _, _, _, _, _, _, _, _, _, _, _, _, _, _, _, _, _, _, _, _, _, _, _, _, _, _, _, _, _, _, _, _, _, _, _, _, _, _, _, _, _, _, _, _, _, _, _, _, _, _, _, _, _], []⟩ _)
              · intro u hu
                go_simp
              refine HT.take 18 (.string x) rfl (by kernel_rfl) (fun _ _ _ h => h) (Or.inl ⟨by rfl, ?_⟩) (?_ : HT _ _ _ _ _ _ _ ⟨#[_, _, _, _, _, _, _, _, _, _, _, _, _, _, _, _, _, _, _, _, _, _, _, _, _, _, _, _, _, _, _, _, _, _, _, _, _, _, _, _, _, _, _, _, _, _, .slice (some ⟨b, o, none⟩) ts.length ct, .int .i64 k, .pointer (some ⟨b, o + k, none⟩), .string x, .bool true, .bool true, .slice (some ⟨b, o, none⟩) ts.length ct, .int .i64 k, .pointer (some ⟨b, o + k, none⟩), .string x, .bool true, .bool true, .bool true, .pointer (some ⟨b7, 3, none⟩), .slice A2 PL.length c2, .slice (some ⟨b, o, none⟩) ts.length ct, .int .i64 k, .pointer (some ⟨b, o + k, none⟩), .string x, _, _, _, _, _, _, _, _, _, _, _, _, _, _, _, _, _, _, _, _, _, _, _, _, _, _, _, _, _, _, _, _, _, _, _, _, _, _, _, _, _, _, _, _, _, _, _, _, _, _, _, _, _, _, _, _, _, _], []⟩ _)
              · intro u hu
                obtain ⟨_, _, cx⟩ := hu
                go_simp
              refine HT.tail _ rfl rfl (by kernel_rfl) (fun hS => ?_)
              have HS := Lib.hid hS
              clear hS hS0
              go_wp2_with fail
              refine (HVK.out _ HS.out.1.2.1).mono ?_
              rintro e w8 ⟨R1, d1, rfl, hr, hb8⟩
              have HS7 := Lib.hid (HS.out.1.below hb8)
              have HN7 := Lib.hid (HS.out.2.1.below hb8)
              clear hr hb8 HS
              go_wp2
              refine NoPanic.normal ?_
              go_wp2
              go_roundw
              case rel => exact ⟨k + 1, by omega, by go_num, HS7.out, HN7.out⟩
              case measure => simp [intOf]; omega
        · have hkn : k = ts.length := by omega
          subst hkn
          clear hlt hk
          have HS7 := Lib.hid hS
          clear hS hN HWORD HSM
          obtain ⟨z0, z1, z2, z3⟩ := HS7.out.1.cells4
          have HVV : Hid (∀ u, Rd u A2 PL.length 2 (fcells PL) → Calls Tryd.prog 33 #[.slice A2 PL.length c2, .string ⟨#[86, 105, 97]⟩] u (RetRow u 9 1 1 (scells [V]))) := by
            have := HV.out A2 c2 F.via3 (by decide)
            rw [HVIA.out] at this
            exact this
          have HVH : Hid (∀ u, Rd u A2 PL.length 2 (fcells PL) → Calls Tryd.prog 33 #[.slice A2 PL.length c2, .string ⟨#[72, 111, 115, 116]⟩] u (RetRow u 9 1 1 (scells [HO]))) := by
            have := HV.out A2 c2 F.hostN (by decide)
            rw [HHOST.out] at this
            exact this
          clear HV HVIA HHOST
          go_wp2_with fail
          refine (HVV.out _ HS7.out.2.1).mono ?_
          rintro e w12 ⟨Av, cv, rfl, hrv, hb12⟩
          have HS12 := Lib.hid (HS7.out.below hb12)
          obtain ⟨bv, ov, rfl, hbv, cv0⟩ := hrv.rd.str (k := 0) (by decide) rfl
          rw [Nat.add_zero] at cv0
          have CV := Lib.hid cv0
          have HBV := Lib.hid hbv
          clear hrv hb12 HS7 HVV z0 z1 z2 z3 cv0 hbv
          go_wp2
          have q1 : ¬ p7.toList = [] := fun h => HP7.out (toList_inj.1 (h.trans (by simp)))
          have q2 : p7.toList.isEmpty = false := by cases h : p7.toList <;> simp_all
          obtain ⟨j, hj⟩ : ∃ j, j = V.size - via.size := ⟨_, rfl⟩
          have v1 := HVE.out.1
          have v2 := HVE.out.2
          rw [← hj] at v2
          have v3 : (V.size : Int) - (via.size : Int) = (j : Int) := by omega
          have v4 : IntKind.i64.wrap (j : Int) = (j : Int) := IntWalk.i64_in _ (by omega)
          have v5 : j ≤ V.size := by omega
          have v6 : decide ((V.size : Int) ≥ (via.size : Int)) = true := by rw [decide_eq_true_eq]; omega
          have hS0 : (CleanS w b7 #[.string s, .string r, .int .i64 m, .slice A fs.length c] #[.string s, .string p7, .int .i64 1, .slice A2 PL.length c2] A2 PL w12.drew ∧ w12.drew.cell? ⟨bv, ov, none⟩ = some (.string V) ∧ bv < w12.drew.heap.size) := ⟨HS12.out.below (Below.refl _ _).drew, CV.out, HBV.out⟩
          clear HS12 CV HBV HVE hj
          refine wp_region_noPanic ?_
          refine HT.begin (n := 51) (S := (fun u => CleanS w b7 #[.string s, .string r, .int .i64 m, .slice A fs.length c] #[.string s, .string p7, .int .i64 1, .slice A2 PL.length c2] A2 PL u ∧ u.cell? ⟨bv, ov, none⟩ = some (.string V) ∧ bv < u.heap.size)) (by kernel_rfl) hS0 ?_
          refine HT.take 0 (.pointer (some ⟨b7, 3, none⟩)) rfl (by kernel_rfl) (fun _ _ _ h => h) (Or.inl ⟨by rfl, ?_⟩) (?_ : HT _ _ _ _ _ _ _ ⟨#[_, _, _, _, _, _, _, _, _, _, _, _, _, _, _, _, _, _, _, _, _, _, _, _, _, _, _, _, _, _, _, _, _, _, _, _, _, _, _, _, _, _, _, _, _, _, _, _, _, _, _, _, _, _, _, _, _, _, _, _, _, _, _, _, _, _, _, _, _, _, _, _, .pointer (some ⟨b7, 3, none⟩), _, _, _, _, _, _, _, _, _, _, _, _, _, _, _, _, _, _, _, _, _, _, _, _, _, _, _, _, _, _, _, _, _, _, _, _, _, _, _, _, _, _, _, _, _, _, _, _, _, _], []⟩ _)
          · intro u hu
            go_simp
          refine HT.take 1 (.slice A2 PL.length c2) rfl (by kernel_rfl) (fun _ _ _ h => h) (Or.inl ⟨by rfl, ?_⟩) (?_ : HT _ _ _ _ _ _ _ ⟨#[_, _, _, _, _, _, _, _, _, _, _, _, _, _, _, _, _, _, _, _, _, _, _, _, _, _, _, _, _, _, _, _, _, _, _, _, _, _, _, _, _, _, _, _, _, _, _, _, _, _, _, _, _, _, _, _, _, _, _, _, _, _, _, _, _, _, _, _, _, _, _, _, .pointer (some ⟨b7, 3, none⟩), .slice A2 PL.length c2, _, _, _, _, _, _, _, _, _, _, _, _, _, _, _, _, _, _, _, _, _, _, _, _, _, _, _, _, _, _, _, _, _, _, _, _, _, _, _, _, _, _, _, _, _, _, _, _, _], []⟩ _)
          · intro u hu
            obtain ⟨⟨hq, _⟩, _⟩ := hu
            obtain ⟨x0, x1, x2, x3⟩ := hq.cells4
            go_simp
          refine HT.step 2 rfl (by kernel_rfl) (fun hS K hK => ?_)
          go_simp
          refine (HVH.out _ hS.1.2.1).mono ?_
          rintro e w13 ⟨R1, d1, rfl, _, hb13⟩
          refine hK.out _ _ ⟨hS.1.below hb13, (hb13.cell (p := ⟨bv, ov, none⟩) hS.2.2).trans hS.2.1, Nat.lt_of_lt_of_le hS.2.2 hb13.size⟩ ?_
          clear hK hS hb13 hS0
          refine HT.take 3 (.int .i64 1) rfl (by kernel_rfl) (fun _ _ _ h => h) (Or.inl ⟨by rfl, ?_⟩) (?_ : HT _ _ _ _ _ _ _ ⟨#[_, _, _, _, _, _, _, _, _, _, _, _, _, _, _, _, _, _, _, _, _, _, _, _, _, _, _, _, _, _, _, _, _, _, _, _, _, _, _, _, _, _, _, _, _, _, _, _, _, _, _, _, _, _, _, _, _, _, _, _, _, _, _, _, _, _, _, _, _, _, _, _, .pointer (some ⟨b7, 3, none⟩), .slice A2 PL.length c2, _, .int .i64 1, _, _, _, _, _, _, _, _, _, _, _, _, _, _, _, _, _, _, _, _, _, _, _, _, _, _, _, _, _, _, _, _, _, _, _, _, _, _, _, _, _, _, _, _, _, _, _], []⟩ _)
          · intro u hu
            go_simp
          refine HT.take 4 (.bool true) rfl (by kernel_rfl) (fun _ _ _ h => h) (Or.inl ⟨by rfl, ?_⟩) (?_ : HT _ _ _ _ _ _ _ ⟨#[_, _, _, _, _, _, _, _, _, _, _, _, _, _, _, _, _, _, _, _, _, _, _, _, _, _, _, _, _, _, _, _, _, _, _, _, _, _, _, _, _, _, _, _, _, _, _, _, _, _, _, _, _, _, _, _, _, _, _, _, _, _, _, _, _, _, _, _, _, _, _, _, .pointer (some ⟨b7, 3, none⟩), .slice A2 PL.length c2, _, .int .i64 1, .bool true, _, _, _, _, _, _, _, _, _, _, _, _, _, _, _, _, _, _, _, _, _, _, _, _, _, _, _, _, _, _, _, _, _, _, _, _, _, _, _, _, _, _, _, _, _, _], []⟩ _)
          · intro u hu
            go_simp
          refine HT.take 5 (.bool true) rfl (by kernel_rfl) (fun _ _ _ h => h) (Or.inl ⟨by rfl, ?_⟩) (?_ : HT _ _ _ _ _ _ _ ⟨#[_, _, _, _, _, _, _, _, _, _, _, _, _, _, _, _, _, _, _, _, _, _, _, _, _, _, _, _, _, _, _, _, _, _, _, _, _, _, _, _, _, _, _, _, _, _, _, _, _, _, _, _, _, _, _, _, _, _, _, _, _, _, _, _, _, _, _, _, _, _, _, _, .pointer (some ⟨b7, 3, none⟩), .slice A2 PL.length c2, _, .int .i64 1, .bool true, .bool true, _, _, _, _, _, _, _, _, _, _, _, _, _, _, _, _, _, _, _, _, _, _, _, _, _, _, _, _, _, _, _, _, _, _, _, _, _, _, _, _, _, _, _, _, _], []⟩ _)
          · intro u hu
            go_simp
          refine HT.take 6 (.slice (some ⟨bv, ov, none⟩) 1 cv) rfl (by kernel_rfl) (fun _ _ _ h => h) (Or.inl ⟨by rfl, ?_⟩) (?_ : HT _ _ _ _ _ _ _ ⟨#[_, _, _, _, _, _, _, _, _, _, _, _, _, _, _, _, _, _, _, _, _, _, _, _, _, _, _, _, _, _, _, _, _, _, _, _, _, _, _, _, _, _, _, _, _, _, _, _, _, _, _, _, _, _, _, _, _, _, _, _, _, _, _, _, _, _, _, _, _, _, _, _, .pointer (some ⟨b7, 3, none⟩), .slice A2 PL.length c2, _, .int .i64 1, .bool true, .bool true, .slice (some ⟨bv, ov, none⟩) 1 cv, _, _, _, _, _, _, _, _, _, _, _, _, _, _, _, _, _, _, _, _, _, _, _, _, _, _, _, _, _, _, _, _, _, _, _, _, _, _, _, _, _, _, _, _], []⟩ _)
          · intro u hu
            go_simp
          refine HT.take 7 (.int .i64 1) rfl (by kernel_rfl) (fun _ _ _ h => h) (Or.inl ⟨by rfl, ?_⟩) (?_ : HT _ _ _ _ _ _ _ ⟨#[_, _, _, _, _, _, _, _, _, _, _, _, _, _, _, _, _, _, _, _, _, _, _, _, _, _, _, _, _, _, _, _, _, _, _, _, _, _, _, _, _, _, _, _, _, _, _, _, _, _, _, _, _, _, _, _, _, _, _, _, _, _, _, _, _, _, _, _, _, _, _, _, .pointer (some ⟨b7, 3, none⟩), .slice A2 PL.length c2, _, .int .i64 1, .bool true, .bool true, .slice (some ⟨bv, ov, none⟩) 1 cv, .int .i64 1, _, _, _, _, _, _, _, _, _, _, _, _, _, _, _, _, _, _, _, _, _, _, _, _, _, _, _, _, _, _, _, _, _, _, _, _, _, _, _, _, _, _, _], []⟩ _)
          · intro u hu
            go_simp
          refine HT.take 8 (.bool true) rfl (by kernel_rfl) (fun _ _ _ h => h) (Or.inl ⟨by rfl, ?_⟩) (?_ : HT _ _ _ _ _ _ _ ⟨#[_, _, _, _, _, _, _, _, _, _, _, _, _, _, _, _, _, _, _, _, _, _, _, _, _, _, _, _, _, _, _, _, _, _, _, _, _, _, _, _, _, _, _, _, _, _, _, _, _, _, _, _, _, _, _, _, _, _, _, _, _, _, _, _, _, _, _, _, _, _, _, _, .pointer (some ⟨b7, 3, none⟩), .slice A2 PL.length c2, _, .int .i64 1, .bool true, .bool true, .slice (some ⟨bv, ov, none⟩) 1 cv, .int .i64 1, .bool true, _, _, _, _, _, _, _, _, _, _, _, _, _, _, _, _, _, _, _, _, _, _, _, _, _, _, _, _, _, _, _, _, _, _, _, _, _, _, _, _, _, _], []⟩ _)
          · intro u hu
            go_simp
          refine HT.take 9 (.bool true) rfl (by kernel_rfl) (fun _ _ _ h => h) (Or.inl ⟨by rfl, ?_⟩) (?_ : HT _ _ _ _ _ _ _ ⟨#[_, _, _, _, _, _, _, _, _, _, _, _, _, _, _, _, _, _, _, _, _, _, _, _, _, _, _, _, _, _, _, _, _, _, _, _, _, _, _, _, _, _, _, _, _, _, _, _, _, _, _, _, _, _, _, _, _, _, _, _, _, _, _, _, _, _, _, _, _, _, _, _, .pointer (some ⟨b7, 3, none⟩), .slice A2 PL.length c2, _, .int .i64 1, .bool true, .bool true, .slice (some ⟨bv, ov, none⟩) 1 cv, .int .i64 1, .bool true, .bool true, _, _, _, _, _, _, _, _, _, _, _, _, _, _, _, _, _, _, _, _, _, _, _, _, _, _, _, _, _, _, _, _, _, _, _, _, _, _, _, _, _], []⟩ _)
          · intro u hu
            go_simp
          refine HT.take 10 (.bool true) rfl (by kernel_rfl) (fun _ _ _ h => h) (Or.inl ⟨by rfl, ?_⟩) (?_ : HT _ _ _ _ _ _ _ ⟨#[_, _, _, _, _, _, _, _, _, _, _, _, _, _, _, _, _, _, _, _, _, _, _, _, _, _, _, _, _, _, _, _, _, _, _, _, _, _, _, _, _, _, _, _, _, _, _, _, _, _, _, _, _, _, _, _, _, _, _, _, _, _, _, _, _, _, _, _, _, _, _, _, .pointer (some ⟨b7, 3, none⟩), .slice A2 PL.length c2, _, .int .i64 1, .bool true, .bool true, .slice (some ⟨bv, ov, none⟩) 1 cv, .int .i64 1, .bool true, .bool true, .bool true, _, _, _, _, _, _, _, _, _, _, _, _, _, _, _, _, _, _, _, _, _, _, _, _, _, _, _, _, _, _, _, _, _, _, _, _, _, _, _, _], []⟩ _)
          · intro u hu
            go_simp
          refine HT.take 11 (.slice (some ⟨bv, ov, none⟩) 1 cv) rfl (by kernel_rfl) (fun _ _ _ h => h) (Or.inl ⟨by rfl, ?_⟩) (?_ : HT _ _ _ _ _ _ _ ⟨#[_, _, _, _, _, _, _, _, _, _, _, _, _, _, _, _, _, _, _, _, _, _, _, _, _, _, _, _, _, _, _, _, _, _, _, _, _, _, _, _, _, _, _, _, _, _, _, _, _, _, _, _, _, _, _, _, _, _, _, _, _, _, _, _, _, _, _, _, _, _, _, _, .pointer (some ⟨b7, 3, none⟩), .slice A2 PL.length c2, _, .int .i64 1, .bool true, .bool true, .slice (some ⟨bv, ov, none⟩) 1 cv, .int .i64 1, .bool true, .bool true, .bool true, .slice (some ⟨bv, ov, none⟩) 1 cv, _, _, _, _, _, _, _, _, _, _, _, _, _, _, _, _, _, _, _, _, _, _, _, _, _, _, _, _, _, _, _, _, _, _, _, _, _, _, _], []⟩ _)
          · intro u hu
            go_simp
          refine HT.take 12 (.pointer (some ⟨bv, ov, none⟩)) rfl (by kernel_rfl) (fun _ _ _ h => h) (Or.inl ⟨by rfl, ?_⟩) (?_ : HT _ _ _ _ _ _ _ ⟨#[_, _, _, _, _, _, _, _, _, _, _, _, _, _, _, _, _, _, _, _, _, _, _, _, _, _, _, _, _, _, _, _, _, _, _, _, _, _, _, _, _, _, _, _, _, _, _, _, _, _, _, _, _, _, _, _, _, _, _, _, _, _, _, _, _, _, _, _, _, _, _, _, .pointer (some ⟨b7, 3, none⟩), .slice A2 PL.length c2, _, .int .i64 1, .bool true, .bool true, .slice (some ⟨bv, ov, none⟩) 1 cv, .int .i64 1, .bool true, .bool true, .bool true, .slice (some ⟨bv, ov, none⟩) 1 cv, .pointer (some ⟨bv, ov, none⟩), _, _, _, _, _, _, _, _, _, _, _, _, _, _, _, _, _, _, _, _, _, _, _, _, _, _, _, _, _, _, _, _, _, _, _, _, _, _], []⟩ _)
          · intro u hu
            go_simp
          refine HT.take 13 (.string V) rfl (by kernel_rfl) (fun _ _ _ h => h) (Or.inl ⟨by rfl, ?_⟩) (?_ : HT _ _ _ _ _ _ _ ⟨#[_, _, _, _, _, _, _, _, _, _, _, _, _, _, _, _, _, _, _, _, _, _, _, _, _, _, _, _, _, _, _, _, _, _, _, _, _, _, _, _, _, _, _, _, _, _, _, _, _, _, _, _, _, _, _, _, _, _, _, _, _, _, _, _, _, _, _, _, _, _, _, _, .pointer (some ⟨b7, 3, none⟩), .slice A2 PL.length c2, _, .int .i64 1, .bool true, .bool true, .slice (some ⟨bv, ov, none⟩) 1 cv, .int .i64 1, .bool true, .bool true, .bool true, .slice (some ⟨bv, ov, none⟩) 1 cv, .pointer (some ⟨bv, ov, none⟩), .string V, _, _, _, _, _, _, _, _, _, _, _, _, _, _, _, _, _, _, _, _, _, _, _, _, _, _, _, _, _, _, _, _, _, _, _, _, _], []⟩ _)
          · intro u hu
            obtain ⟨_, cv, _⟩ := hu
            go_simp
          refine HT.take 14 (.int .i64 V.size) rfl (by kernel_rfl) (fun _ _ _ h => h) (Or.inl ⟨by rfl, ?_⟩) (?_ : HT _ _ _ _ _ _ _ ⟨#[_, _, _, _, _, _, _, _, _, _, _, _, _, _, _, _, _, _, _, _, _, _, _, _, _, _, _, _, _, _, _, _, _, _, _, _, _, _, _, _, _, _, _, _, _, _, _, _, _, _, _, _, _, _, _, _, _, _, _, _, _, _, _, _, _, _, _, _, _, _, _, _, .pointer (some ⟨b7, 3, none⟩), .slice A2 PL.length c2, _, .int .i64 1, .bool true, .bool true, .slice (some ⟨bv, ov, none⟩) 1 cv, .int .i64 1, .bool true, .bool true, .bool true, .slice (some ⟨bv, ov, none⟩) 1 cv, .pointer (some ⟨bv, ov, none⟩), .string V, .int .i64 V.size, _, _, _, _, _, _, _, _, _, _, _, _, _, _, _, _, _, _, _, _, _, _, _, _, _, _, _, _, _, _, _, _, _, _, _, _], []⟩ _)
          · intro u hu
            go_simp
          refine HT.take 15 (.string via) rfl (by kernel_rfl) (fun _ _ _ h => h) (Or.inl ⟨by rfl, ?_⟩) (?_ : HT _ _ _ _ _ _ _ ⟨#[_, _, _, _, _, _, _, _, _, _, _, _, _, _, _, _, _, _, _, _, _, _, _, _, _, _, _, _, _, _, _, _, _, _, _, _, _, _, _, _, _, _, _, _, _, _, _, _, _, _, _, _, _, _, _, _, _, _, _, _, _, _, _, _, _, _, _, _, _, _, _, _, .pointer (some ⟨b7, 3, none⟩), .slice A2 PL.length c2, _, .int .i64 1, .bool true, .bool true, .slice (some ⟨bv, ov, none⟩) 1 cv, .int .i64 1, .bool true, .bool true, .bool true, .slice (some ⟨bv, ov, none⟩) 1 cv, .pointer (some ⟨bv, ov, none⟩), .string V, .int .i64 V.size, .string via, _, _, _, _, _, _, _, _, _, _, _, _, _, _, _, _, _, _, _, _, _, _, _, _, _, _, _, _, _, _, _, _, _, _, _], []⟩ _)
          · intro u hu
            go_simp
          refine HT.take 16 (.int .i64 via.size) rfl (by kernel_rfl) (fun _ _ _ h => h) (Or.inl ⟨by rfl, ?_⟩) (?_ : HT _ _ _ _ _ _ _ ⟨#[_, _, _, _, _, _, _, _, _, _, _, _, _, _, _, _, _, _, _, _, _, _, _, _, _, _, _, _, _, _, _, _, _, _, _, _, _, _, _, _, _, _, _, _, _, _, _, _, _, _, _, _, _, _, _, _, _, _, _, _, _, _, _, _, _, _, _, _, _, _, _, _, .pointer (some ⟨b7, 3, none⟩), .slice A2 PL.length c2, _, .int .i64 1, .bool true, .bool true, .slice (some ⟨bv, ov, none⟩) 1 cv, .int .i64 1, .bool true, .bool true, .bool true, .slice (some ⟨bv, ov, none⟩) 1 cv, .pointer (some ⟨bv, ov, none⟩), .string V, .int .i64 V.size, .string via, .int .i64 via.size, _, _, _, _, _, _, _, _, _, _, _, _, _, _, _, _, _, _, _, _, _, _, _, _, _, _, _, _, _, _, _, _, _, _], []⟩ _)
          · intro u hu
            go_simp
          refine HT.take 17 (.bool true) rfl (by kernel_rfl) (fun _ _ _ h => h) (Or.inl ⟨by rfl, ?_⟩) (?_ : HT _ _ _ _ _ _ _ ⟨#[_, _, _, _, _, _, _, _, _, _, _, _, _, _, _, _, _, _, _, _, _, _, _, _, _, _, _, _, _, _, _, _, _, _, _, _, _, _, _, _, _, _, _, _, _, _, _, _, _, _, _, _, _, _, _, _, _, _, _, _, _, _, _, _, _, _, _, _, _, _, _, _, .pointer (some ⟨b7, 3, none⟩), .slice A2 PL.length c2, _, .int .i64 1, .bool true, .bool true, .slice (some ⟨bv, ov, none⟩) 1 cv, .int .i64 1, .bool true, .bool true, .bool true, .slice (some ⟨bv, ov, none⟩) 1 cv, .pointer (some ⟨bv, ov, none⟩), .string V, .int .i64 V.size, .string via, .int .i64 via.size, .bool true, _, _, _, _, _, _, _, _, _, _, _, _, _, _, _, _, _, _, _, _, _, _, _, _, _, _, _, _, _, _, _, _, _], []⟩ _)
          · intro u hu
            go_simp
          refine HT.take 18 (.bool true) rfl (by kernel_rfl) (fun _ _ _ h => h) (Or.inl ⟨by rfl, ?_⟩) (?_ : HT _ _ _ _ _ _ _ ⟨#[_, _, _, _, _, _, _, _, _, _, _, _, _, _, _, _, _, _, _, _, _, _, _, _, _, _, _, _, _, _, _, _, _, _, _, _, _, _, _, _, _, _, _, _, _, _, _, _, _, _, _, _, _, _, _, _, _, _, _, _, _, _, _, _, _, _, _, _, _, _, _, _, .pointer (some ⟨b7, 3, none⟩), .slice A2 PL.length c2, _, .int .i64 1, .bool true, .bool true, .slice (some ⟨bv, ov, none⟩) 1 cv, .int .i64 1, .bool true, .bool true, .bool true, .slice (some ⟨bv, ov, none⟩) 1 cv, .pointer (some ⟨bv, ov, none⟩), .string V, .int .i64 V.size, .string via, .int .i64 via.size, .bool true, .bool true, _, _, _, _, _, _, _, _, _, _, _, _, _, _, _, _, _, _, _, _, _, _, _, _, _, _, _, _, _, _, _, _], []⟩ _)
          · intro u hu
            go_simp
          refine HT.take 19 (.bool true) rfl (by kernel_rfl) (fun _ _ _ h => h) (Or.inl ⟨by rfl, ?_⟩) (?_ : HT _ _ _ _ _ _ _ ⟨#[_, _, _, _, _, _, _, _, _, _, _, _, _, _, _, _, _, _, _, _, _, _, _, _, _, _, _, _, _, _, _, _, _, _, _, _, _, _, _, _, _, _, _, _, _, _, _, _, _, _, _, _, _, _, _, _, _, _, _, _, _, _, _, _, _, _, _, _, _, _, _, _, .pointer (some ⟨b7, 3, none⟩), .slice A2 PL.length c2, _, .int .i64 1, .bool true, .bool true, .slice (some ⟨bv, ov, none⟩) 1 cv, .int .i64 1, .bool true, .bool true, .bool true, .slice (some ⟨bv, ov, none⟩) 1 cv, .pointer (some ⟨bv, ov, none⟩), .string V, .int .i64 V.size, .string via, .int .i64 via.size, .bool true, .bool true, .bool true, _, _, _, _, _, _, _, _, _, _, _, _, _, _, _, _, _, _, _, _, _, _, _, _, _, _, _, _, _, _, _], []⟩ _)
          · intro u hu
            go_simp
          refine HT.take 20 (.slice (some ⟨bv, ov, none⟩) 1 cv) rfl (by kernel_rfl) (fun _ _ _ h => h) (Or.inl ⟨by rfl, ?_⟩) (?_ : HT _ _ _ _ _ _ _ ⟨#[_, _, _, _, _, _, _, _, _, _, _, _, _, _, _, _, _, _, _, _, _, _, _, _, _, _, _, _, _, _, _, _, _, _, _, _, _, _, _, _, _, _, _, _, _, _, _, _, _, _, _, _, _, _, _, _, _, _, _, _, _, _, _, _, _, _, _, _, _, _, _, _, .pointer (some ⟨b7, 3, none⟩), .slice A2 PL.length c2, _, .int .i64 1, .bool true, .bool true, .slice (some ⟨bv, ov, none⟩) 1 cv, .int .i64 1, .bool true, .bool true, .bool true, .slice (some ⟨bv, ov, none⟩) 1 cv, .pointer (some ⟨bv, ov, none⟩), .string V, .int .i64 V.size, .string via, .int .i64 via.size, .bool true, .bool true, .bool true, .slice (some ⟨bv, ov, none⟩) 1 cv, _, _, _, _, _, _, _, _, _, _, _, _, _, _, _, _, _, _, _, _, _, _, _, _, _, _, _, _, _, _], []⟩ _)
          · intro u hu
            go_simp
          refine HT.take 21 (.pointer (some ⟨bv, ov, none⟩)) rfl (by kernel_rfl) (fun _ _ _ h => h) (Or.inl ⟨by rfl, ?_⟩) (?_ : HT _ _ _ _ _ _ _ ⟨#[_, _, _, _, _, _, _, _, _, _, _, _, _, _, _, _, _, _, _, _, _, _, _, _, _, _, _, _, _, _, _, _, _, _, _, _, _, _, _, _, _, _, _, _, _, _, _, _, _, _, _, _, _, _, _, _, _, _, _, _, _, _, _, _, _, _, _, _, _, _, _, _, .pointer (some ⟨b7, 3, none⟩), .slice A2 PL.length c2, _, .int .i64 1, .bool true, .bool true, .slice (some ⟨bv, ov, none⟩) 1 cv, .int .i64 1, .bool true, .bool true, .bool true, .slice (some ⟨bv, ov, none⟩) 1 cv, .pointer (some ⟨bv, ov, none⟩), .string V, .int .i64 V.size, .string via, .int .i64 via.size, .bool true, .bool true, .bool true, .slice (some ⟨bv, ov, none⟩) 1 cv, .pointer (some ⟨bv, ov, none⟩), _, _, _, _, _, _, _, _, _, _, _, _, _, _, _, _, _, _, _, _, _, _, _, _, _, _, _, _, _], []⟩ _)
          · intro u hu
            go_simp
          refine HT.take 22 (.string V) rfl (by kernel_rfl) (fun _ _ _ h => h) (Or.inl ⟨by rfl, ?_⟩) (?_ : HT _ _ _ _ _ _ _ ⟨#[_, _, _, _, _, _, _, _, _, _, _, _, _, _, _, _, _, _, _, _, _, _, _, _, _, _, _, _, _, _, _, _, _, _, _, _, _, _, _, _, _, _, _, _, _, _, _, _, _, _, _, _, _, _, _, _, _, _, _, _, _, _, _, _, _, _, _, _, _, _, _, _, .pointer (some ⟨b7, 3, none⟩), .slice A2 PL.length c2, _, .int .i64 1, .bool true, .bool true, .slice (some ⟨bv, ov, none⟩) 1 cv, .int .i64 1, .bool true, .bool true, .bool true, .slice (some ⟨bv, ov, none⟩) 1 cv, .pointer (some ⟨bv, ov, none⟩), .string V, .int .i64 V.size, .string via, .int .i64 via.size, .bool true, .bool true, .bool true, .slice (some ⟨bv, ov, none⟩) 1 cv, .pointer (some ⟨bv, ov, none⟩), .string V, _, _, _, _, _, _, _, _, _, _, _, _, _, _, _, _, _, _, _, _, _, _, _, _, _, _, _, _], []⟩ _)
          · intro u hu
            obtain ⟨_, cv, _⟩ := hu
            go_simp
          refine HT.take 23 (.slice (some ⟨bv, ov, none⟩) 1 cv) rfl (by kernel_rfl) (fun _ _ _ h => h) (Or.inl ⟨by rfl, ?_⟩) (?_ : HT _ _ _ _ _ _ _ ⟨#[_, _, _, _, _, _, _, _, _, _, _, _, _, _, _, _, _, _, _, _, _, _, _, _, _, _, _, _, _, _, _, _, _, _, _, _, _, _, _, _, _, _, _, _, _, _, _, _, _, _, _, _, _, _, _, _, _, _, _, _, _, _, _, _, _, _, _, _, _, _, _, _, .pointer (some ⟨b7, 3, none⟩), .slice A2 PL.length c2, _, .int .i64 1, .bool true, .bool true, .slice (some ⟨bv, ov, none⟩) 1 cv, .int .i64 1, .bool true, .bool true, .bool true, .slice (some ⟨bv, ov, none⟩) 1 cv, .pointer (some ⟨bv, ov, none⟩), .string V, .int .i64 V.size, .string via, .int .i64 via.size, .bool true, .bool true, .bool true, .slice (some ⟨bv, ov, none⟩) 1 cv, .pointer (some ⟨bv, ov, none⟩), .string V, .slice (some ⟨bv, ov, none⟩) 1 cv, _, _, _, _, _, _, _, _, _, _, _, _, _, _, _, _, _, _, _, _, _, _, _, _, _, _, _], []⟩ _)
          · intro u hu
            go_simp
          refine HT.take 24 (.pointer (some ⟨bv, ov, none⟩)) rfl (by kernel_rfl) (fun _ _ _ h => h) (Or.inl ⟨by rfl, ?_⟩) (?_ : HT _ _ _ _ _ _ _ ⟨#[_, _, _, _, _, _, _, _, _, _, _, _, _, _, _, _, _, _, _, _, _, _, _, _, _, _, _, _, _, _, _, _, _, _, _, _, _, _, _, _, _, _, _, _, _, _, _, _, _, _, _, _, _, _, _, _, _, _, _, _, _, _, _, _, _, _, _, _, _, _, _, _, .pointer (some ⟨b7, 3, none⟩), .slice A2 PL.length c2, _, .int .i64 1, .bool true, .bool true, .slice (some ⟨bv, ov, none⟩) 1 cv, .int .i64 1, .bool true, .bool true, .bool true, .slice (some ⟨bv, ov, none⟩) 1 cv, .pointer (some ⟨bv, ov, none⟩), .string V, .int .i64 V.size, .string via, .int .i64 via.size, .bool true, .bool true, .bool true, .slice (some ⟨bv, ov, none⟩) 1 cv, .pointer (some ⟨bv, ov, none⟩), .string V, .slice (some ⟨bv, ov, none⟩) 1 cv, .pointer (some ⟨bv, ov, none⟩), _, _, _, _, _, _, _, _, _, _, _, _, _, _, _, _, _, _, _, _, _, _, _, _, _, _], []⟩ _)
          · intro u hu
            go_simp
          refine HT.take 25 (.string V) rfl (by kernel_rfl) (fun _ _ _ h => h) (Or.inl ⟨by rfl, ?_⟩) (?_ : HT _ _ _ _ _ _ _ ⟨#[_, _, _, _, _, _, _, _, _, _, _, _, _, _, _, _, _, _, _, _, _, _, _, _, _, _, _, _, _, _, _, _, _, _, _, _, _, _, _, _, _, _, _, _, _, _, _, _, _, _, _, _, _, _, _, _, _, _, _, _, _, _, _, _, _, _, _, _, _, _, _, _, .pointer (some ⟨b7, 3, none⟩), .slice A2 PL.length c2, _, .int .i64 1, .bool true, .bool true, .slice (some ⟨bv, ov, none⟩) 1 cv, .int .i64 1, .bool true, .bool true, .bool true, .slice (some ⟨bv, ov, none⟩) 1 cv, .pointer (some ⟨bv, ov, none⟩), .string V, .int .i64 V.size, .string via, .int .i64 via.size, .bool true, .bool true, .bool true, .slice (some ⟨bv, ov, none⟩) 1 cv, .pointer (some ⟨bv, ov, none⟩), .string V, .slice (some ⟨bv, ov, none⟩) 1 cv, .pointer (some ⟨bv, ov, none⟩), .string V, _, _, _, _, _, _, _, _, _, _, _, _, _, _, _, _, _, _, _, _, _, _, _, _, _], []⟩ _)
          · intro u hu
            obtain ⟨_, cv, _⟩ := hu
            go_simp
          refine HT.take 26 (.int .i64 V.size) rfl (by kernel_rfl) (fun _ _ _ h => h) (Or.inl ⟨by rfl, ?_⟩) (?_ : HT _ _ _ _ _ _ _ ⟨#[_, _, _, _, _, _, _, _, _, _, _, _, _, _, _, _, _, _, _, _, _, _, _, _, _, _, _, _, _, _, _, _, _, _, _, _, _, _, _, _, _, _, _, _, _, _, _, _, _, _, _, _, _, _, _, _, _, _, _, _, _, _, _, _, _, _, _, _, _, _, _, _, .pointer (some ⟨b7, 3, none⟩), .slice A2 PL.length c2, _, .int .i64 1, .bool true, .bool true, .slice (some ⟨bv, ov, none⟩) 1 cv, .int .i64 1, .bool true, .bool true, .bool true, .slice (some ⟨bv, ov, none⟩) 1 cv, .pointer (some ⟨bv, ov, none⟩), .string V, .int .i64 V.size, .string via, .int .i64 via.size, .bool true, .bool true, .bool true, .slice (some ⟨bv, ov, none⟩) 1 cv, .pointer (some ⟨bv, ov, none⟩), .string V, .slice (some ⟨bv, ov, none⟩) 1 cv, .pointer (some ⟨bv, ov, none⟩), .string V, .int .i64 V.size, _, _, _, _, _, _, _, _, _, _, _, _, _, _, _, _, _, _, _, _, _, _, _, _], []⟩ _)
          · intro u hu
            go_simp
          refine HT.take 27 (.string via) rfl (by kernel_rfl) (fun _ _ _ h => h) (Or.inl ⟨by rfl, ?_⟩) (?_ : HT _ _ _ _ _ _ _ ⟨#[_, _, _, _, _, _, _, _, _, _, _, _, _, _, _, _, _, _, _, _, _, _, _, _, _, _, _, _, _, _, _, _, _, _, _, _, _, _, _, _, _, _, _, _, _, _, _, _, _, _, _, _, _, _, _, _, _, _, _, _, _, _, _, _, _, _, _, _, _, _, _, _, .pointer (some ⟨b7, 3, none⟩), .slice A2 PL.length c2, _, .int .i64 1, .bool true, .bool true, .slice (some ⟨bv, ov, none⟩) 1 cv, .int .i64 1, .bool true, .bool true, .bool true, .slice (some ⟨bv, ov, none⟩) 1 cv, .pointer (some ⟨bv, ov, none⟩), .string V, .int .i64 V.size, .string via, .int .i64 via.size, .bool true, .bool true, .bool true, .slice (some ⟨bv, ov, none⟩) 1 cv, .pointer (some ⟨bv, ov, none⟩), .string V, .slice (some ⟨bv, ov, none⟩) 1 cv, .pointer (some ⟨bv, ov, none⟩), .string V, .int .i64 V.size, .string via, _, _, _, _, _, _, _, _, _, _, _, _, _, _, _, _, _, _, _, _, _, _, _], []⟩ _)
          · intro u hu
            go_simp
          refine HT.take 28 (.int .i64 via.size) rfl (by kernel_rfl) (fun _ _ _ h => h) (Or.inl ⟨by rfl, ?_⟩) (?_ : HT _ _ _ _ _ _ _ ⟨#[_, _, _, _, _, _, _, _, _, _, _, _, _, _, _, _, _, _, _, _, _, _, _, _, _, _, _, _, _, _, _, _, _, _, _, _, _, _, _, _, _, _, _, _, _, _, _, _, _, _, _, _, _, _, _, _, _, _, _, _, _, _, _, _, _, _, _, _, _, _, _, _, .pointer (some ⟨b7, 3, none⟩), .slice A2 PL.length c2, _, .int .i64 1, .bool true, .bool true, .slice (some ⟨bv, ov, none⟩) 1 cv, .int .i64 1, .bool true, .bool true, .bool true, .slice (some ⟨bv, ov, none⟩) 1 cv, .pointer (some ⟨bv, ov, none⟩), .string V, .int .i64 V.size, .string via, .int .i64 via.size, .bool true, .bool true, .bool true, .slice (some ⟨bv, ov, none⟩) 1 cv, .pointer (some ⟨bv, ov, none⟩), .string V, .slice (some ⟨bv, ov, none⟩) 1 cv, .pointer (some ⟨bv, ov, none⟩), .string V, .int .i64 V.size, .string via, .int .i64 via.size, _, _, _, _, _, _, _, _, _, _, _, _, _, _, _, _, _, _, _, _, _, _], []⟩ _)
          · intro u hu
            go_simp
          refine HT.take 29 (.int .i64 j) rfl (by kernel_rfl) (fun _ _ _ h => h) (Or.inl ⟨by rfl, ?_⟩) (?_ : HT _ _ _ _ _ _ _ ⟨#[_, _, _, _, _, _, _, _, _, _, _, _, _, _, _, _, _, _, _, _, _, _, _, _, _, _, _, _, _, _, _, _, _, _, _, _, _, _, _, _, _, _, _, _, _, _, _, _, _, _, _, _, _, _, _, _, _, _, _, _, _, _, _, _, _, _, _, _, _, _, _, _, .pointer (some ⟨b7, 3, none⟩), .slice A2 PL.length c2, _, .int .i64 1, .bool true, .bool true, .slice (some ⟨bv, ov, none⟩) 1 cv, .int .i64 1, .bool true, .bool true, .bool true, .slice (some ⟨bv, ov, none⟩) 1 cv, .pointer (some ⟨bv, ov, none⟩), .string V, .int .i64 V.size, .string via, .int .i64 via.size, .bool true, .bool true, .bool true, .slice (some ⟨bv, ov, none⟩) 1 cv, .pointer (some ⟨bv, ov, none⟩), .string V, .slice (some ⟨bv, ov, none⟩) 1 cv, .pointer (some ⟨bv, ov, none⟩), .string V, .int .i64 V.size, .string via, .int .i64 via.size, .int .i64 j, _, _, _, _, _, _, _, _, _, _, _, _, _, _, _, _, _, _, _, _, _], []⟩ _)
          · intro u hu
            go_simp
          refine HT.take 30 (.string via) rfl (by kernel_rfl) (fun _ _ _ h => h) (Or.inl ⟨by rfl, ?_⟩) (?_ : HT _ _ _ _ _ _ _ ⟨#[_, _, _, _, _, _, _, _, _, _, _, _, _, _, _, _, _, _, _, _, _, _, _, _, _, _, _, _, _, _, _, _, _, _, _, _, _, _, _, _, _, _, _, _, _, _, _, _, _, _, _, _, _, _, _, _, _, _, _, _, _, _, _, _, _, _, _, _, _, _, _, _, .pointer (some ⟨b7, 3, none⟩), .slice A2 PL.length c2, _, .int .i64 1, .bool true, .bool true, .slice (some ⟨bv, ov, none⟩) 1 cv, .int .i64 1, .bool true, .bool true, .bool true, .slice (some ⟨bv, ov, none⟩) 1 cv, .pointer (some ⟨bv, ov, none⟩), .string V, .int .i64 V.size, .string via, .int .i64 via.size, .bool true, .bool true, .bool true, .slice (some ⟨bv, ov, none⟩) 1 cv, .pointer (some ⟨bv, ov, none⟩), .string V, .slice (some ⟨bv, ov, none⟩) 1 cv, .pointer (some ⟨bv, ov, none⟩), .string V, .int .i64 V.size, .string via, .int .i64 via.size, .int .i64 j, .string via, _, _, _, _, _, _, _, _, _, _, _, _, _, _, _, _, _, _, _, _], []⟩ _)
          · intro u hu
            go_simp
          refine HT.take 31 (.string via) rfl (by kernel_rfl) (fun _ _ _ h => h) (Or.inl ⟨by rfl, ?_⟩) (?_ : HT _ _ _ _ _ _ _ ⟨#[_, _, _, _, _, _, _, _, _, _, _, _, _, _, _, _, _, _, _, _, _, _, _, _, _, _, _, _, _, _, _, _, _, _, _, _, _, _, _, _, _, _, _, _, _, _, _, _, _, _, _, _, _, _, _, _, _, _, _, _, _, _, _, _, _, _, _, _, _, _, _, _, .pointer (some ⟨b7, 3, none⟩), .slice A2 PL.length c2, _, .int .i64 1, .bool true, .bool true, .slice (some ⟨bv, ov, none⟩) 1 cv, .int .i64 1, .bool true, .bool true, .bool true, .slice (some ⟨bv, ov, none⟩) 1 cv, .pointer (some ⟨bv, ov, none⟩), .string V, .int .i64 V.size, .string via, .int .i64 via.size, .bool true, .bool true, .bool true, .slice (some ⟨bv, ov, none⟩) 1 cv, .pointer (some ⟨bv, ov, none⟩), .string V, .slice (some ⟨bv, ov, none⟩) 1 cv, .pointer (some ⟨bv, ov, none⟩), .string V, .int .i64 V.size, .string via, .int .i64 via.size, .int .i64 j, .string via, .string via, _, _, _, _, _, _, _, _, _, _, _, _, _, _, _, _, _, _, _], []⟩ _)
          · intro u hu
            go_simp
          refine HT.take 32 (.bool true) rfl (by kernel_rfl) (fun _ _ _ h => h) (Or.inl ⟨by rfl, ?_⟩) (?_ : HT _ _ _ _ _ _ _ ⟨#[_, _, _, _, _, _, _, _, _, _, _, _, _, _, _, _, _, _, _, _, _, _, _, _, _, _, _, _, _, _, _, _, _, _, _, _, _, _, _, _, _, _, _, _, _, _, _, _, _, _, _, _, _, _, _, _, _, _, _, _, _, _, _, _, _, _, _, _, _, _, _, _, .pointer (some ⟨b7, 3, none⟩), .slice A2 PL.length c2, _, .int .i64 1, .bool true, .bool true, .slice (some ⟨bv, ov, none⟩) 1 cv, .int .i64 1, .bool true, .bool true, .bool true, .slice (some ⟨bv, ov, none⟩) 1 cv, .pointer (some ⟨bv, ov, none⟩), .string V, .int .i64 V.size, .string via, .int .i64 via.size, .bool true, .bool true, .bool true, .slice (some ⟨bv, ov, none⟩) 1 cv, .pointer (some ⟨bv, ov, none⟩), .string V, .slice (some ⟨bv, ov, none⟩) 1 cv, .pointer (some ⟨bv, ov, none⟩), .string V, .int .i64 V.size, .string via, .int .i64 via.size, .int .i64 j, .string via, .string via, .bool true, _, _, _, _, _, _, _, _, _, _, _, _, _, _, _, _, _, _], []⟩ _)
          · intro u hu
            go_simp
          refine HT.take 33 (.bool true) rfl (by kernel_rfl) (fun _ _ _ h => h) (Or.inl ⟨by rfl, ?_⟩) (?_ : HT _ _ _ _ _ _ _ ⟨#[_, _, _, _, _, _, _, _, _, _, _, _, _, _, _, _, _, _, _, _, _, _, _, _, _, _, _, _, _, _, _, _, _, _, _, _, _, _, _, _, _, _, _, _, _, _, _, _, _, _, _, _, _, _, _, _, _, _, _, _, _, _, _, _, _, _, _, _, _, _, _, _, .pointer (some ⟨b7, 3, none⟩), .slice A2 PL.length c2, _, .int .i64 1, .bool true, .bool true, .slice (some ⟨bv, ov, none⟩) 1 cv, .int .i64 1, .bool true, .bool true, .bool true, .slice (some ⟨bv, ov, none⟩) 1 cv, .pointer (some ⟨bv, ov, none⟩), .string V, .int .i64 V.size, .string via, .int .i64 via.size, .bool true, .bool true, .bool true, .slice (some ⟨bv, ov, none⟩) 1 cv, .pointer (some ⟨bv, ov, none⟩), .string V, .slice (some ⟨bv, ov, none⟩) 1 cv, .pointer (some ⟨bv, ov, none⟩), .string V, .int .i64 V.size, .string via, .int .i64 via.size, .int .i64 j, .string via, .string via, .bool true, .bool true, _, _, _, _, _, _, _, _, _, _, _, _, _, _, _, _, _], []⟩ _)
          · intro u hu
            go_simp
          refine HT.take 34 (.bool true) rfl (by kernel_rfl) (fun _ _ _ h => h) (Or.inl ⟨by rfl, ?_⟩) (?_ : HT _ _ _ _ _ _ _ ⟨#[_, _, _, _, _, _, _, _, _, _, _, _, _, _, _, _, _, _, _, _, _, _, _, _, _, _, _, _, _, _, _, _, _, _, _, _, _, _, _, _, _, _, _, _, _, _, _, _, _, _, _, _, _, _, _, _, _, _, _, _, _, _, _, _, _, _, _, _, _, _, _, _, .pointer (some ⟨b7, 3, none⟩), .slice A2 PL.length c2, _, .int .i64 1, .bool true, .bool true, .slice (some ⟨bv, ov, none⟩) 1 cv, .int .i64 1, .bool true, .bool true, .bool true, .slice (some ⟨bv, ov, none⟩) 1 cv, .pointer (some ⟨bv, ov, none⟩), .string V, .int .i64 V.size, .string via, .int .i64 via.size, .bool true, .bool true, .bool true, .slice (some ⟨bv, ov, none⟩) 1 cv, .pointer (some ⟨bv, ov, none⟩), .string V, .slice (some ⟨bv, ov, none⟩) 1 cv, .pointer (some ⟨bv, ov, none⟩), .string V, .int .i64 V.size, .string via, .int .i64 via.size, .int .i64 j, .string via, .string via, .bool true, .bool true, .bool true, _, _, _, _, _, _, _, _, _, _, _, _, _, _, _, _], []⟩ _)
          · intro u hu
            go_simp
          refine HT.take 35 (.pointer (some ⟨b7, 2, none⟩)) rfl (by kernel_rfl) (fun _ _ _ h => h) (Or.inl ⟨by rfl, ?_⟩) (?_ : HT _ _ _ _ _ _ _ ⟨#[_, _, _, _, _, _, _, _, _, _, _, _, _, _, _, _, _, _, _, _, _, _, _, _, _, _, _, _, _, _, _, _, _, _, _, _, _, _, _, _, _, _, _, _, _, _, _, _, _, _, _, _, _, _, _, _, _, _, _, _, _, _, _, _, _, _, _, _, _, _, _, _, .pointer (some ⟨b7, 3, none⟩), .slice A2 PL.length c2, _, .int .i64 1, .bool true, .bool true, .slice (some ⟨bv, ov, none⟩) 1 cv, .int .i64 1, .bool true, .bool true, .bool true, .slice (some ⟨bv, ov, none⟩) 1 cv, .pointer (some ⟨bv, ov, none⟩), .string V, .int .i64 V.size, .string via, .int .i64 via.size, .bool true, .bool true, .bool true, .slice (some ⟨bv, ov, none⟩) 1 cv, .pointer (some ⟨bv, ov, none⟩), .string V, .slice (some ⟨bv, ov, none⟩) 1 cv, .pointer (some ⟨bv, ov, none⟩), .string V, .int .i64 V.size, .string via, .int .i64 via.size, .int .i64 j, .string via, .string via, .bool true, .bool true, .bool true, .pointer (some ⟨b7, 2, none⟩), _, _, _, _, _, _, _, _, _, _, _, _, _, _, _], []⟩ _)
          · intro u hu
            go_simp
          refine HT.take 36 (.int .i64 1) rfl (by kernel_rfl) (fun _ _ _ h => h) (Or.inl ⟨by rfl, ?_⟩) (?_ : HT _ _ _ _ _ _ _ ⟨#[_, _, _, _, _, _, _, _, _, _, _, _, _, _, _, _, _, _, _, _, _, _, _, _, _, _, _, _, _, _, _, _, _, _, _, _, _, _, _, _, _, _, _, _, _, _, _, _, _, _, _, _, _, _, _, _, _, _, _, _, _, _, _, _, _, _, _, _, _, _, _, _, .pointer (some ⟨b7, 3, none⟩), .slice A2 PL.length c2, _, .int .i64 1, .bool true, .bool true, .slice (some ⟨bv, ov, none⟩) 1 cv, .int .i64 1, .bool true, .bool true, .bool true, .slice (some ⟨bv, ov, none⟩) 1 cv, .pointer (some ⟨bv, ov, none⟩), .string V, .int .i64 V.size, .string via, .int .i64 via.size, .bool true, .bool true, .bool true, .slice (some ⟨bv, ov, none⟩) 1 cv, .pointer (some ⟨bv, ov, none⟩), .string V, .slice (some ⟨bv, ov, none⟩) 1 cv, .pointer (some ⟨bv, ov, none⟩), .string V, .int .i64 V.size, .string via, .int .i64 via.size, .int .i64 j, .string via, .string via, .bool true, .bool true, .bool true, .pointer (some ⟨b7, 2, none⟩), .int .i64 1, _, _, _, _, _, _, _, _, _, _, _, _, _, _], []⟩ _)
          · intro u hu
            obtain ⟨⟨hq, _⟩, _⟩ := hu
            obtain ⟨x0, x1, x2, x3⟩ := hq.cells4
            go_simp
          refine HT.take 37 (.bool true) rfl (by kernel_rfl) (fun _ _ _ h => h) (Or.inl ⟨by rfl, ?_⟩) (?_ : HT _ _ _ _ _ _ _ ⟨#[_, _, _, _, _, _, _, _, _, _, _, _, _, _, _, _, _, _, _, _, _, _, _, _, _, _, _, _, _, _, _, _, _, _, _, _, _, _, _, _, _, _, _, _, _, _, _, _, _, _, _, _, _, _, _, _, _, _, _, _, _, _, _, _, _, _, _, _, _, _, _, _, .pointer (some ⟨b7, 3, none⟩), .slice A2 PL.length c2, _, .int .i64 1, .bool true, .bool true, .slice (some ⟨bv, ov, none⟩) 1 cv, .int .i64 1, .bool true, .bool true, .bool true, .slice (some ⟨bv, ov, none⟩) 1 cv, .pointer (some ⟨bv, ov, none⟩), .string V, .int .i64 V.size, .string via, .int .i64 via.size, .bool true, .bool true, .bool true, .slice (some ⟨bv, ov, none⟩) 1 cv, .pointer (some ⟨bv, ov, none⟩), .string V, .slice (some ⟨bv, ov, none⟩) 1 cv, .pointer (some ⟨bv, ov, none⟩), .string V, .int .i64 V.size, .string via, .int .i64 via.size, .int .i64 j, .string via, .string via, .bool true, .bool true, .bool true, .pointer (some ⟨b7, 2, none⟩), .int .i64 1, .bool true, _, _, _, _, _, _, _, _, _, _, _, _, _], []⟩ _)
          · intro u hu
            go_simp
          refine HT.take 38 (.bool true) rfl (by kernel_rfl) (fun _ _ _ h => h) (Or.inl ⟨by rfl, ?_⟩) (?_ : HT _ _ _ _ _ _ _ ⟨#[_, _, _, _, _, _, _, _, _, _, _, _, _, _, _, _, _, _, _, _, _, _, _, _, _, _, _, _, _, _, _, _, _, _, _, _, _, _, _, _, _, _, _, _, _, _, _, _, _, _, _, _, _, _, _, _, _, _, _, _, _, _, _, _, _, _, _, _, _, _, _, _, .pointer (some ⟨b7, 3, none⟩), .slice A2 PL.length c2, _, .int .i64 1, .bool true, .bool true, .slice (some ⟨bv, ov, none⟩) 1 cv, .int .i64 1, .bool true, .bool true, .bool true, .slice (some ⟨bv, ov, none⟩) 1 cv, .pointer (some ⟨bv, ov, none⟩), .string V, .int .i64 V.size, .string via, .int .i64 via.size, .bool true, .bool true, .bool true, .slice (some ⟨bv, ov, none⟩) 1 cv, .pointer (some ⟨bv, ov, none⟩), .string V, .slice (some ⟨bv, ov, none⟩) 1 cv, .pointer (some ⟨bv, ov, none⟩), .string V, .int .i64 V.size, .string via, .int .i64 via.size, .int .i64 j, .string via, .string via, .bool true, .bool true, .bool true, .pointer (some ⟨b7, 2, none⟩), .int .i64 1, .bool true, .bool true, _, _, _, _, _, _, _, _, _, _, _, _], []⟩ _)
          · intro u hu
            go_simp
          refine HT.take 39 (.bool true) rfl (by kernel_rfl) (fun _ _ _ h => h) (Or.inl ⟨by rfl, ?_⟩) (?_ : HT _ _ _ _ _ _ _ ⟨#[_, _, _, _, _, _, _, _, _, _, _, _, _, _, _, _, _, _, _, _, _, _, _, _, _, _, _, _, _, _, _, _, _, _, _, _, _, _, _, _, _, _, _, _, _, _, _, _, _, _, _, _, _, _, _, _, _, _, _, _, _, _, _, _, _, _, _, _, _, _, _, _, .pointer (some ⟨b7, 3, none⟩), .slice A2 PL.length c2, _, .int .i64 1, .bool true, .bool true, .slice (some ⟨bv, ov, none⟩) 1 cv, .int .i64 1, .bool true, .bool true, .bool true, .slice (some ⟨bv, ov, none⟩) 1 cv, .pointer (some ⟨bv, ov, none⟩), .string V, .int .i64 V.size, .string via, .int .i64 via.size, .bool true, .bool true, .bool true, .slice (some ⟨bv, ov, none⟩) 1 cv, .pointer (some ⟨bv, ov, none⟩), .string V, .slice (some ⟨bv, ov, none⟩) 1 cv, .pointer (some ⟨bv, ov, none⟩), .string V, .int .i64 V.size, .string via, .int .i64 via.size, .int .i64 j, .string via, .string via, .bool true, .bool true, .bool true, .pointer (some ⟨b7, 2, none⟩), .int .i64 1, .bool true, .bool true, .bool true, _, _, _, _, _, _, _, _, _, _, _], []⟩ _)
          · intro u hu
            go_simp
          refine HT.take 40 (.pointer (some ⟨b7, 0, none⟩)) rfl (by kernel_rfl) (fun _ _ _ h => h) (Or.inl ⟨by rfl, ?_⟩) (?_ : HT _ _ _ _ _ _ _ ⟨#[_, _, _, _, _, _, _, _, _, _, _, _, _, _, _, _, _, _, _, _, _, _, _, _, _, _, _, _, _, _, _, _, _, _, _, _, _, _, _, _, _, _, _, _, _, _, _, _, _, _, _, _, _, _, _, _, _, _, _, _, _, _, _, _, _, _, _, _, _, _, _, _, .pointer (some ⟨b7, 3, none⟩), .slice A2 PL.length c2, _, .int .i64 1, .bool true, .bool true, .slice (some ⟨bv, ov, none⟩) 1 cv, .int .i64 1, .bool true, .bool true, .bool true, .slice (some ⟨bv, ov, none⟩) 1 cv, .pointer (some ⟨bv, ov, none⟩), .string V, .int .i64 V.size, .string via, .int .i64 via.size, .bool true, .bool true, .bool true, .slice (some ⟨bv, ov, none⟩) 1 cv, .pointer (some ⟨bv, ov, none⟩), .string V, .slice (some ⟨bv, ov, none⟩) 1 cv, .pointer (some ⟨bv, ov, none⟩), .string V, .int .i64 V.size, .string via, .int .i64 via.size, .int .i64 j, .string via, .string via, .bool true, .bool true, .bool true, .pointer (some ⟨b7, 2, none⟩), .int .i64 1, .bool true, .bool true, .bool true, .pointer (some ⟨b7, 0, none⟩), _, _, _, _, _, _, _, _, _, _], []⟩ _)
          · intro u hu
            go_simp
          refine HT.take 41 (.string s) rfl (by kernel_rfl) (fun _ _ _ h => h) (Or.inl ⟨by rfl, ?_⟩) (?_ : HT _ _ _ _ _ _ _ ⟨#[_, _, _, _, _, _, _, _, _, _, _, _, _, _, _, _, _, _, _, _, _, _, _, _, _, _, _, _, _, _, _, _, _, _, _, _, _, _, _, _, _, _, _, _, _, _, _, _, _, _, _, _, _, _, _, _, _, _, _, _, _, _, _, _, _, _, _, _, _, _, _, _, .pointer (some ⟨b7, 3, none⟩), .slice A2 PL.length c2, _, .int .i64 1, .bool true, .bool true, .slice (some ⟨bv, ov, none⟩) 1 cv, .int .i64 1, .bool true, .bool true, .bool true, .slice (some ⟨bv, ov, none⟩) 1 cv, .pointer (some ⟨bv, ov, none⟩), .string V, .int .i64 V.size, .string via, .int .i64 via.size, .bool true, .bool true, .bool true, .slice (some ⟨bv, ov, none⟩) 1 cv, .pointer (some ⟨bv, ov, none⟩), .string V, .slice (some ⟨bv, ov, none⟩) 1 cv, .pointer (some ⟨bv, ov, none⟩), .string V, .int .i64 V.size, .string via, .int .i64 via.size, .int .i64 j, .string via, .string via, .bool true, .bool true, .bool true, .pointer (some ⟨b7, 2, none⟩), .int .i64 1, .bool true, .bool true, .bool true, .pointer (some ⟨b7, 0, none⟩), .string s, _, _, _, _, _, _, _, _, _], []⟩ _)
          · intro u hu
            obtain ⟨⟨hq, _⟩, _⟩ := hu
            obtain ⟨x0, x1, x2, x3⟩ := hq.cells4
            go_simp
          refine HT.take 42 (.pointer (some ⟨w.heap.size, 0, none⟩)) rfl (by kernel_rfl) (fun _ _ _ h => h) (Or.inl ⟨by rfl, ?_⟩) (?_ : HT _ _ _ _ _ _ _ ⟨#[_, _, _, _, _, _, _, _, _, _, _, _, _, _, _, _, _, _, _, _, _, _, _, _, _, _, _, _, _, _, _, _, _, _, _, _, _, _, _, _, _, _, _, _, _, _, _, _, _, _, _, _, _, _, _, _, _, _, _, _, _, _, _, _, _, _, _, _, _, _, _, _, .pointer (some ⟨b7, 3, none⟩), .slice A2 PL.length c2, _, .int .i64 1, .bool true, .bool true, .slice (some ⟨bv, ov, none⟩) 1 cv, .int .i64 1, .bool true, .bool true, .bool true, .slice (some ⟨bv, ov, none⟩) 1 cv, .pointer (some ⟨bv, ov, none⟩), .string V, .int .i64 V.size, .string via, .int .i64 via.size, .bool true, .bool true, .bool true, .slice (some ⟨bv, ov, none⟩) 1 cv, .pointer (some ⟨bv, ov, none⟩), .string V, .slice (some ⟨bv, ov, none⟩) 1 cv, .pointer (some ⟨bv, ov, none⟩), .string V, .int .i64 V.size, .string via, .int .i64 via.size, .int .i64 j, .string via, .string via, .bool true, .bool true, .bool true, .pointer (some ⟨b7, 2, none⟩), .int .i64 1, .bool true, .bool true, .bool true, .pointer (some ⟨b7, 0, none⟩), .string s, .pointer (some ⟨w.heap.size, 0, none⟩), _, _, _, _, _, _, _, _], []⟩ _)
          · intro u hu
            go_simp
          refine HT.take 43 (.string s) rfl (by kernel_rfl) (fun _ _ _ h => h) (Or.inl ⟨by rfl, ?_⟩) (?_ : HT _ _ _ _ _ _ _ ⟨#[_, _, _, _, _, _, _, _, _, _, _, _, _, _, _, _, _, _, _, _, _, _, _, _, _, _, _, _, _, _, _, _, _, _, _, _, _, _, _, _, _, _, _, _, _, _, _, _, _, _, _, _, _, _, _, _, _, _, _, _, _, _, _, _, _, _, _, _, _, _, _, _, .pointer (some ⟨b7, 3, none⟩), .slice A2 PL.length c2, _, .int .i64 1, .bool true, .bool true, .slice (some ⟨bv, ov, none⟩) 1 cv, .int .i64 1, .bool true, .bool true, .bool true, .slice (some ⟨bv, ov, none⟩) 1 cv, .pointer (some ⟨bv, ov, none⟩), .string V, .int .i64 V.size, .string via, .int .i64 via.size, .bool true, .bool true, .bool true, .slice (some ⟨bv, ov, none⟩) 1 cv, .pointer (some ⟨bv, ov, none⟩), .string V, .slice (some ⟨bv, ov, none⟩) 1 cv, .pointer (some ⟨bv, ov, none⟩), .string V, .int .i64 V.size, .string via, .int .i64 via.size, .int .i64 j, .string via, .string via, .bool true, .bool true, .bool true, .pointer (some ⟨b7, 2, none⟩), .int .i64 1, .bool true, .bool true, .bool true, .pointer (some ⟨b7, 0, none⟩), .string s, .pointer (some ⟨w.heap.size, 0, none⟩), .string s, _, _, _, _, _, _, _], []⟩ _)
          · intro u hu
            obtain ⟨⟨_, _, hq, _⟩, _⟩ := hu
            obtain ⟨x0, x1, x2, x3⟩ := hq.cells4
            go_simp
          refine HT.take 44 (.bool true) rfl (by kernel_rfl) (fun _ _ _ h => h) (Or.inl ⟨by rfl, ?_⟩) (?_ : HT _ _ _ _ _ _ _ ⟨#[_, _, _, _, _, _, _, _, _, _, _, _, _, _, _, _, _, _, _, _, _, _, _, _, _, _, _, _, _, _, _, _, _, _, _, _, _, _, _, _, _, _, _, _, _, _, _, _, _, _, _, _, _, _, _, _, _, _, _, _, _, _, _, _, _, _, _, _, _, _, _, _, .pointer (some ⟨b7, 3, none⟩), .slice A2 PL.length c2, _, .int .i64 1, .bool true, .bool true, .slice (some ⟨bv, ov, none⟩) 1 cv, .int .i64 1, .bool true, .bool true, .bool true, .slice (some ⟨bv, ov, none⟩) 1 cv, .pointer (some ⟨bv, ov, none⟩), .string V, .int .i64 V.size, .string via, .int .i64 via.size, .bool true, .bool true, .bool true, .slice (some ⟨bv, ov, none⟩) 1 cv, .pointer (some ⟨bv, ov, none⟩), .string V, .slice (some ⟨bv, ov, none⟩) 1 cv, .pointer (some ⟨bv, ov, none⟩), .string V, .int .i64 V.size, .string via, .int .i64 via.size, .int .i64 j, .string via, .string via, .bool true, .bool true, .bool true, .pointer (some ⟨b7, 2, none⟩), .int .i64 1, .bool true, .bool true, .bool true, .pointer (some ⟨b7, 0, none⟩), .string s, .pointer (some ⟨w.heap.size, 0, none⟩), .string s, .bool true, _, _, _, _, _, _], []⟩ _)
          · intro u hu
            go_simp
          refine HT.take 45 (.bool true) rfl (by kernel_rfl) (fun _ _ _ h => h) (Or.inl ⟨by rfl, ?_⟩) (?_ : HT _ _ _ _ _ _ _ ⟨#[_, _, _, _, _, _, _, _, _, _, _, _, _, _, _, _, _, _, _, _, _, _, _, _, _, _, _, _, _, _, _, _, _, _, _, _, _, _, _, _, _, _, _, _, _, _, _, _, _, _, _, _, _, _, _, _, _, _, _, _, _, _, _, _, _, _, _, _, _, _, _, _, .pointer (some ⟨b7, 3, none⟩), .slice A2 PL.length c2, _, .int .i64 1, .bool true, .bool true, .slice (some ⟨bv, ov, none⟩) 1 cv, .int .i64 1, .bool true, .bool true, .bool true, .slice (some ⟨bv, ov, none⟩) 1 cv, .pointer (some ⟨bv, ov, none⟩), .string V, .int .i64 V.size, .string via, .int .i64 via.size, .bool true, .bool true, .bool true, .slice (some ⟨bv, ov, none⟩) 1 cv, .pointer (some ⟨bv, ov, none⟩), .string V, .slice (some ⟨bv, ov, none⟩) 1 cv, .pointer (some ⟨bv, ov, none⟩), .string V, .int .i64 V.size, .string via, .int .i64 via.size, .int .i64 j, .string via, .string via, .bool true, .bool true, .bool true, .pointer (some ⟨b7, 2, none⟩), .int .i64 1, .bool true, .bool true, .bool true, .pointer (some ⟨b7, 0, none⟩), .string s, .pointer (some ⟨w.heap.size, 0, none⟩), .string s, .bool true, .bool true, _, _, _, _, _], []⟩ _)
          · intro u hu
            go_simp
          refine HT.take 46 (.bool true) rfl (by kernel_rfl) (fun _ _ _ h => h) (Or.inl ⟨by rfl, ?_⟩) (?_ : HT _ _ _ _ _ _ _ ⟨#[_, _, _, _, _, _, _, _, _, _, _, _, _, _, _, _, _, _, _, _, _, _, _, _, _, _, _, _, _, _, _, _, _, _, _, _, _, _, _, _, _, _, _, _, _, _, _, _, _, _, _, _, _, _, _, _, _, _, _, _, _, _, _, _, _, _, _, _, _, _, _, _, .pointer (some ⟨b7, 3, none⟩), .slice A2 PL.length c2, _, .int .i64 1, .bool true, .bool true, .slice (some ⟨bv, ov, none⟩) 1 cv, .int .i64 1, .bool true, .bool true, .bool true, .slice (some ⟨bv, ov, none⟩) 1 cv, .pointer (some ⟨bv, ov, none⟩), .string V, .int .i64 V.size, .string via, .int .i64 via.size, .bool true, .bool true, .bool true, .slice (some ⟨bv, ov, none⟩) 1 cv, .pointer (some ⟨bv, ov, none⟩), .string V, .slice (some ⟨bv, ov, none⟩) 1 cv, .pointer (some ⟨bv, ov, none⟩), .string V, .int .i64 V.size, .string via, .int .i64 via.size, .int .i64 j, .string via, .string via, .bool true, .bool true, .bool true, .pointer (some ⟨b7, 2, none⟩), .int .i64 1, .bool true, .bool true, .bool true, .pointer (some ⟨b7, 0, none⟩), .string s, .pointer (some ⟨w.heap.size, 0, none⟩), .string s, .bool true, .bool true, .bool true, _, _, _, _], []⟩ _)
          · intro u hu
            go_simp
          refine HT.take 47 (.pointer (some ⟨b7, 1, none⟩)) rfl (by kernel_rfl) (fun _ _ _ h => h) (Or.inl ⟨by rfl, ?_⟩) (?_ : HT _ _ _ _ _ _ _ ⟨#[_, _, _, _, _, _, _, _, _, _, _, _, _, _, _, _, _, _, _, _, _, _, _, _, _, _, _, _, _, _, _, _, _, _, _, _, _, _, _, _, _, _, _, _, _, _, _, _, _, _, _, _, _, _, _, _, _, _, _, _, _, _, _, _, _, _, _, _, _, _, _, _, .pointer (some ⟨b7, 3, none⟩), .slice A2 PL.length c2, _, .int .i64 1, .bool true, .bool true, .slice (some ⟨bv, ov, none⟩) 1 cv, .int .i64 1, .bool true, .bool true, .bool true, .slice (some ⟨bv, ov, none⟩) 1 cv, .pointer (some ⟨bv, ov, none⟩), .string V, .int .i64 V.size, .string via, .int .i64 via.size, .bool true, .bool true, .bool true, .slice (some ⟨bv, ov, none⟩) 1 cv, .pointer (some ⟨bv, ov, none⟩), .string V, .slice (some ⟨bv, ov, none⟩) 1 cv, .pointer (some ⟨bv, ov, none⟩), .string V, .int .i64 V.size, .string via, .int .i64 via.size, .int .i64 j, .string via, .string via, .bool true, .bool true, .bool true, .pointer (some ⟨b7, 2, none⟩), .int .i64 1, .bool true, .bool true, .bool true, .pointer (some ⟨b7, 0, none⟩), .string s, .pointer (some ⟨w.heap.size, 0, none⟩), .string s, .bool true, .bool true, .bool true, .pointer (some ⟨b7, 1, none⟩), _, _, _], []⟩ _)
          · intro u hu
            go_simp
          refine HT.take 48 (.string p7) rfl (by kernel_rfl) (fun _ _ _ h => h) (Or.inl ⟨by rfl, ?_⟩) (?_ : HT _ _ _ _ _ _ _ ⟨#[_, _, _, _, _, _, _, _, _, _, _, _, _, _, _, _, _, _, _, _, _, _, _, _, _, _, _, _, _, _, _, _, _, _, _, _, _, _, _, _, _, _, _, _, _, _, _, _, _, _, _, _, _, _, _, _, _, _, _, _, _, _, _, _, _, _, _, _, _, _, _, _, .pointer (some ⟨b7, 3, none⟩), .slice A2 PL.length c2, _, .int .i64 1, .bool true, .bool true, .slice (some ⟨bv, ov, none⟩) 1 cv, .int .i64 1, .bool true, .bool true, .bool true, .slice (some ⟨bv, ov, none⟩) 1 cv, .pointer (some ⟨bv, ov, none⟩), .string V, .int .i64 V.size, .string via, .int .i64 via.size, .bool true, .bool true, .bool true, .slice (some ⟨bv, ov, none⟩) 1 cv, .pointer (some ⟨bv, ov, none⟩), .string V, .slice (some ⟨bv, ov, none⟩) 1 cv, .pointer (some ⟨bv, ov, none⟩), .string V, .int .i64 V.size, .string via, .int .i64 via.size, .int .i64 j, .string via, .string via, .bool true, .bool true, .bool true, .pointer (some ⟨b7, 2, none⟩), .int .i64 1, .bool true, .bool true, .bool true, .pointer (some ⟨b7, 0, none⟩), .string s, .pointer (some ⟨w.heap.size, 0, none⟩), .string s, .bool true, .bool true, .bool true, .pointer (some ⟨b7, 1, none⟩), .string p7, _, _], []⟩ _)
          · intro u hu
            obtain ⟨⟨hq, _⟩, _⟩ := hu
            obtain ⟨x0, x1, x2, x3⟩ := hq.cells4
            go_simp
          refine HT.take 49 (.bool true) rfl (by kernel_rfl) (fun _ _ _ h => h) (Or.inl ⟨by rfl, ?_⟩) (?_ : HT _ _ _ _ _ _ _ ⟨#[_, _, _, _, _, _, _, _, _, _, _, _, _, _, _, _, _, _, _, _, _, _, _, _, _, _, _, _, _, _, _, _, _, _, _, _, _, _, _, _, _, _, _, _, _, _, _, _, _, _, _, _, _, _, _, _, _, _, _, _, _, _, _, _, _, _, _, _, _, _, _, _, .pointer (some ⟨b7, 3, none⟩), .slice A2 PL.length c2, _, .int .i64 1, .bool true, .bool true, .slice (some ⟨bv, ov, none⟩) 1 cv, .int .i64 1, .bool true, .bool true, .bool true, .slice (some ⟨bv, ov, none⟩) 1 cv, .pointer (some ⟨bv, ov, none⟩), .string V, .int .i64 V.size, .string via, .int .i64 via.size, .bool true, .bool true, .bool true, .slice (some ⟨bv, ov, none⟩) 1 cv, .pointer (some ⟨bv, ov, none⟩), .string V, .slice (some ⟨bv, ov, none⟩) 1 cv, .pointer (some ⟨bv, ov, none⟩), .string V, .int .i64 V.size, .string via, .int .i64 via.size, .int .i64 j, .string via, .string via, .bool true, .bool true, .bool true, .pointer (some ⟨b7, 2, none⟩), .int .i64 1, .bool true, .bool true, .bool true, .pointer (some ⟨b7, 0, none⟩), .string s, .pointer (some ⟨w.heap.size, 0, none⟩), .string s, .bool true, .bool true, .bool true, .pointer (some ⟨b7, 1, none⟩), .string p7, .bool true, _], []⟩ _)
          · intro u hu
            go_simp
          refine HT.take 50 (.bool true) rfl (by kernel_rfl) (fun _ _ _ h => h) (Or.inl ⟨by rfl, ?_⟩) (?_ : HT _ _ _ _ _ _ _ ⟨#[_, _, _, _, _, _, _, _, _, _, _, _, _, _, _, _, _, _, _, _, _, _, _, _, _, _, _, _, _, _, _, _, _, _, _, _, _, _, _, _, _, _, _, _, _, _, _, _, _, _, _, _, _, _, _, _, _, _, _, _, _, _, _, _, _, _, _, _, _, _, _, _, .pointer (some ⟨b7, 3, none⟩), .slice A2 PL.length c2, _, .int .i64 1, .bool true, .bool true, .slice (some ⟨bv, ov, none⟩) 1 cv, .int .i64 1, .bool true, .bool true, .bool true, .slice (some ⟨bv, ov, none⟩) 1 cv, .pointer (some ⟨bv, ov, none⟩), .string V, .int .i64 V.size, .string via, .int .i64 via.size, .bool true, .bool true, .bool true, .slice (some ⟨bv, ov, none⟩) 1 cv, .pointer (some ⟨bv, ov, none⟩), .string V, .slice (some ⟨bv, ov, none⟩) 1 cv, .pointer (some ⟨bv, ov, none⟩), .string V, .int .i64 V.size, .string via, .int .i64 via.size, .int .i64 j, .string via, .string via, .bool true, .bool true, .bool true, .pointer (some ⟨b7, 2, none⟩), .int .i64 1, .bool true, .bool true, .bool true, .pointer (some ⟨b7, 0, none⟩), .string s, .pointer (some ⟨w.heap.size, 0, none⟩), .string s, .bool true, .bool true, .bool true, .pointer (some ⟨b7, 1, none⟩), .string p7, .bool true, .bool true], []⟩ _)
          · intro u hu
            go_simp
          refine HT.tail _ rfl rfl (by kernel_rfl) (fun hS => ?_)
          have HB := Lib.hid hS.1.2.2.2
          clear hS
          go_wp2
          refine NoPanic.normal ?_
          go_wp2
          go_ret
          exact ⟨rfl, HB.out⟩
end Go.Proofs.YtcoohkgamogmgaaDoor
