/- The walk of the law HopAsked (printed by gen/hopas.py). Conditions: lists of bulk at most 2^20, texts and bodies of at most 2^20 bytes, numbers of 64 bits; the library's tables of UTF-8 and of powers of ten; internal/bytealg.MaxLen; strconv's two error variables. -/
import Derived.Test.YteehjkfmlcfffaaGreatDoorSendA
import Derived.Test.YteehjkfmlcfffaaGreatDoorHopPA
import Derived.Test.YteehjkfmlcfffaaGreatDoorAskA
import Derived.Test.YteehjkfmlcfffaaGreatDoorMsgA
import Derived.Test.YteehjkfmlcfffaaGreatDoorInboxE
namespace Go.Proofs.YteehjkfmlcfffaaGreatDoor
open Go.RowKit

set_option maxRecDepth 100000 in
set_option maxHeartbeats 4000000 in
theorem hopAsked_any (s r via host path : ByteArray) (m port : Int) (A : Option Addr) (c : Nat) (fs : List FD) (B0 : Option Addr) (e0 : Nat) (body : List UInt8) (C0 : Option Addr) (f0 : Nat) (rest : List UInt8) (w : World)
    (hs : s.size ≤ 1048576) (hpz : path.size ≤ 1048576) (hf : F.bulk fs ≤ 1048576) (hx : Rd w A fs.length 2 (fcells fs))
    (h0 : -9223372036854775808 ≤ m) (h1 : m ≤ 9223372036854775807) (p0 : -9223372036854775808 ≤ port) (p1 : port ≤ 9223372036854775807) (hv : via.size ≤ 1048576) (hh : host.size ≤ 1048576)
    (hbl : body.length ≤ 1048576) (hbx : Rd w B0 body.length 1 (bcells body)) (hrl : rest.length ≤ 1048576) (hrx : Rd w C0 rest.length 1 (bcells rest)) (ht : TabOk w) (hlib : LibOk w) (he : ErrOk w) :
    Calls Tryz.prog 8 #[.agg #[.string s, .string r, .int .i64 m, .slice A fs.length c], .agg #[.string host, .int .i64 port, .string path], .string via, .slice B0 body.length e0, .slice C0 rest.length f0] w (RetB w true) := by
  have zH := hostOf_size host port p0 p1
  have zV := viaOf_size fs m via h0 h1
  have hn := F.len_le_bulk fs
  have zP := F.bulk_sent fs m via host port
  have zT : (F.pathOf path).size ≤ 1048576 := by
    unfold F.pathOf
    split
    · decide
    · exact hpz
  have HA := Lib.hid (fun (w' : World) (hb : Below w.heap.size w w') => alive_any w' (ht.below hb))
  have H1 := Lib.hid (fun (w' : World) (hb : Below w.heap.size w w') => copyRequest_any m s r A fs.length c fs w' rfl (by omega) (hx.below hb))
  have H3 := Lib.hid (fun (A1 : Option Addr) (c1 : Nat) (w' : World) (hb : Below w.heap.size w w') (hx1 : Rd w' A1 fs.length 2 (fcells fs)) (hn1 : A1 = none → fs.length = 0 ∧ c1 = 0) => hopRequest_any s r via host path m port A1 fs.length c1 fs w' rfl hf hx1 hn1 h0 h1 p0 p1 hv hh (ht.below hb))
  have HCB := Lib.hid (fun (u : World) (hb : Below w.heap.size w u) => copyBytes_any B0 e0 body u (by omega) (hbx.below hb))
  have HBX := Lib.hid (fun (u : World) (hb : Below w.heap.size w u) => hbx.below hb)
  have HRX := Lib.hid (fun (u : World) (hb : Below w.heap.size w u) => hrx.below hb)
  have HAK := Lib.hid (fun (A1 : Option Addr) (c1 : Nat) (hn1 : A1 = none → (F.sent fs m via host port).length = 0 ∧ c1 = 0) (C : Option Addr) (d : Nat) (u : World) (hb : Below w.heap.size w u) (hx1 : Rd u A1 (F.sent fs m via host port).length 2 (fcells (F.sent fs m via host port))) (hx2 : Rd u C body.length 1 (bcells body)) => ask_any s (F.pathOf path) 1 A1 c1 (F.sent fs m via host port) C d body u hs zT (by decide) (by decide) (by omega) hx1 hn1 hbl hx2 (ht.below hb))
  have HINB := Lib.hid (fun (A1 : Option Addr) (c1 : Nat) (b0 : Nat) (bs : List UInt8) (hbs : bs.length ≤ 268435456) (u : World) (hu : Below w.heap.size w u) (hr : CRow u b0 A1 bs.length c1 bs) => inboxRequest_any A1 bs.length c1 bs u hbs hr.2.1 hr.nilE hr.spotE hr.rd (hlib.below hu) (he.below hu))
  have hpl := askB_len s (F.pathOf path) 1 (F.sent fs m via host port) body
  have HEN : F.askE s (F.pathOf path) 1 (F.sent fs m via host port) body.length ≠ 0 → F.askB s (F.pathOf path) 1 (F.sent fs m via host port) body = [] := fun h => by unfold F.askB; rw [if_neg h]
  have HRD := fun h => M.ask_round (s := s) (t := F.pathOf path) (fs := fs) (m := m) (via := via) (host := host) (port := port) (bd := body) h rest
  generalize F.askE s (F.pathOf path) 1 (F.sent fs m via host port) body.length = PE at *
  generalize F.askB s (F.pathOf path) 1 (F.sent fs m via host port) body = PB at *
  generalize F.askF s (F.sent fs m via host port) body.length = GS at *
  generalize F.sent fs m via host port = PL at *
  generalize F.pathOf path = p7 at *
  have HRD := Lib.hid HRD
  have HEN := Lib.hid HEN
  clear zH zV zP zT hx hbx hrx h0 h1 p0 p1 hv hh ht hlib he hf hs hpz
  go_enter Tryz.func8, Tryz.ntmps8
  go_wp2_with fail
  have HS0 := Lib.hid (Two.start w #[.string s, .string r, .int .i64 m, .slice A fs.length c] 25 #[.string host, .int .i64 port, .string path] 66)
  generalize (w.alloc (.cells #[.string s, .string r, .int .i64 m, .slice A fs.length c] 25)).alloc (.cells #[.string host, .int .i64 port, .string path] 66) = w0 at *
  refine (HA.out _ HS0.out.2.2).mono ?_
  rintro e w1 ⟨rfl, hb1⟩
  have HS1 := Lib.hid (HS0.out.below hb1)
  clear HS0 hb1 HA
  go_wp2
  have hS0 := HS1.out.drew
  refine wp_region_noPanic ?_
  refine HT.begin (n := 6) (S := Two w #[.string s, .string r, .int .i64 m, .slice A fs.length c] 25 #[.string host, .int .i64 port, .string path] 66) (by kernel_rfl) hS0 ?_
  refine HT.take 0 (.agg #[.string s, .string r, .int .i64 m, .slice A fs.length c]) rfl (by kernel_rfl) (fun _ _ _ h => h) (Or.inl ⟨by rfl, ?_⟩) (?_ : HT _ _ _ _ _ _ _ ⟨#[_, _, _, _, _, _, _, _, _, _, _, _, _, _, _, _, _, _, _, _, _, .agg #[.string s, .string r, .int .i64 m, .slice A fs.length c], _, _, _, _, _, _, _, _, _, _, _, _, _, _, _, _, _, _, _, _, _, _, _, _, _, _, _, _, _, _, _, _, _, _, _, _, _, _, _, _, _, _, _, _, _, _, _, _, _, _, _, _, _, _, _, _, _, _], []⟩ _)
  · intro u hu
    obtain ⟨hq, ht, hb⟩ := hu
    obtain ⟨x0, x1, x2, x3⟩ := hq.cells4
    go_simp
  refine HT.take 2 (.agg #[.string host, .int .i64 port, .string path]) rfl (by kernel_rfl) (fun _ _ _ h => h) (Or.inl ⟨by rfl, ?_⟩) (?_ : HT _ _ _ _ _ _ _ ⟨#[_, _, _, _, _, _, _, _, _, _, _, _, _, _, _, _, _, _, _, _, _, .agg #[.string s, .string r, .int .i64 m, .slice A fs.length c], _, .agg #[.string host, .int .i64 port, .string path], _, _, _, _, _, _, _, _, _, _, _, _, _, _, _, _, _, _, _, _, _, _, _, _, _, _, _, _, _, _, _, _, _, _, _, _, _, _, _, _, _, _, _, _, _, _, _, _, _, _, _, _, _, _, _, _], []⟩ _)
  · intro u hu
    obtain ⟨hq, ht, hb⟩ := hu
    obtain ⟨x0, x1, x2⟩ := ht.cells3
    go_simp
  refine HT.take 3 (.string via) rfl (by kernel_rfl) (fun _ _ _ h => h) (Or.inl ⟨by rfl, ?_⟩) (?_ : HT _ _ _ _ _ _ _ ⟨#[_, _, _, _, _, _, _, _, _, _, _, _, _, _, _, _, _, _, _, _, _, .agg #[.string s, .string r, .int .i64 m, .slice A fs.length c], _, .agg #[.string host, .int .i64 port, .string path], .string via, _, _, _, _, _, _, _, _, _, _, _, _, _, _, _, _, _, _, _, _, _, _, _, _, _, _, _, _, _, _, _, _, _, _, _, _, _, _, _, _, _, _, _, _, _, _, _, _, _, _, _, _, _, _, _], []⟩ _)
  · intro u hu
    go_simp
  refine HT.block (f0 := 1) [1, 4, 5] (fun j v u => match j with | 1 => ∃ A1 c1, v = .agg #[.string s, .string r, .int .i64 m, .slice A1 fs.length c1] ∧ Rd u A1 fs.length 2 (fcells fs) ∧ (A1 = none → fs.length = 0 ∧ c1 = 0) | 4 => ∃ A2 c2, v = .agg #[.string s, .string p7, .int .i64 1, .slice A2 PL.length c2] ∧ Row u w.heap.size 148 2 A2 PL.length c2 (fcells PL) | 5 => PtrBlk (w.heap.size + 2) #[.string ⟨#[]⟩, .string ⟨#[]⟩, .int .i64 0, .slice none 0 0] 25 v u | _ => True) (fun vs => ⟨#[_, _, _, _, _, _, _, _, _, _, _, vs 5, _, _, _, _, _, _, _, _, _, .agg #[.string s, .string r, .int .i64 m, .slice A fs.length c], vs 1, .agg #[.string host, .int .i64 port, .string path], .string via, vs 4, _, _, _, _, _, _, _, _, _, _, _, _, _, _, _, _, _, _, _, _, _, _, _, _, _, _, _, _, _, _, _, _, _, _, _, _, _, _, _, _, _, _, _, _, _, _, _, _, _, _, _, _, _, _], []⟩) (fun _ => rfl) (by kernel_rfl) (fun u u' hb h => h.below hb) (fun j v u u' hb h => by revert h; split <;> intro h <;> first | exact h.below hb | (obtain ⟨A1, c1, hv, hr, hn⟩ := h; exact ⟨A1, c1, hv, hr.below hb, hn⟩) | (obtain ⟨A1, c1, hv, hr⟩ := h; exact ⟨A1, c1, hv, hr.below hb⟩) | trivial) (List.forall_mem_cons.2 ⟨⟨_, rfl, ?_⟩, List.forall_mem_cons.2 ⟨⟨_, rfl, ?_⟩, List.forall_mem_cons.2 ⟨⟨_, rfl, ?_⟩, fun _ h => by cases h⟩⟩⟩) ?_
  · intro vs u hS hd K hK
    go_simp
    refine (H1.out u hS.2.2).mono ?_
    rintro e w5 ⟨A1, c1, rfl, hr, hb⟩
    exact hK.out (.agg #[.string s, .string r, .int .i64 m, .slice A1 fs.length c1]) _ ⟨A1, c1, rfl, hr.rd, fun h => hr.nilB h⟩ hb
  · intro vs u hS hd K hK
    obtain ⟨A1, c1, e1, hr1, hn1⟩ : (fun v u => ∃ A1 c1, v = .agg #[.string s, .string r, .int .i64 m, .slice A1 fs.length c1] ∧ Rd u A1 fs.length 2 (fcells fs) ∧ (A1 = none → fs.length = 0 ∧ c1 = 0)) (vs 1) u := hd 1 (by simp) (by kernel_rfl)
    have hc := H3.out A1 c1 u hS.2.2 hr1 hn1
    rw [← e1] at hc
    clear e1 hd
    have HC := Lib.hid hc
    clear hc
    go_simp
    refine HC.out.mono ?_
    rintro e w5 ⟨A2, c2, rfl, hr, hb⟩
    exact hK.out (.agg #[.string s, .string p7, .int .i64 1, .slice A2 PL.length c2]) _ ⟨A2, c2, rfl, hr.mono hS.2.2.size⟩ hb
  · intro vs u hS hd K hK
    go_simp
    exact hK.out (.pointer (some ⟨u.heap.size, 0, none⟩)) _ ⟨_, rfl, hS.size, Blk.new u _ _⟩ ((Below.refl _ _).alloc (Nat.le_refl _) _)
  intro vs u hS hR
  have hv22 := hR 1 (by simp)
  generalize vs 1 = v22 at *
  have hv25 := hR 4 (by simp)
  generalize vs 4 = v25 at *
  have hv11 := hR 5 (by simp)
  generalize vs 5 = v11 at *
  clear hR
  refine (?_ : HT _ _ _ _ _ _ _ ⟨#[_, _, _, _, _, _, _, _, _, _, _, v11, _, _, _, _, _, _, _, _, _, .agg #[.string s, .string r, .int .i64 m, .slice A fs.length c], v22, .agg #[.string host, .int .i64 port, .string path], .string via, v25, _, _, _, _, _, _, _, _, _, _, _, _, _, _, _, _, _, _, _, _, _, _, _, _, _, _, _, _, _, _, _, _, _, _, _, _, _, _, _, _, _, _, _, _, _, _, _, _, _, _, _, _, _, _], []⟩ _)
  obtain ⟨A1, c1, rfl, _, _⟩ := hv22
  obtain ⟨A2, c2, rfl, hr2⟩ := hv25
  obtain ⟨b7, rfl, hb7, hk7⟩ := hv11
  refine HT.tail _ rfl rfl (by kernel_rfl) (fun hS => ?_)
  have HNA := Lib.hid (fun h => hr2.nilB h)
  have HS5 : Hid (CleanS w b7 #[.string s, .string r, .int .i64 m, .slice A fs.length c] #[.string s, .string p7, .int .i64 1, .slice A2 PL.length c2] A2 PL ((((u.setCell ⟨b7, 0, none⟩ (.string s)).setCell ⟨b7, 1, none⟩ (.string p7)).setCell ⟨b7, 2, none⟩ (.int .i64 1)).setCell ⟨b7, 3, none⟩ (.slice A2 PL.length c2))) := Lib.hid ⟨hk7.set4 (.string s) (.string p7) (.int .i64 1) (.slice A2 PL.length c2), (hr2.farT4 hk7 (by decide) (.string s) (.string p7) (.int .i64 1) (.slice A2 PL.length c2)).rd, hS.1.far4 (b' := b7) (by omega) (.string s) (.string p7) (.int .i64 1) (.slice A2 PL.length c2), below_four hS.2.2 (b := b7) (by omega) (.string s) (.string p7) (.int .i64 1) (.slice A2 PL.length c2)⟩
  obtain ⟨y0, y1, y2, y3⟩ := hk7.cells4
  obtain ⟨f0', f1, f2, f3⟩ := hk7.free4
  clear hS hr2 hk7 HS1
  go_wp2
  refine NoPanic.normal ?_
  clear y0 y1 y2 y3 f0' f1 f2 f3
  generalize ((((u.setCell ⟨b7, 0, none⟩ (.string s)).setCell ⟨b7, 1, none⟩ (.string p7)).setCell ⟨b7, 2, none⟩ (.int .i64 1)).setCell ⟨b7, 3, none⟩ (.slice A2 PL.length c2)) = w5 at *
  go_wp2
  have hS0 : CleanS w b7 #[.string s, .string r, .int .i64 m, .slice A fs.length c] #[.string s, .string p7, .int .i64 1, .slice A2 PL.length c2] A2 PL w5.drew := HS5.out.below (Below.refl _ _).drew
  clear HS5 H1 H3
  refine wp_region_noPanic ?_
  refine HT.begin (n := 8) (S := (fun u => CleanS w b7 #[.string s, .string r, .int .i64 m, .slice A fs.length c] #[.string s, .string p7, .int .i64 1, .slice A2 PL.length c2] A2 PL u)) (by kernel_rfl) hS0 ?_
  refine HT.take 0 (.agg #[.string s, .string p7, .int .i64 1, .slice A2 PL.length c2]) rfl (by kernel_rfl) (fun _ _ _ h => h) (Or.inl ⟨by rfl, ?_⟩) (?_ : HT _ _ _ _ _ _ _ ⟨#[_, _, _, _, _, _, _, _, _, _, _, _, _, _, _, _, _, _, _, _, _, _, _, _, _, _, _, .agg #[.string s, .string p7, .int .i64 1, .slice A2 PL.length c2], _, _, _, _, _, _, _, _, _, _, _, _, _, _, _, _, _, _, _, _, _, _, _, _, _, _, _, _, _, _, _, _, _, _, _, _, _, _, _, _, _, _, _, _, _, _, _, _, _, _, _, _], []⟩ _)
  · intro u hu
    obtain ⟨hq, _⟩ := hu
    obtain ⟨x0, x1, x2, x3⟩ := hq.cells4
    go_simp
  refine HT.take 1 (.slice B0 body.length e0) rfl (by kernel_rfl) (fun _ _ _ h => h) (Or.inl ⟨by rfl, ?_⟩) (?_ : HT _ _ _ _ _ _ _ ⟨#[_, _, _, _, _, _, _, _, _, _, _, _, _, _, _, _, _, _, _, _, _, _, _, _, _, _, _, .agg #[.string s, .string p7, .int .i64 1, .slice A2 PL.length c2], .slice B0 body.length e0, _, _, _, _, _, _, _, _, _, _, _, _, _, _, _, _, _, _, _, _, _, _, _, _, _, _, _, _, _, _, _, _, _, _, _, _, _, _, _, _, _, _, _, _, _, _, _, _, _, _, _], []⟩ _)
  · intro u hu
    go_simp
  refine HT.step 2 rfl (by kernel_rfl) (fun hS K hK => ?_)
  go_simp
  refine (HCB.out _ hS.2.2.2).mono ?_
  rintro e w6 ⟨A3, c3, rfl, hr3, hb3⟩
  have HR3 := Lib.hid hr3.rd
  refine hK.out _ _ (hS.below hb3) ?_
  have HW3 : Hid (Below w6.heap.size w6 w6) := Lib.hid (Below.refl _ _)
  clear hK hS hb3 hr3 HCB
  refine HT.step 3 rfl (by kernel_rfl) (fun hS K hK => ?_)
  go_simp
  refine (HAK.out A2 c2 HNA.out A3 c3 _ hS.2.2.2 hS.2.1 HR3.out).mono ?_
  rintro e w7 ⟨A4, c4, rfl, hr4, hb4⟩
  refine hK.out _ _ (hS.below hb4) ?_
  have HR4 := Lib.hid hr4
  clear hK hS hb4 hr4 HAK HNA HR3 HW3
  refine HT.take 4 (.tuple #[.slice A4 PB.length c4, .int .i64 PE]) rfl (by kernel_rfl) (fun _ _ _ h => h) (Or.inl ⟨by rfl, ?_⟩) (?_ : HT _ _ _ _ _ _ _ ⟨#[_, _, _, _, _, _, _, _, _, _, _, _, _, _, _, _, _, _, _, _, _, _, _, _, _, _, .tuple #[.slice A4 PB.length c4, .int .i64 PE], .agg #[.string s, .string p7, .int .i64 1, .slice A2 PL.length c2], .slice B0 body.length e0, .slice A3 body.length c3, .tuple #[.slice A4 PB.length c4, .int .i64 PE], _, _, _, _, _, _, _, _, _, _, _, _, _, _, _, _, _, _, _, _, _, _, _, _, _, _, _, _, _, _, _, _, _, _, _, _, _, _, _, _, _, _, _, _, _, _, _, _, _], []⟩ _)
  · intro u hu
    go_simp
  refine HT.take 5 (.slice A4 PB.length c4) rfl (by kernel_rfl) (fun _ _ _ h => h) (Or.inl ⟨by rfl, ?_⟩) (?_ : HT _ _ _ _ _ _ _ ⟨#[_, _, _, _, _, _, _, _, _, _, _, _, _, _, _, _, _, _, _, _, _, _, _, _, _, _, .tuple #[.slice A4 PB.length c4, .int .i64 PE], .agg #[.string s, .string p7, .int .i64 1, .slice A2 PL.length c2], .slice B0 body.length e0, .slice A3 body.length c3, .tuple #[.slice A4 PB.length c4, .int .i64 PE], .slice A4 PB.length c4, _, _, _, _, _, _, _, _, _, _, _, _, _, _, _, _, _, _, _, _, _, _, _, _, _, _, _, _, _, _, _, _, _, _, _, _, _, _, _, _, _, _, _, _, _, _, _, _], []⟩ _)
  · intro u hu
    go_simp
  refine HT.take 6 (.int .i64 PE) rfl (by kernel_rfl) (fun _ _ _ h => h) (Or.inl ⟨by rfl, ?_⟩) (?_ : HT _ _ _ _ _ _ _ ⟨#[_, _, _, _, _, _, _, _, _, _, _, _, _, _, _, _, _, _, _, _, _, _, _, _, _, _, .tuple #[.slice A4 PB.length c4, .int .i64 PE], .agg #[.string s, .string p7, .int .i64 1, .slice A2 PL.length c2], .slice B0 body.length e0, .slice A3 body.length c3, .tuple #[.slice A4 PB.length c4, .int .i64 PE], .slice A4 PB.length c4, .int .i64 PE, _, _, _, _, _, _, _, _, _, _, _, _, _, _, _, _, _, _, _, _, _, _, _, _, _, _, _, _, _, _, _, _, _, _, _, _, _, _, _, _, _, _, _, _, _, _, _], []⟩ _)
  · intro u hu
    go_simp
  refine HT.take 7 (.slice A4 PB.length c4) rfl (by kernel_rfl) (fun _ _ _ h => h) (Or.inl ⟨by rfl, ?_⟩) (?_ : HT _ _ _ _ _ _ _ ⟨#[_, _, _, _, _, _, _, _, _, _, _, _, .slice A4 PB.length c4, _, _, _, _, _, _, _, _, _, _, _, _, _, .tuple #[.slice A4 PB.length c4, .int .i64 PE], .agg #[.string s, .string p7, .int .i64 1, .slice A2 PL.length c2], .slice B0 body.length e0, .slice A3 body.length c3, .tuple #[.slice A4 PB.length c4, .int .i64 PE], .slice A4 PB.length c4, .int .i64 PE, _, _, _, _, _, _, _, _, _, _, _, _, _, _, _, _, _, _, _, _, _, _, _, _, _, _, _, _, _, _, _, _, _, _, _, _, _, _, _, _, _, _, _, _, _, _, _], []⟩ _)
  · intro u hu
    go_simp
  refine HT.tail _ rfl rfl (by kernel_rfl) (fun hS => ?_)
  have HS := Lib.hid hS
  clear hS hS0
  go_wp2
  refine NoPanic.normal ?_
  by_cases hPE : PE = 0
  rotate_left
  · have hpb : (PE != 0) = true := by rw [bne_iff_ne]; exact hPE
    have h0 := HEN.out hPE
    subst h0
    go_wp2
    go_ret
    exact ⟨rfl, HS.out.2.2.2⟩
  subst hPE
  obtain ⟨hq, hne⟩ := HRD.out rfl
  have HQM := Lib.hid hq
  have hHC := Lib.hid (fun (u : World) (A4 : Option Addr) (c4 : Nat) (hx : Rd u A4 PB.length 1 (bcells PB)) => copyBytes_any A4 c4 PB u (by omega) hx)
  clear HRD HEN hq hne
  go_wp2_with fail
  refine (hHC.out _ A4 c4 HR4.out.rd).mono ?_
  rintro e w8 ⟨A5, c5, rfl, hr5, hb5⟩
  have HS5 := Lib.hid (HS.out.below hb5)
  have HC5 := Lib.hid hb5
  have HR5 := Lib.hid hr5
  have HY5 := Lib.hid (HRX.out _ HS5.out.2.2.2)
  clear hb5 hr5 HRX hHC HR4
  have hz4 := HS.out.2.2.2.size
  have hz5 := HC5.out.size
  go_wp2_with (at_builtin; refine appC _ rfl (.tmp 42) (.tmp 43) rfl w7.heap.size A5 PB.length c5 PB rfl HR5.out C0 rest.length f0 rest rfl HY5.out (by omega) (by omega) ?_; intro A6 c6 w9 hr6 ha6; have HR6 := Lib.hid hr6; have HC6 := Lib.hid (HC5.out.trans (ha6.belowC HR5.out (by omega))); clear hr6 ha6 HR5 HC5 HY5 HS5)
  have HS6 := Lib.hid (HS.out.below HC6.out)
  have hlm : (PB ++ rest).length = PB.length + rest.length := List.length_append
  have HIN := HINB.out A6 c6 w7.heap.size (PB ++ rest) (by omega) _ HS6.out.2.2.2 (by rw [hlm]; exact HR6.out)
  rw [HQM.out, hlm] at HIN
  have HIN := Lib.hid HIN
  clear HS HC6 HR6 HINB HQM hz4 hz5
  refine HIN.out.mono ?_
  rintro e w10 ⟨A7, c7, D7, d7, T7, k7, rfl, hr7, hd7, hf7, hb7⟩
  replace hd7 : CRow w10 w9.heap.size D7 body.length d7 body := hd7
  have HS8 := Lib.hid ((HS6.out.below hb7).below ((Below.refl _ _).alloc (Nat.le_refl _) (.cells #[.string s, .string p7, .int .i64 1, .slice A7 GS.length c7, .int .i64 0, .string ⟨#[]⟩, .int .i64 0, .slice none 0 0, .slice D7 body.length d7, .slice T7 0 k7] 29)))
  have HX8 := Lib.hid (Blk.new w10 #[.string s, .string p7, .int .i64 1, .slice A7 GS.length c7, .int .i64 0, .string ⟨#[]⟩, .int .i64 0, .slice none 0 0, .slice D7 body.length d7, .slice T7 0 k7] 29)
  have HD8 := Lib.hid (hd7.rd.alloc (.cells #[.string s, .string p7, .int .i64 1, .slice A7 GS.length c7, .int .i64 0, .string ⟨#[]⟩, .int .i64 0, .slice none 0 0, .slice D7 body.length d7, .slice T7 0 k7] 29))
  clear hr7 hd7 hf7 hb7 HS6 HIN
  go_upto_region 11 with fail
  generalize w10.heap.size = b8 at *
  generalize w10.alloc (.cells #[.string s, .string p7, .int .i64 1, .slice A7 GS.length c7, .int .i64 0, .string ⟨#[]⟩, .int .i64 0, .slice none 0 0, .slice D7 body.length d7, .slice T7 0 k7] 29) = w11 at *
  obtain ⟨x0, x1, x2, x3⟩ := HS8.out.1.cells4
  obtain ⟨z0, z1, z2, z3⟩ := HS8.out.2.2.1.cells4
  obtain ⟨y0, y1, y2, y3, y4, y5, y6, y7, y8, y9⟩ := HX8.out.cells10
  have HSC := Lib.hid (sameBB D7 B0 body.length d7 e0 body w11 (by omega) rfl HD8.out (HBX.out w11 HS8.out.2.2.2))
  go_wp2_with fail
  refine HSC.out.mono ?_
  rintro e w12 ⟨rfl, hb12⟩
  have HB12 := Lib.hid (HS8.out.below hb12)
  go_wp2
  go_ret
  exact ⟨rfl, HB12.out.2.2.2⟩
end Go.Proofs.YteehjkfmlcfffaaGreatDoor
