/- The law StoreRefused. Conditions: an entry, and a script's entries, of at most 2^20 bytes in all; the library's tables. -/
import Derived.Test.YtkempjcphpnocaaGreatDoorZ17
import Derived.Test.YtkempjcphpnocaaGreatDoorZ10
import Derived.Test.YtkempjcphpnocaaGreatDoorZ07
namespace Go.Proofs.YtkempjcphpnocaaGreatDoor
open Go Go.RowKit Go.Maps

/-- What an entry is of. -/
def EP.small (p : EP) : Prop := F.bulk p.E.fs + p.E.k.size + p.E.v.size + p.E.r.size + p.E.body.length ≤ 1048576
/-- A script's entries put, one after the other. -/
def S.puts (s : S.Sto) : List (EP × ByteArray) → S.Sto
  | [] => s
  | p :: t => S.puts (s.put p.1.E).1 t
theorem S.puts_snoc : ∀ (l : List (EP × ByteArray)) (s : S.Sto) (p : EP × ByteArray), S.puts s (l ++ [p]) = ((S.puts s l).put p.1.E).1
  | [], _, _ => rfl
  | _ :: t, _, p => S.puts_snoc t _ p
theorem S.puts_take (s : S.Sto) (l : List (EP × ByteArray)) {k : Nat} (h : k < l.length) : S.puts s (l.take (k + 1)) = ((S.puts s (l.take k)).put (l[k]'h).1.E).1 := by
  rw [List.take_succ_eq_append_getElem h, S.puts_snoc]
theorem S.Kept.puts {room : Int} : ∀ (l : List (EP × ByteArray)) {s : S.Sto} {i : Nat}, S.Kept room i s → i + l.length ≤ 100 → S.Kept room (i + l.length) (S.puts s l)
  | [], _, _, h, _ => h
  | p :: t, s, i, h, hl => by
    rw [List.length_cons] at hl
    have := S.Kept.puts t (h.put p.1.E (by omega)) (by omega)
    rw [List.length_cons, show i + (t.length + 1) = i + 1 + t.length by omega]
    exact this
theorem ep_len {p : EP} (h : EP.small p) : p.E.fs.length ≤ 1099511627776 ∧ p.E.body.length ≤ 1099511627776 ∧ p.E.r.size ≤ 1073741824 ∧ F.bulk p.E.fs ≤ 1073741824 ∧ p.E.k.size ≤ 1073741824 ∧ p.E.v.size ≤ 1073741824 := by
  unfold EP.small at h
  have := F.len_le_bulk p.E.fs
  omega
/-- Put, of an entry that is copied first. -/
theorem kput_any (B : Nat) (X : SM) (s : S.Sto) (p : EP) (i : Nat) (room : Int) (w : World) (h : StAt B X s w) (hk : S.Kept room i s) (hi : i ≤ 100) (hp : p.small) (hx : ERd w p) (ht : TabOk w) :
    Calls Tryz.prog 10 #[.pointer (some ⟨X.st, 0, none⟩), p.v] w (RetSto B X s w (s.put p.E).1 (.int .i64 (s.put p.E).2)) := by
  obtain ⟨h1, h2, h3, h4, h5, h6⟩ := ep_len hp
  exact sput_any B X s p.E (3 + 13 * i) p.A p.c p.X p.d w h hk.fit (by omega) hk.inv.up (by have := hk.len; omega) (fun q hq => by have := hk.ids q hq; omega) (by have := hk.count; omega) hk.inv.lens (fun q hq => (hk.inv.tab q hq).1) h3 h4 h5 h6 hx.1 hx.2 ht
theorem kget_any (B : Nat) (X : SM) (s : S.Sto) (id : ByteArray) (i : Nat) (room : Int) (w : World) (h : StAt B X s w) (hk : S.Kept room i s) (hi : i ≤ 100) (hid : id ∈ s.ids) (ht : Tabs w) :
    Calls Tryz.prog 13 #[.pointer (some ⟨X.st, 0, none⟩), .string id] w (RetGet w (s.get id)) := by
  have hz : id.size ≤ 4096 := by
    unfold S.Sto.ids at hid
    obtain ⟨p, hp, rfl⟩ := List.mem_map.1 hid
    exact hk.ids p hp
  exact sget_any B X s id (3 + 13 * i) w h hk.fit (by omega) (fun p hp => Nat.lt_of_lt_of_le (hk.inv.tab p hp).1 hk.inv.lens) (by omega) ht
theorem kids_any (B : Nat) (X : SM) (s : S.Sto) (i : Nat) (room : Int) (w : World) (h : StAt B X s w) (hk : S.Kept room i s) (hi : i ≤ 100) :
    Calls Tryz.prog 12 #[.pointer (some ⟨X.st, 0, none⟩)] w (RetRow w 9 1 s.ids.length (scells s.ids)) :=
  ids_any B X s w h hk.inv.up (by have := hk.len; omega)
theorem klist_any (B : Nat) (X : SM) (s : S.Sto) (i : Nat) (room : Int) (w : World) (h : StAt B X s w) (hk : S.Kept room i s) (hi : i ≤ 100) :
    Calls Tryz.prog 14 #[.pointer (some ⟨X.M.d, 0, none⟩)] w (RetRow w 9 1 s.d.list.length (scells s.d.list)) :=
  dlist_any B X.M s.d w h.log.disk hk.fit.ok (Nat.le_trans hk.fit.now (by omega))
theorem kused_any (B : Nat) (X : SM) (s : S.Sto) (i : Nat) (room : Int) (w : World) (h : StAt B X s w) (hk : S.Kept room i s) (hi : i ≤ 100) :
    Calls Tryz.prog 16 #[.pointer (some ⟨X.M.d, 0, none⟩)] w (fun e w' => e = .returned (.int .i64 s.d.used) ∧ Below w.heap.size w w') :=
  used_any B X.M s.d w h.log.disk (fun no => by have := hk.fit.size no; omega) hk.fit.ok (hk.fit.used (by omega))
theorem kcopy_any (p : EP) (w : World) (hp : EP.small p) (hx : ERd w p) : Calls Tryz.prog 11 #[p.v] w (fun e w' => ∃ q : EP, q.E = p.E ∧ e = .returned q.v ∧ ERd w' q ∧ Below w.heap.size w w') := by
  obtain ⟨h1, h2, _⟩ := ep_len hp
  refine (copyEntry_any p.E.k p.E.v p.E.s p.E.r p.E.m p.A p.c p.E.fs p.X p.d p.E.body p.E.asked p.E.got w h1 h2 hx.1 hx.2).mono ?_
  rintro e w' ⟨A, c, X, d, rfl, r1, r2, hb⟩
  exact ⟨⟨p.E, A, c, X, d⟩, rfl, rfl, ⟨r1, r2⟩, hb⟩
theorem row_off {F : Nat → Prop} {w : World} {base n c size : Nat} {e : TypeId} {A : Option Addr} {xs : List Value} (hr : Row w base e size A n c xs) (hF : ∀ k, F k → k < base) : 0 < n → ∀ a, A = some a → ¬ F a.block :=
  fun hn a ha hf => hr.apartB (hF _ hf) hn a ha rfl
theorem ent_small {E : O.Ent} (h : E.ok = true) : E.fs.length ≤ 1099511627776 ∧ E.body.length ≤ 1099511627776 := by
  unfold O.Ent.ok objOk at h
  obtain ⟨h1, h2⟩ := of_decide_eq_true h
  unfold okE at h2
  have h3 := of_decide_eq_true h2
  refine ⟨?_, by omega⟩
  unfold F.respE at h1
  split at h1
  · cases h1
  · split at h1
    · cases h1
    · unfold F.wholeE at h1
      split at h1
      · rename_i hp
        unfold F.printE at hp
        split at hp
        · split at hp
          · cases hp
          · omega
        · cases hp
      · rename_i hp
        exact absurd h1 hp
theorem get_small {s : S.Sto} {id : ByteArray} {E : O.Ent} (h : s.get id = some E) : E.fs.length ≤ 1099511627776 ∧ E.body.length ≤ 1099511627776 := by
  unfold S.Sto.get at h
  split at h
  · cases h
  · unfold S.read at h
    split at h
    · cases h
    · exact ent_small (O.dec_some h).1
theorem ksame_any (p q : EP) (w : World) (hE : q.E = p.E) (hp : p.E.fs.length ≤ 1099511627776 ∧ p.E.body.length ≤ 1099511627776) (hx : ERd w p) (hy : ERd w q) : Calls Tryz.prog 17 #[p.v, q.v] w (RetB w true) := by
  obtain ⟨E, A, c, X, d⟩ := p
  obtain ⟨E2, A2, c2, X2, d2⟩ := q
  dsimp only at hE hp
  subst hE
  exact sameEntry_any E2.k E2.v E2.s E2.r E2.m A c E2.fs X d E2.body E2.asked E2.got A2 c2 X2 d2 w hp.1 hp.2 hx.1 hy.1 hx.2 hy.2
theorem hAT_below {w w' : World} {b o : Nat} {p : EP} (h : EAt w b o p) (hb : b < w.heap.size) (hw : Below w.heap.size w w') : EAt w' b o p := by
  unfold EAt at h ⊢
  have e : ∀ j, w'.cell? ⟨b, j, none⟩ = w.cell? ⟨b, j, none⟩ := fun j => hw.cell (p := ⟨b, j, none⟩) hb
  simp only [e]
  exact h
/-- The first of a script's steps that are looked at. -/
theorem take60 (l : List (EP × ByteArray)) : (l.take 60).length ≤ 60 := by rw [List.length_take]; omega
set_option maxRecDepth 100000 in
set_option maxHeartbeats 8000000 in
theorem storeRefused_any (room slots : Int) (A : Option Addr) (n c : Nat) (l : List (EP × ByteArray)) (p : EP) (w : World) (hl : l.length = n) (hnc : n ≤ c) (hn : n ≤ 1099511627776) (hA : A = none → n = 0) (hx : Rd w A n 10 (stcells l)) (hr : ∀ q ∈ l, ERd w q.1) (hs : ∀ q ∈ l, q.1.small) (hp : ERd w p) (hps : p.small) (ht : Tabs w) :
    Calls Tryz.prog 3 #[.int .i64 room, .int .i64 slots, .slice A n c, p.v] w (RetB w true) := by
  subst hl
  have HX := Lib.hid hx
  have HR := Lib.hid hr
  have HS := Lib.hid hs
  have HP := Lib.hid hp
  have HPS := Lib.hid hps
  have HTA := Lib.hid ht
  have HAL := Lib.hid (fun (u : World) (hu : Below w.heap.size w u) => storeAlive_any u (ht.below hu))
  have HCU := Lib.hid (fun u => lcut_any A l.length c l u rfl hnc hn hA)
  have HKB := Lib.hid (Blk.new w #[.string p.E.k, .string p.E.v, .int .i64 p.E.s, .string p.E.r, .int .i64 p.E.m, .slice p.A p.E.fs.length p.c, .slice p.X p.E.body.length p.d, .int .i64 p.E.asked, .int .i64 p.E.got] 28)
  have hb0 : Below w.heap.size w (w.alloc (.cells #[.string p.E.k, .string p.E.v, .int .i64 p.E.s, .string p.E.r, .int .i64 p.E.m, .slice p.A p.E.fs.length p.c, .slice p.X p.E.body.length p.d, .int .i64 p.E.asked, .int .i64 p.E.got] 28)) := (Below.refl _ _).alloc (Nat.le_refl _) _
  have hz0 : (w.alloc (.cells #[.string p.E.k, .string p.E.v, .int .i64 p.E.s, .string p.E.r, .int .i64 p.E.m, .slice p.A p.E.fs.length p.c, .slice p.X p.E.body.length p.d, .int .i64 p.E.asked, .int .i64 p.E.got] 28)).heap.size = w.heap.size + 1 := World.size_alloc ..
  clear hx hr hs hp hps ht hA hnc
  unfold EP.v entV
  go_enter Tryz.func3, Tryz.ntmps3
  go_upto_region 1 with fail
  obtain ⟨W0, hW0⟩ : ∃ W0, w.alloc (.cells #[.string p.E.k, .string p.E.v, .int .i64 p.E.s, .string p.E.r, .int .i64 p.E.m, .slice p.A p.E.fs.length p.c, .slice p.X p.E.body.length p.d, .int .i64 p.E.asked, .int .i64 p.E.got] 28) = W0 := ⟨_, rfl⟩
  rw [hW0] at HKB hb0 hz0 ⊢
  clear hW0
  have HB0 := Lib.hid hb0
  have HZ0 := Lib.hid hz0
  clear hb0 hz0
  go_wp2_with fail
  refine (HAL.out _ HB0.out).mono ?_
  rintro e w1 ⟨rfl, hb1⟩
  have HB1 := Lib.hid (below_then HB0.out.size HB0.out hb1)
  have HK1 := Lib.hid (HKB.out.below hb1)
  have HZ1 : Hid (w.heap.size + 1 ≤ w1.heap.size) := Lib.hid (by have := hb1.size; have := HZ0.out; omega)
  clear hb1 HAL HB0 HKB HZ0
  by_cases hr0 : 0 ≤ room ∧ room ≤ 1073741824
  rotate_left
  · by_cases hr1 : room < 0
    · go_wp2
      go_ret
      exact ⟨rfl, HB1.out⟩
    · have hr2 : room > 1073741824 := by omega
      go_wp2
      go_ret
      exact ⟨rfl, HB1.out⟩
  have hr1 : ¬ room < 0 := by omega
  have hr2 : ¬ room > 1073741824 := by omega
  have HNW := Lib.hid (newNil_any room (-1) w1)
  go_wp2_with fail
  refine HNW.out.mono ?_
  rintro e w2 (⟨hbad, _⟩ | ⟨_, _, M, rfl, hd2, hb2⟩)
  · exact absurd hr0 hbad
  have HUN := Lib.hid (fun k (hk : M.foot (S.fresh room) k) => hd2.under hk)
  have HB2 := Lib.hid (below_then HB1.out.size HB1.out hb2)
  have HK2 := Lib.hid (HK1.out.below hb2)
  have HZ2 : Hid (w.heap.size + 1 ≤ w1.heap.size) := HZ1
  have HBX := Lib.hid hb2
  clear HNW HB1 HK1
  by_cases hs : 0 ≤ slots ∧ slots ≤ 4096
  rotate_left
  · have HOB := Lib.hid (openBad_any (.pointer (some ⟨M.d, 0, none⟩)) slots w2 (by omega))
    go_wp2_with fail
    refine HOB.out.mono ?_
    rintro e w2' ⟨rfl, rfl⟩
    go_wp2
    go_ret
    exact ⟨rfl, HB2.out⟩
  obtain ⟨ns, rfl⟩ : ∃ ns : Nat, slots = ns := ⟨slots.toNat, by omega⟩
  have hns : ns ≤ 4096 := by omega
  have HOP := Lib.hid (open0_any w1.heap.size M room ns w2 hd2 hr0 hns)
  clear hd2 hb2
  go_wp2_with fail
  refine HOP.out.mono ?_
  rintro e w3 ⟨X, rfl, hs3, hw3, hm3⟩
  have hbx3 := hw3.under HUN.out HBX.out.size
  have HS3 := Lib.hid hs3
  have HB3 := Lib.hid (HB2.out.trans (hbx3.mono (by have := HZ2.out; omega)))
  have HK3 := Lib.hid (HK2.out.under hbx3 (by have := HZ2.out; omega))
  have HM3 := Lib.hid hm3
  have HKP := Lib.hid (S.Kept.start hr0 hns)
  clear hs3 hw3 hm3 hbx3 HOP HUN HBX HB2 HK2 HZ1 hr1 hr2
  go_wp2_with fail
  refine (HCU.out _).mono ?_
  rintro e w3' ⟨c', rfl, rfl⟩
  have HXC := Lib.hid (rd_cut HX.out rfl (by rw [List.length_take]; omega : (l.take 60).length ≤ l.length))
  have h60 := take60 l
  have htk : l.take (l.take 60).length = l.take 60 := by
    rw [List.length_take]
    by_cases h : 60 ≤ l.length
    · rw [Nat.min_eq_left h]
    · rw [Nat.min_eq_right (by omega), List.take_length, List.take_of_length_le (by omega)]
  rw [htk] at HXC
  have HRC := Lib.hid (fun q (hq : q ∈ l.take 60) => HR.out q (List.mem_of_mem_take hq))
  have HSC := Lib.hid (fun q (hq : q ∈ l.take 60) => HS.out q (List.mem_of_mem_take hq))
  clear HCU htk HX HR HS
  generalize hls : l.take 60 = ls at *
  clear hls
  obtain ⟨s0, hs0⟩ : ∃ s0 : S.Sto, (⟨S.born room, 0, [], S.marks ns []⟩ : S.Sto) = s0 := ⟨_, rfl⟩
  rw [hs0] at HS3 HKP
  clear hs0
  obtain ⟨B1, hB1⟩ : ∃ B1, w1.heap.size = B1 := ⟨_, rfl⟩
  rw [hB1] at HS3 HZ2
  clear hB1
  go_wp2_with fail
  go_loopw [12] (fun i wr => ∃ (k : Nat) (X1 : SM), k ≤ ls.length ∧ i = .int .i64 k ∧ StAt B1 X1 (S.puts s0 (ls.take k)) wr ∧ Below B1 w3' wr ∧ X1.st = X.st ∧ X1.M.d = X.M.d) (fun i _ => ls.length - (intOf i).toNat)
  case atStart => exact ⟨0, X, Nat.zero_le _, rfl, HS3.out, Below.refl _ _, rfl, rfl⟩
  case round =>
    obtain ⟨k, X1, hk, rfl, hst, hbe, hxs, hxd⟩ := hrel
    have HST := Lib.hid hst
    have HBE := Lib.hid hbe
    have HBW := Lib.hid (HB3.out.trans (hbe.mono (by have := HZ2.out; omega)))
    clear hst hbe
    obtain ⟨wo, rfl⟩ : ∃ wo : World, wo = wr := ⟨_, rfl⟩
    by_cases hlt : k < ls.length
    · obtain ⟨b, o, rfl, hbl, hat, _⟩ := rd_step (HXC.out.below HBW.out) hlt rfl
      have HER := Lib.hid ((HRC.out _ (List.getElem_mem hlt)).below HBW.out)
      have HSM := Lib.hid (HSC.out _ (List.getElem_mem hlt))
      have HPT := Lib.hid (S.puts_take s0 ls hlt)
      have HKK := Lib.hid (S.Kept.puts (ls.take k) HKP.out (by rw [List.length_take]; omega))
      have hkl : (ls.take k).length = k := by rw [List.length_take]; omega
      rw [hkl, Nat.zero_add] at HKK
      generalize (ls[k]'hlt).1 = q at *
      generalize S.puts s0 (ls.take k) = s1 at *
      clear hkl
      obtain ⟨y0, y1, y2, y3, y4, y5, y6, y7, y8⟩ := hat
      have HCP := Lib.hid (kcopy_any q wo HSM.out HER.out)
      unfold EP.v entV at HCP
      go_wp2_with fail
      refine HCP.out.mono ?_
      rintro e w4 ⟨⟨E2, A2, c2, X2, d2⟩, hq2, rfl, hr4, hb4⟩
      dsimp only at hq2
      subst hq2
      have HST4 := Lib.hid (HST.out.below hb4)
      have HBE4 := Lib.hid (HBE.out.trans (hb4.mono HST.out.base))
      have HPU := Lib.hid (kput_any B1 X1 s1 ⟨q.E, A2, c2, X2, d2⟩ k room w4 HST4.out HKK.out (by omega) HSM.out hr4 (HTA.out.below (below_then HBW.out.size HBW.out hb4)).2.2)
      dsimp only at HPU
      rw [← HPT.out, hxs] at HPU
      clear hr4 hb4 HCP y0 y1 y2 y3 y4 y5 y6 y7 y8 HST HBE HBW HER
      unfold EP.v entV at HPU
      dsimp only at HPU ⊢
      go_wp2_with fail
      refine HPU.out.mono ?_
      rintro e w5 ⟨rfl, X5, hs5, hw5, hst5, hd5, _⟩
      have HS5 := Lib.hid hs5
      have HBE5 := Lib.hid (HBE4.out.trans (hw5.under (fun k hk => HST4.out.under hk) HST4.out.base))
      have HX5 := Lib.hid (hst5.trans hxs)
      have HD5 := Lib.hid (hd5.trans hxd)
      clear hs5 hw5 hst5 hd5 HPU HST4 HBE4 hxs hxd
      go_wp2
      go_roundw
      case rel => exact ⟨k + 1, X5, by omega, by go_num, HS5.out, HBE5.out, HX5.out, HD5.out⟩
      case measure => simp [intOf]; omega
    · have hke : k = ls.length := by omega
      subst hke
      rw [List.take_length] at HST
      have HKK := Lib.hid (S.Kept.puts ls HKP.out (by omega))
      rw [Nat.zero_add] at HKK
      obtain ⟨i, hi⟩ : ∃ i, ls.length = i := ⟨_, rfl⟩
      rw [hi] at HKK
      have hi60 : i ≤ 60 := by omega
      have HDD := Lib.hid (hxd.trans HM3.out)
      have HXS := Lib.hid hxs
      have HKE := Lib.hid (HK3.out.under HBE.out (by have := HZ2.out; omega))
      rw [← hxs]
      clear HXC HRC HSC HKP HS3 HBE hxs hxd HM3 hi hk hlt
      generalize S.puts s0 ls = s1 at *
      have HID := Lib.hid (kids_any B1 X1 s1 i room wo HST.out HKK.out (by omega))
      go_wp2_with fail
      refine HID.out.mono ?_
      rintro e w4 ⟨A4, c4, rfl, hr4, hb4⟩
      have HST4 := Lib.hid (HST.out.below hb4)
      have HBW4 := Lib.hid (below_then HBW.out.size HBW.out hb4)
      have HR4 := Lib.hid hr4.rd
      have HOF := Lib.hid (row_off hr4 (fun k hk => HST.out.lt hk))
      have HKE4 := Lib.hid (HKE.out.below hb4)
      clear hr4 hb4 HID HST HBW HKE HK3
      go_upto_region 18 with fail
      obtain ⟨W5, hW5⟩ : ∃ W5, w4.alloc (.cells #[] 28) = W5 := ⟨_, rfl⟩
      have hb5 : Below w4.heap.size w4 W5 := by rw [← hW5]; exact (Below.refl _ _).alloc (Nat.le_refl _) _
      rw [hW5]
      have HST5 := Lib.hid (HST4.out.below hb5)
      have HBW5 := Lib.hid (below_then HBW4.out.size HBW4.out hb5)
      have HR5 := Lib.hid (HR4.out.below hb5)
      have HKE5 := Lib.hid (HKE4.out.below hb5)
      obtain ⟨ids, hids⟩ : ∃ ids, s1.ids = ids := ⟨_, rfl⟩
      have HIDS := Lib.hid hids
      have hidl : ids.length ≤ 60 := by
        have := HKK.out.len
        rw [← hids]
        unfold S.Sto.ids
        rw [List.length_map]
        omega
      rw [hids] at HR5 HOF ⊢
      generalize w4.heap.size = b4 at *
      clear hids hW5 hb5 HST4 HBW4 HR4 HKE4
      go_wp2_with fail
      go_loopw [14, 15] (fun t i wr => ∃ (k : Nat) (A6 : Option Addr) (c6 : Nat) (L : List EP), k ≤ ids.length ∧ i = .int .i64 k ∧ t = .slice A6 L.length c6 ∧ L.length = k ∧ ERow wr W5.heap.size A6 c6 L ∧ Below W5.heap.size W5 wr ∧ (∀ j (h : j < L.length) (h2 : j < ids.length), s1.get (ids[j]'h2) = some (L[j]'h).E)) (fun _ i _ => ids.length - (intOf i).toNat)
      case atStart => exact ⟨0, _, 0, [], Nat.zero_le _, rfl, rfl, rfl, ERow.nil _ _ _, Below.refl _ _, fun j h => absurd h (Nat.not_lt_zero _)⟩
      case round =>
        obtain ⟨k, A6, c6, L, hk, rfl, rfl, hLk, her, hbe, hget⟩ := hrel
        have HER := Lib.hid her
        have HBE := Lib.hid hbe
        have HGT := Lib.hid hget
        have HLK := Lib.hid hLk
        have HBW := Lib.hid (below_then HBW5.out.size HBW5.out hbe)
        have HST := Lib.hid (HST5.out.below hbe)
        have HRI := Lib.hid (HR5.out.below hbe)
        clear her hbe hget hLk
        obtain ⟨wo, rfl⟩ : ∃ wo : World, wo = wr := ⟨_, rfl⟩
        by_cases hlt : k < ids.length
        · obtain ⟨b, o, rfl, hbl, y0⟩ := HRI.out.str hlt rfl
          have hmem : ids[k]'hlt ∈ s1.ids := by rw [HIDS.out]; exact List.getElem_mem hlt
          obtain ⟨E, hE⟩ := HKK.out.inv.get hmem
          have HEE := Lib.hid hE
          have HGE := Lib.hid (kget_any B1 X1 s1 (ids[k]'hlt) i room wo HST.out HKK.out (by omega) hmem (HTA.out.below HBW.out))
          rw [hE] at HGE
          have HN : Hid (∀ A7 c7 X7 d7 j (h : j < (L ++ [(⟨E, A7, c7, X7, d7⟩ : EP)]).length) (h2 : j < ids.length), s1.get (ids[j]'h2) = some ((L ++ [(⟨E, A7, c7, X7, d7⟩ : EP)])[j]'h).E) := Lib.hid (fun A7 c7 X7 d7 j h h2 => by
            by_cases hj : j < L.length
            · rw [List.getElem_append_left hj]
              exact HGT.out j hj h2
            · have hjk : j = k := by have := HLK.out; rw [List.length_append, List.length_singleton] at h; omega
              subst hjk
              rw [List.getElem_append_right (by omega)]
              simp only [List.getElem_singleton]
              exact HEE.out)
          clear hE hmem HEE HGT
          generalize ids[k]'hlt = id at *
          go_wp2_with fail
          refine HGE.out.mono ?_
          rintro e w6 ⟨A7, c7, X7, d7, rfl, r1, r2, hb6⟩
          dsimp only [Option.getD_some, Option.isSome_some, entV] at r1 r2 ⊢
          go_upto_region 24 with fail
          obtain ⟨W6, hW6⟩ : ∃ W6, w6.alloc (.cells #[.string E.k, .string E.v, .int .i64 E.s, .string E.r, .int .i64 E.m, .slice A7 E.fs.length c7, .slice X7 E.body.length d7, .int .i64 E.asked, .int .i64 E.got] 28) = W6 := ⟨_, rfl⟩
          have hk6 : Blk W6 w6.heap.size #[.string E.k, .string E.v, .int .i64 E.s, .string E.r, .int .i64 E.m, .slice A7 E.fs.length c7, .slice X7 E.body.length d7, .int .i64 E.asked, .int .i64 E.got] 28 := by rw [← hW6]; exact Blk.new w6 _ _
          have hb66 : Below w6.heap.size w6 W6 := by rw [← hW6]; exact (Below.refl _ _).alloc (Nat.le_refl _) _
          rw [hW6]
          have hwz : W5.heap.size ≤ wo.heap.size := HBE.out.size
          have hb06 := below_then hb6.size hb6 hb66
          have HOW6 : Hid (EOwn W6 W5.heap.size ⟨E, A7, c7, X7, d7⟩) := Lib.hid ((EOwn.mono (base := wo.heap.size) ⟨r1, r2⟩ hwz).below hb66)
          have HER6 := Lib.hid (HER.out.below hb06)
          have HBE6 := Lib.hid (below_then HBE.out.size HBE.out hb06)
          obtain ⟨z0, z1, z2, z3, z4, z5, z6, z7, z8⟩ := hk6.cells9
          have HNEW := Lib.hid (Rd.newRow W6 28 #[.string E.k, .string E.v, .int .i64 E.s, .string E.r, .int .i64 E.m, .slice A7 E.fs.length c7, .slice X7 E.body.length d7, .int .i64 E.asked, .int .i64 E.got] 1 9 rfl)
          have hba : Below W6.heap.size W6 (W6.alloc (.cells #[.string E.k, .string E.v, .int .i64 E.s, .string E.r, .int .i64 E.m, .slice A7 E.fs.length c7, .slice X7 E.body.length d7, .int .i64 E.asked, .int .i64 E.got] 28)) := (Below.refl _ _).alloc (Nat.le_refl _) _
          have HER7 := Lib.hid (HER6.out.below hba)
          have HOW7 := Lib.hid (HOW6.out.below hba)
          have HBE7 := Lib.hid (below_then HBE6.out.size HBE6.out hba)
          have hbz : W5.heap.size ≤ (W6.alloc (.cells #[.string E.k, .string E.v, .int .i64 E.s, .string E.r, .int .i64 E.m, .slice A7 E.fs.length c7, .slice X7 E.body.length d7, .int .i64 E.asked, .int .i64 E.got] 28)).heap.size := HBE7.out.size
          have HL60 : Hid (L.length + 1 ≤ 549755813888) := Lib.hid (by have := HLK.out; omega)
          clear r1 r2 hb6 hW6 hk6 hb66 hb06 HER HBE HOW6 HER6 HBE6 hba hwz HGE HRI HST HBW y0
          go_wp2_with (at_builtin; refine appEnt _ rfl _ _ rfl W5.heap.size A6 L.length c6 L rfl HER7.out.row _ 1 1 [⟨E, A7, c7, X7, d7⟩] rfl HNEW.out HL60.out hbz ?_; intro A8 c8 w8 hr8 ha8; have HER8 := Lib.hid (HER7.out.snoc HOW7.out hr8 ha8); have HBE8 := Lib.hid (HBE7.out.trans (ha8.below HER7.out.row hbz)); clear hr8 ha8)
          go_roundw
          case rel => exact ⟨k + 1, A8, c8, L ++ [⟨E, A7, c7, X7, d7⟩], by omega, by go_num, by rw [List.length_append] <;> rfl, by rw [List.length_append, HLK.out] <;> rfl, HER8.out, HBE8.out, HN.out A7 c7 X7 d7⟩
          case measure => simp [intOf]; omega
        · have hke : k = ids.length := by omega
          have HLL : Hid (L.length = ids.length) := Lib.hid (HLK.out.trans hke)
          have HKW := Lib.hid (HKE5.out.below HBE.out)
          have HLT := Lib.hid (fun k (hk : X1.foot s1 k) => HST5.out.lt hk)
          subst hke
          clear HLK hk hlt HBE HKE5 HST5 HR5 HBW5
          have HLS := Lib.hid (klist_any B1 X1 s1 i room wo HST.out HKK.out (by omega))
          rw [HDD.out] at HLS
          go_wp2_with fail
          refine HLS.out.mono ?_
          rintro e w6 ⟨A9, c9, rfl, _, hb6⟩
          have HST6 := Lib.hid (HST.out.below hb6)
          have HBW6 := Lib.hid (below_then HBW.out.size HBW.out hb6)
          have HRI6 := Lib.hid (HRI.out.below hb6)
          have HER6 := Lib.hid (HER.out.below hb6)
          have HKW6 := Lib.hid (HKW.out.below hb6)
          clear hb6 HLS HST HBW HRI HER HKW
          have HCP := Lib.hid (kcopy_any p w6 HPS.out (HP.out.below HBW6.out))
          unfold EP.v entV at HCP
          obtain ⟨x0, x1, x2, x3, x4, x5, x6, x7, x8⟩ := HKW6.out.cells9
          go_wp2_with fail
          clear x0 x1 x2 x3 x4 x5 x6 x7 x8
          refine HCP.out.mono ?_
          rintro e w7 ⟨⟨E2, A7, c7, X7, d7⟩, hq2, rfl, hr7, hb7⟩
          dsimp only at hq2
          subst hq2
          have HST7 := Lib.hid (HST6.out.below hb7)
          have HBW7 := Lib.hid (below_then HBW6.out.size HBW6.out hb7)
          have HRI7 := Lib.hid (HRI6.out.below hb7)
          have HER7 := Lib.hid (HER6.out.below hb7)
          have HPU := Lib.hid (kput_any B1 X1 s1 ⟨p.E, A7, c7, X7, d7⟩ i room w7 HST7.out HKK.out (by omega) HPS.out hr7 (HTA.out.below HBW7.out).2.2)
          dsimp only at HPU
          clear hr7 hb7 HCP HST6 HBW6 HRI6 HER6 HKW6
          unfold EP.v entV at HPU
          dsimp only at HPU ⊢
          go_wp2_with fail
          refine HPU.out.mono ?_
          rintro e w9 ⟨rfl, X9, hs9, hw9, hst9, hd9, _⟩
          have HST9 := Lib.hid hs9
          have HBW9 := Lib.hid (HBW7.out.trans (hw9.under (fun k hk => by have := HST7.out.under hk; have := HZ2.out; omega) HBW7.out.size : Below w.heap.size w7 w9))
          have HRI9 := Lib.hid (hw9.rd HRI7.out HOF.out)
          have HER9 := Lib.hid (HER7.out.went hw9 HLT.out)
          have HDD9 := Lib.hid (hd9.trans HDD.out)
          have HKK9 := Lib.hid (HKK.out.put p.E (by omega))
          rw [← hst9]
          clear hs9 hw9 hst9 hd9 HPU HST7 HBW7 HRI7 HER7 HOF HLT HDD
          by_cases h0 : (s1.put p.E).2 = 0
          · have h0b : ((s1.put p.E).2 == 0) = true := by rw [h0]; rfl
            go_wp2
            go_ret
            exact ⟨rfl, HBW9.out⟩
          have h0b : ((s1.put p.E).2 == 0) = false := by simpa using h0
          obtain ⟨q1, q2, q3, q4⟩ := HKK.out.refused p.E (by omega) h0
          have HQ4 := Lib.hid q4
          rw [HIDS.out] at q1 HQ4
          clear q4
          have HID := Lib.hid (kids_any B1 X9 _ (i + 1) room w9 HST9.out HKK9.out (by omega))
          rw [q1] at HID
          obtain ⟨s2, hs2⟩ : ∃ s2, (s1.put p.E).1 = s2 := ⟨_, rfl⟩
          rw [hs2] at HST9 HKK9 HQ4 q1 q2 q3
          have hnu : ¬ (s2.d.used : Int) > room := by omega
          have HQ1 := Lib.hid q1
          clear hs2 q1 q3
          go_wp2_with fail
          refine HID.out.mono ?_
          rintro e w10 ⟨A10, c10, rfl, hr10, hb10⟩
          have HST10 := Lib.hid (HST9.out.below hb10)
          have HBW10 := Lib.hid (below_then HBW9.out.size HBW9.out hb10)
          have HRI10 := Lib.hid (HRI9.out.below hb10)
          have HER10 := Lib.hid (HER9.out.below hb10)
          have HSA := Lib.hid (sameTexts_any A10 A4 ids.length c10 c4 ids w10 rfl (by omega) hr10.rd HRI10.out)
          clear hr10 hb10 HID HST9 HBW9 HRI9 HER9
          go_wp2_with fail
          refine HSA.out.mono ?_
          rintro e w11 ⟨rfl, hb11⟩
          have HST11 := Lib.hid (HST10.out.below hb11)
          have HBW11 := Lib.hid (below_then HBW10.out.size HBW10.out hb11)
          have HRI11 := Lib.hid (HRI10.out.below hb11)
          have HER11 := Lib.hid (HER10.out.below hb11)
          have HLS := Lib.hid (klist_any B1 X9 s2 (i + 1) room w11 HST11.out HKK9.out (by omega))
          rw [HDD9.out, q2] at HLS
          clear hb11 HSA HST10 HBW10 HRI10 HER10 q2
          generalize s1.d.list = nl at *
          go_wp2_with fail
          refine HLS.out.mono ?_
          rintro e w12 ⟨A12, c12, rfl, _, hb12⟩
          have HST12 := Lib.hid (HST11.out.below hb12)
          have HBW12 := Lib.hid (below_then HBW11.out.size HBW11.out hb12)
          have HRI12 := Lib.hid (HRI11.out.below hb12)
          have HER12 := Lib.hid (HER11.out.below hb12)
          have HUS := Lib.hid (kused_any B1 X9 s2 (i + 1) room w12 HST12.out HKK9.out (by omega))
          rw [HDD9.out] at HUS
          clear hb12 HLS HST11 HBW11 HRI11 HER11
          go_wp2_with fail
          refine HUS.out.mono ?_
          rintro e w13 ⟨rfl, hb13⟩
          have HST13 := Lib.hid (HST12.out.below hb13)
          have HBW13 := Lib.hid (below_then HBW12.out.size HBW12.out hb13)
          have HRI13 := Lib.hid (HRI12.out.below hb13)
          have HER13 := Lib.hid (HER12.out.below hb13)
          clear hb13 HUS HST12 HBW12 HRI12 HER12
          go_wp2_with fail
          go_loopw [19] (fun j wr => ∃ k : Nat, k ≤ ids.length ∧ j = .int .i64 k ∧ Below w13.heap.size w13 wr) (fun j _ => ids.length - (intOf j).toNat)
          case atStart => exact ⟨0, Nat.zero_le _, rfl, Below.refl _ _⟩
          case round =>
            obtain ⟨k, hk, rfl, hbe⟩ := hrel
            have HBE := Lib.hid hbe
            have HBW := Lib.hid (below_then HBW13.out.size HBW13.out hbe)
            have HST := Lib.hid (HST13.out.below hbe)
            have HRI := Lib.hid (HRI13.out.below hbe)
            have HER := Lib.hid (HER13.out.below hbe)
            clear hbe
            obtain ⟨wo, rfl⟩ : ∃ wo : World, wo = wr := ⟨_, rfl⟩
            by_cases hlt : k < ids.length
            rotate_left
            · have hke : k = ids.length := by omega
              subst hke
              go_wp2
              go_ret
              exact ⟨rfl, HBW.out⟩
            obtain ⟨b, o, rfl, hbl, y0⟩ := HRI.out.str hlt rfl
            have hlL : k < L.length := by rw [HLL.out]; exact hlt
            have hge : s2.get (ids[k]'hlt) = some (L[k]'hlL).E := (HQ4.out _ (List.getElem_mem hlt)).trans (HGT.out k hlL hlt)
            have HGE := Lib.hid (kget_any B1 X9 s2 (ids[k]'hlt) (i + 1) room wo HST.out HKK9.out (by omega) (by rw [HQ1.out]; exact List.getElem_mem hlt) (HTA.out.below HBW.out))
            rw [hge] at HGE
            obtain ⟨b6, o6, hA6, hb6, hat⟩ := rd_ent HER.out.row.rd hlL rfl
            have HAT := Lib.hid hat
            have HON := Lib.hid (HER.out.all _ (List.getElem_mem hlL)).rd
            have hbnd := get_small hge
            have HBN := Lib.hid hbnd
            clear hge hat hbnd
            subst hA6
            generalize L[k]'hlL = P at *
            generalize ids[k]'hlt = id at *
            go_wp2_with fail
            clear y0
            refine HGE.out.mono ?_
            rintro e w14 ⟨A7, c7, X7, d7, rfl, r1, r2, hb14⟩
            dsimp only [Option.getD_some, Option.isSome_some, entV] at r1 r2 ⊢
            go_upto_region 34 with fail
            obtain ⟨W14, hW14⟩ : ∃ W14, w14.alloc (.cells #[.string P.E.k, .string P.E.v, .int .i64 P.E.s, .string P.E.r, .int .i64 P.E.m, .slice A7 P.E.fs.length c7, .slice X7 P.E.body.length d7, .int .i64 P.E.asked, .int .i64 P.E.got] 28) = W14 := ⟨_, rfl⟩
            have HK14 : Hid (Blk W14 w14.heap.size #[.string P.E.k, .string P.E.v, .int .i64 P.E.s, .string P.E.r, .int .i64 P.E.m, .slice A7 P.E.fs.length c7, .slice X7 P.E.body.length d7, .int .i64 P.E.asked, .int .i64 P.E.got] 28) := Lib.hid (by rw [← hW14]; exact Blk.new w14 _ _)
            have hba : Below w14.heap.size w14 W14 := by rw [← hW14]; exact (Below.refl _ _).alloc (Nat.le_refl _) _
            rw [hW14]
            have hb0 := below_then hb14.size hb14 hba
            have HAT14 := Lib.hid (fun (u : World) (hu : Below W14.heap.size W14 u) => (hAT_below HAT.out hb6 (below_then hb0.size hb0 hu)))
            have HSE := Lib.hid (fun (u : World) (hu : Below W14.heap.size W14 u) => ksame_any ⟨P.E, A7, c7, X7, d7⟩ P u rfl HBN.out ((ERd.below (⟨r1.rd, r2.rd⟩ : ERd w14 ⟨P.E, A7, c7, X7, d7⟩) hba).below hu) ((HON.out.below hb0).below hu))
            have HBX := Lib.hid (below_then HBE.out.size HBE.out hb0)
            have HBY := Lib.hid (below_then HBW.out.size HBW.out hb0)
            unfold EP.v entV at HSE
            dsimp only at HSE
            clear r1 r2 hb14 hW14 hba hb0 HAT HON HBN HBE HBW HST HRI HER HGE
            have hS0 : Below W14.heap.size W14 W14.drew := (Below.refl _ _).drew
            refine wp_region_noPanic ?_
            refine HT.begin (n := 9) (S := (fun u => Below W14.heap.size W14 u)) (by kernel_rfl) hS0 ?_
            generalize W14.drew = wd at *
            refine HT.take 0 (.bool true) rfl (by kernel_rfl) (fun _ _ _ h => h) (Or.inl ⟨by rfl, ?_⟩) (?_ : HT _ _ _ _ _ _ _ ⟨#[_, _, _, _, _, _, _, _, _, _, _, _, _, _, _, _, _, _, _, _, _, _, _, _, _, _, _, _, _, _, _, _, _, _, _, _, _, _, _, _, _, _, _, _, _, _, _, _, _, _, _, _, _, _, _, _, _, _, _, _, _, _, _, _, _, _, _, _, _, _, _, _, _, _, _, _, _, _, _, _, _, _, _, _, _, _, _, _, _, _, _, _, _, _, _, _, _, _, _, _, _, _, _, _, _, _, _, _, _, _, _, _, _, _, _, _, _, _, _, _, _, _, _, _, _, _, _, _, _, _, _, _, _, _, _, _, .bool true, _, _, _, _, _, _, _, _, _, _], []⟩ _)
            · intro u hu
              go_simp
            refine HT.take 1 (.bool false) rfl (by kernel_rfl) (fun _ _ _ h => h) (Or.inl ⟨by rfl, ?_⟩) (?_ : HT _ _ _ _ _ _ _ ⟨#[_, _, _, _, _, _, _, _, _, _, _, _, _, _, _, _, _, _, _, _, _, _, _, _, _, _, _, _, _, _, _, _, _, _, _, _, _, _, _, _, _, _, _, _, _, _, _, _, _, _, _, _, _, _, _, _, _, _, _, _, _, _, _, _, _, _, _, _, _, _, _, _, _, _, _, _, _, _, _, _, _, _, _, _, _, _, _, _, _, _, _, _, _, _, _, _, _, _, _, _, _, _, _, _, _, _, _, _, _, _, _, _, _, _, _, _, _, _, _, _, _, _, _, _, _, _, _, _, _, _, _, _, _, _, _, _, .bool true, .bool false, _, _, _, _, _, _, _, _, _], []⟩ _)
            · intro u hu
              go_simp
            refine HT.take 2 (.bool false) rfl (by kernel_rfl) (fun _ _ _ h => h) (Or.inl ⟨by rfl, ?_⟩) (?_ : HT _ _ _ _ _ _ _ ⟨#[_, _, _, _, _, _, _, _, _, _, _, _, _, _, _, _, _, _, _, _, _, _, _, _, _, _, _, _, _, _, _, _, _, _, _, _, _, _, _, _, _, _, _, _, _, _, _, _, _, _, _, _, _, _, _, _, _, _, _, _, _, _, _, _, _, _, _, _, _, _, _, _, _, _, _, _, _, _, _, _, _, _, _, _, _, _, _, _, _, _, _, _, _, _, _, _, _, _, _, _, _, _, _, _, _, _, _, _, _, _, _, _, _, _, _, _, _, _, _, _, _, _, _, _, _, _, _, _, _, _, _, _, _, _, _, _, .bool true, .bool false, .bool false, _, _, _, _, _, _, _, _], []⟩ _)
            · intro u hu
              go_simp
            refine HT.take 3 (.agg #[.string P.E.k, .string P.E.v, .int .i64 P.E.s, .string P.E.r, .int .i64 P.E.m, .slice A7 P.E.fs.length c7, .slice X7 P.E.body.length d7, .int .i64 P.E.asked, .int .i64 P.E.got]) rfl (by kernel_rfl) (fun _ _ _ h => h) (Or.inl ⟨by rfl, ?_⟩) (?_ : HT _ _ _ _ _ _ _ ⟨#[_, _, _, _, _, _, _, _, _, _, _, _, _, _, _, _, _, _, _, _, _, _, _, _, _, _, _, _, _, _, _, _, _, _, _, _, _, _, _, _, _, _, _, _, _, _, _, _, _, _, _, _, _, _, _, _, _, _, _, _, _, _, _, _, _, _, _, _, _, _, _, _, _, _, _, _, _, _, _, _, _, _, _, _, _, _, _, _, _, _, _, _, _, _, _, _, _, _, _, _, _, _, _, _, _, _, _, _, _, _, _, _, _, _, _, _, _, _, _, _, _, _, _, _, _, _, _, _, _, _, _, _, _, _, _, _, .bool true, .bool false, .bool false, .agg #[.string P.E.k, .string P.E.v, .int .i64 P.E.s, .string P.E.r, .int .i64 P.E.m, .slice A7 P.E.fs.length c7, .slice X7 P.E.body.length d7, .int .i64 P.E.asked, .int .i64 P.E.got], _, _, _, _, _, _, _], []⟩ _)
            · intro u hu
              obtain ⟨z0, z1, z2, z3, z4, z5, z6, z7, z8⟩ := (HK14.out.below hu).cells9
              go_simp
            refine HT.take 4 (.slice (some ⟨b6, o6, none⟩) L.length c6) rfl (by kernel_rfl) (fun _ _ _ h => h) (Or.inl ⟨by rfl, ?_⟩) (?_ : HT _ _ _ _ _ _ _ ⟨#[_, _, _, _, _, _, _, _, _, _, _, _, _, _, _, _, _, _, _, _, _, _, _, _, _, _, _, _, _, _, _, _, _, _, _, _, _, _, _, _, _, _, _, _, _, _, _, _, _, _, _, _, _, _, _, _, _, _, _, _, _, _, _, _, _, _, _, _, _, _, _, _, _, _, _, _, _, _, _, _, _, _, _, _, _, _, _, _, _, _, _, _, _, _, _, _, _, _, _, _, _, _, _, _, _, _, _, _, _, _, _, _, _, _, _, _, _, _, _, _, _, _, _, _, _, _, _, _, _, _, _, _, _, _, _, _, .bool true, .bool false, .bool false, .agg #[.string P.E.k, .string P.E.v, .int .i64 P.E.s, .string P.E.r, .int .i64 P.E.m, .slice A7 P.E.fs.length c7, .slice X7 P.E.body.length d7, .int .i64 P.E.asked, .int .i64 P.E.got], .slice (some ⟨b6, o6, none⟩) L.length c6, _, _, _, _, _, _], []⟩ _)
            · intro u hu
              go_simp
            refine HT.take 5 (.int .i64 k) rfl (by kernel_rfl) (fun _ _ _ h => h) (Or.inl ⟨by rfl, ?_⟩) (?_ : HT _ _ _ _ _ _ _ ⟨#[_, _, _, _, _, _, _, _, _, _, _, _, _, _, _, _, _, _, _, _, _, _, _, _, _, _, _, _, _, _, _, _, _, _, _, _, _, _, _, _, _, _, _, _, _, _, _, _, _, _, _, _, _, _, _, _, _, _, _, _, _, _, _, _, _, _, _, _, _, _, _, _, _, _, _, _, _, _, _, _, _, _, _, _, _, _, _, _, _, _, _, _, _, _, _, _, _, _, _, _, _, _, _, _, _, _, _, _, _, _, _, _, _, _, _, _, _, _, _, _, _, _, _, _, _, _, _, _, _, _, _, _, _, _, _, _, .bool true, .bool false, .bool false, .agg #[.string P.E.k, .string P.E.v, .int .i64 P.E.s, .string P.E.r, .int .i64 P.E.m, .slice A7 P.E.fs.length c7, .slice X7 P.E.body.length d7, .int .i64 P.E.asked, .int .i64 P.E.got], .slice (some ⟨b6, o6, none⟩) L.length c6, .int .i64 k, _, _, _, _, _], []⟩ _)
            · intro u hu
              go_simp
            refine HT.take 6 (.pointer (some ⟨b6, o6 + k * 9, none⟩)) rfl (by kernel_rfl) (fun _ _ _ h => h) (Or.inl ⟨by rfl, ?_⟩) (?_ : HT _ _ _ _ _ _ _ ⟨#[_, _, _, _, _, _, _, _, _, _, _, _, _, _, _, _, _, _, _, _, _, _, _, _, _, _, _, _, _, _, _, _, _, _, _, _, _, _, _, _, _, _, _, _, _, _, _, _, _, _, _, _, _, _, _, _, _, _, _, _, _, _, _, _, _, _, _, _, _, _, _, _, _, _, _, _, _, _, _, _, _, _, _, _, _, _, _, _, _, _, _, _, _, _, _, _, _, _, _, _, _, _, _, _, _, _, _, _, _, _, _, _, _, _, _, _, _, _, _, _, _, _, _, _, _, _, _, _, _, _, _, _, _, _, _, _, .bool true, .bool false, .bool false, .agg #[.string P.E.k, .string P.E.v, .int .i64 P.E.s, .string P.E.r, .int .i64 P.E.m, .slice A7 P.E.fs.length c7, .slice X7 P.E.body.length d7, .int .i64 P.E.asked, .int .i64 P.E.got], .slice (some ⟨b6, o6, none⟩) L.length c6, .int .i64 k, .pointer (some ⟨b6, o6 + k * 9, none⟩), _, _, _, _], []⟩ _)
            · intro u hu
              go_simp
            refine HT.take 7 (.agg #[.string P.E.k, .string P.E.v, .int .i64 P.E.s, .string P.E.r, .int .i64 P.E.m, .slice P.A P.E.fs.length P.c, .slice P.X P.E.body.length P.d, .int .i64 P.E.asked, .int .i64 P.E.got]) rfl (by kernel_rfl) (fun _ _ _ h => h) (Or.inl ⟨by rfl, ?_⟩) (?_ : HT _ _ _ _ _ _ _ ⟨#[_, _, _, _, _, _, _, _, _, _, _, _, _, _, _, _, _, _, _, _, _, _, _, _, _, _, _, _, _, _, _, _, _, _, _, _, _, _, _, _, _, _, _, _, _, _, _, _, _, _, _, _, _, _, _, _, _, _, _, _, _, _, _, _, _, _, _, _, _, _, _, _, _, _, _, _, _, _, _, _, _, _, _, _, _, _, _, _, _, _, _, _, _, _, _, _, _, _, _, _, _, _, _, _, _, _, _, _, _, _, _, _, _, _, _, _, _, _, _, _, _, _, _, _, _, _, _, _, _, _, _, _, _, _, _, _, .bool true, .bool false, .bool false, .agg #[.string P.E.k, .string P.E.v, .int .i64 P.E.s, .string P.E.r, .int .i64 P.E.m, .slice A7 P.E.fs.length c7, .slice X7 P.E.body.length d7, .int .i64 P.E.asked, .int .i64 P.E.got], .slice (some ⟨b6, o6, none⟩) L.length c6, .int .i64 k, .pointer (some ⟨b6, o6 + k * 9, none⟩), .agg #[.string P.E.k, .string P.E.v, .int .i64 P.E.s, .string P.E.r, .int .i64 P.E.m, .slice P.A P.E.fs.length P.c, .slice P.X P.E.body.length P.d, .int .i64 P.E.asked, .int .i64 P.E.got], _, _, _], []⟩ _)
            · intro u hu
              obtain ⟨z0, z1, z2, z3, z4, z5, z6, z7, z8⟩ := HAT14.out u hu
              go_simp
            refine HT.step 8 rfl (by kernel_rfl) (fun hS K hK => ?_)
            go_simp
            refine (HSE.out _ hS).mono ?_
            rintro e w15 ⟨rfl, hb15⟩
            refine hK.out _ _ (below_then hS.size hS hb15) ?_
            clear hK hb15 hS
            refine HT.tail _ rfl rfl (by kernel_rfl) (fun hS => ?_)
            have HB15 := Lib.hid hS
            clear hS hS0
            go_wp2_with fail
            refine NoPanic.normal ?_
            go_wp2
            go_roundw
            case rel => exact ⟨k + 1, by omega, by go_num, below_then HBX.out.size HBX.out HB15.out⟩
            case measure => simp [intOf]; omega
end Go.Proofs.YtkempjcphpnocaaGreatDoor
