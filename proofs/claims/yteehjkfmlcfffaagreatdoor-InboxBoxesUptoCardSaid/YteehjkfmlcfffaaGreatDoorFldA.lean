/- The walks of fields.Values and its document's twin. The walks of the document's List; of fields.Tokens and its twin; of the document's Values. -/
import Derived.Test.YteehjkfmlcfffaaGreatDoorTokA
namespace Go.Proofs.YteehjkfmlcfffaaGreatDoor
open Go.RowKit

def FSmall (fs : List FD) : Prop := ∀ f ∈ fs, f.1.size ≤ 1099511627776 ∧ f.2.size ≤ 1099511627776

set_option maxHeartbeats 400000 in
theorem values_any (X : Option Addr) (n d : Nat) (fs : List FD) (name : ByteArray) (w : World) (hn : n ≤ 1099511627776) (hl : fs.length = n) (hf : FSmall fs) (h2 : name.size ≤ 1099511627776) (hx : Rd w X n 2 (fcells fs)) :
    Calls Tryz.prog 86 #[.slice X n d, .string name] w (RetRow w 9 1 (F.values fs name).length (scells (F.values fs name))) := by
  have HL := Lib.hid hl
  clear hl
  go_enter Tryz.func86, Tryz.ntmps86
  go_wp2
  go_loopw [5, 10] (fun o i wr => ∃ (k m : Nat) (A : Option Addr) (c : Nat), k ≤ n ∧ m ≤ k ∧ i = .int .i64 k ∧ o = .slice A m c ∧ m = (F.values (fs.take k) name).length ∧ Row wr w.heap.size 9 1 A m c (scells (F.values (fs.take k) name)) ∧ Below w.heap.size w wr) (fun _ i _ => n - (intOf i).toNat)
  case atStart => exact ⟨0, 0, none, 0, Nat.zero_le _, Nat.le_refl _, rfl, rfl, rfl, Row.none_ _ _ _ _, Below.refl _ _⟩
  case round =>
    obtain ⟨k, m, A, c, hk, hmk, rfl, rfl, hm, hrow, hbel⟩ := hrel
    have HM := Lib.hid hm
    clear hm
    by_cases hlt : k < n
    · obtain ⟨b, o, rfl, hb, c1, c2⟩ := (hx.below hbel).field hlt HL.out
      have hv := F.values_snoc fs name k (by rw [HL.out]; exact hlt)
      obtain ⟨f, hfk⟩ : ∃ f, f = fs[k]'(by rw [HL.out]; exact hlt) := ⟨_, rfl⟩
      have hfs := hf f (by rw [hfk]; exact List.getElem_mem _)
      rw [← hfk] at hv c1 c2
      have HV := Lib.hid hv
      clear hv hfk
      rcases tf (F.is f name) with his | his
      · have hcc := fun w => (is_any f name w hfs.1 h2)
        rw [his] at hcc HV
        have hv : F.values (fs.take (k + 1)) name = F.values (fs.take k) name ++ [f.2] := by rw [HV.out]; simp
        have HV := Lib.hid hv
        clear hv
        go_wp2_with fail
        refine (hcc _).mono ?_
        rintro e w1 ⟨rfl, hb1⟩
        have hc1 := newCell hb1 1 rfl
        have hz1 := size_lt hb1
        have hr1 := hrow.new hb1
        have hB1 := below_new hbel hbel.size hb1
        clear hb1 hrow hbel hcc
        go_wp2_with (at_builtin; refine appS _ rfl (.tmp 17) (.tmp 20) rfl w.heap.size A m c _ rfl (hr1.alloc _) _ 1 1 [f.2] rfl (newS _ _) (by omega) (by have := hB1.size; simp; omega) ?_; intro A1 c1 w2 hr2 ha2)
        go_roundw
        case rel =>
          refine ⟨k + 1, m + 1, A1, c1, by omega, by omega, by go_num, rfl, ?_, ?_, ?_⟩
          · rw [HV.out, List.length_append, HM.out]; rfl
          · rw [HV.out]; exact hr2
          · exact (hB1.alloc hB1.size _).trans (ha2.below (hr1.alloc _) (by have := hB1.size; simp; omega))
        case measure => simp [intOf]; omega
      · have hcc := fun w => (is_any f name w hfs.1 h2)
        rw [his] at hcc HV
        have hv : F.values (fs.take (k + 1)) name = F.values (fs.take k) name := by rw [HV.out]; simp
        have HV := Lib.hid hv
        clear hv
        go_wp2_with fail
        refine (hcc _).mono ?_
        rintro e w1 ⟨rfl, hb1⟩
        have hr1 := hrow.new hb1
        have hB1 := below_new hbel hbel.size hb1
        clear hb1 hrow hbel hcc
        go_wp2
        go_roundw
        case rel => exact ⟨k + 1, m, A, c, by omega, by omega, by go_num, rfl, by rw [HV.out, HM.out], by rw [HV.out]; exact hr1, hB1⟩
        case measure => simp [intOf]; omega
    · have hkn : k = n := by omega
      have ht : fs.take k = fs := List.take_of_length_le (by have := HL.out; omega)
      rw [ht] at hrow
      have HM2 : Hid (m = (F.values fs name).length) := by have := HM.out; rw [ht] at this; exact this
      clear hkn ht HM
      go_wp2
      go_ret
      refine ⟨A, c, ?_, ?_, hbel⟩
      · rw [← HM2.out]; rfl
      · rw [← HM2.out]; exact hrow
end Go.Proofs.YteehjkfmlcfffaaGreatDoor

namespace Go.Proofs.YteehjkfmlcfffaaGreatDoor
open Go.RowKit

theorem fpieces_trim (s : ByteArray) : (F.pieces 44 s).map (fun p => B (T.trim (L p))) = F.split 44 s := by
  unfold F.pieces F.split
  rw [List.map_map]
  rfl
theorem mem_pieces : ∀ (c : UInt8) (n : Nat) (q : Bool) (cur l p : List UInt8), l.length ≤ n → p ∈ T.pieces c q cur l → p.length ≤ cur.length + l.length := by
  intro c n
  induction n with
  | zero =>
    intro q cur l p h hp
    have : l = [] := List.eq_nil_of_length_eq_zero (by omega)
    subst this
    simp [T.pieces] at hp
    subst hp; simp
  | succ n ih =>
    intro q cur l p h hp
    cases l with
    | nil => simp [T.pieces] at hp; subst hp; simp
    | cons x r =>
      rw [T.pieces_cons] at hp
      simp only [List.length_cons] at h ⊢
      split at hp
      · cases r with
        | nil => simp at hp; subst hp; simp
        | cons y r' =>
          have := ih q (cur ++ [x, y]) r' p (by simp at h; omega) hp
          simp at this ⊢; omega
      · split at hp
        · have := ih (!q) (cur ++ [x]) r p (by omega) hp; simp at this; omega
        · split at hp
          · rcases List.mem_cons.1 hp with rfl | hp
            · omega
            · have := ih q [] r p (by omega) hp; simp at this; omega
          · have := ih q (cur ++ [x]) r p (by omega) hp; simp at this; omega
theorem mem_fpieces {c : UInt8} {s p : ByteArray} (h : p ∈ F.pieces c s) : p.size ≤ s.size := by
  unfold F.pieces at h
  obtain ⟨q, hq, rfl⟩ := List.mem_map.1 h
  have := mem_pieces c _ false [] (L s) q (Nat.le_refl _) hq
  rw [B_size, L_size s]; simpa using this
theorem mem_split {c : UInt8} {s p : ByteArray} (h : p ∈ F.split c s) : p.size ≤ s.size := by
  unfold F.split at h
  obtain ⟨q, hq, rfl⟩ := List.mem_map.1 h
  have := mem_pieces c _ false [] (L s) q (Nat.le_refl _) hq
  have h2 := T.trim_len q
  rw [B_size, L_size s]; simp at this; omega
theorem mem_list {s p : ByteArray} (h : p ∈ F.list s) : p.size ≤ s.size := mem_split (List.mem_filter.1 h).1

set_option maxHeartbeats 400000 in
theorem refList_any (s : ByteArray) (w : World) (hs : s.size ≤ 1099511627776) :
    Calls Tryz.prog 218 #[.string s] w (RetRow w 9 1 (F.list s).length (scells (F.list s))) := by
  go_enter Tryz.func218, Tryz.ntmps218
  go_wp2_with fail
  refine (pieces44 s _ hs).mono ?_
  rintro e w1 ⟨X, d, rfl, hX, hb1⟩
  have hle := fpieces_len 44 s
  have hsm : ∀ p ∈ F.pieces 44 s, p.size ≤ 1099511627776 := fun p hp => Nat.le_trans (mem_fpieces hp) hs
  obtain ⟨ps, hps⟩ : ∃ ps, ps = F.pieces 44 s := ⟨_, rfl⟩
  have hfin : F.list s = (ps.map (fun p => B (T.trim (L p)))).filter full := by rw [hps, fpieces_trim]; rfl
  rw [← hps] at hX hle hsm ⊢
  obtain ⟨n, hn⟩ : ∃ n, n = ps.length := ⟨_, rfl⟩
  rw [← hn] at hX hle ⊢
  have HP := Lib.hid hps; clear hps
  have HN := Lib.hid hn; clear hn
  have HF := Lib.hid hfin; clear hfin
  have HS := Lib.hid hsm; clear hsm
  have hx := hX.rd
  clear hX
  go_wp2
  go_loopw [4, 5, 6] (fun o i _ wr => ∃ (k m : Nat) (A : Option Addr) (c : Nat), k ≤ n ∧ m ≤ k ∧ i = .int .i64 k ∧ o = .slice A m c ∧ m = (((ps.take k).map (fun p => B (T.trim (L p)))).filter full).length ∧ Row wr w1.heap.size 9 1 A m c (scells (((ps.take k).map (fun p => B (T.trim (L p)))).filter full)) ∧ Below w1.heap.size w1 wr) (fun _ i _ _ => n - (intOf i).toNat)
  case atStart => exact ⟨0, 0, _, 0, Nat.zero_le _, Nat.le_refl _, rfl, rfl, rfl, Row.empty _ _ _ _ _, (Below.refl _ _).alloc (Nat.le_refl _) _⟩
  case round =>
    obtain ⟨k, m, A, c, hk, hmk, rfl, rfl, hm, hrow, hbel⟩ := hrel
    have HM := Lib.hid hm
    clear hm
    by_cases hlt : k < n
    · obtain ⟨b, o, rfl, hb, c1⟩ := (hx.below hbel).str hlt HN.out.symm
      have hkl : k < ps.length := by rw [← HN.out]; exact hlt
      have hv : ((ps.take (k + 1)).map (fun p => B (T.trim (L p)))).filter full = ((ps.take k).map (fun p => B (T.trim (L p)))).filter full ++ (if full (B (T.trim (L (ps[k]'hkl)))) then [B (T.trim (L (ps[k]'hkl)))] else []) := by
        rw [map_snoc _ _ _ hkl, List.filter_append]
        congr 1
        by_cases h : full (B (T.trim (L (ps[k]'hkl)))) = true
        · simp [h]
        · simp [h]
      have hsx := HS.out _ (List.getElem_mem hkl)
      obtain ⟨x, hxk⟩ : ∃ x, x = ps[k]'hkl := ⟨_, rfl⟩
      rw [← hxk] at hv c1 hsx
      clear hxk
      have HV0 := Lib.hid hv; clear hv
      go_wp2_with fail
      refine (refTrim_any x _ hsx).mono ?_
      rintro e w2 ⟨rfl, hb2⟩
      have hr2 := hrow.below hb2
      have hB2 := below_then hbel.size hbel hb2
      have hz2 := hbel.size
      have hz3 := hb2.size
      clear hb2 hrow hbel
      have hv := HV0.out
      clear HV0
      obtain ⟨y, hy⟩ : ∃ y, y = B (T.trim (L x)) := ⟨_, rfl⟩
      rw [← hy] at hv ⊢
      clear hy
      rcases tf (full y) with hfx | hfx
      · obtain ⟨f1, f2⟩ := full_true hfx
        rw [hfx] at hv
        have HV := Lib.hid hv; clear hv hfx
        go_wp2_with (at_builtin; refine appS _ rfl (.tmp 23) (.tmp 25) rfl w1.heap.size A m c _ rfl (hr2.alloc _) _ 1 1 [y] rfl (newS _ _) (by omega) (by simp; omega) ?_; intro A1 c1 w2 hr2' ha2)
        go_roundw
        case rel =>
          refine ⟨k + 1, m + 1, A1, c1, by omega, by omega, by go_num, rfl, ?_, ?_, ?_⟩
          · rw [HV.out, List.length_append, HM.out]; rfl
          · rw [HV.out]; exact hr2'
          · exact (hB2.alloc (by omega) _).trans (ha2.below (hr2.alloc _) (by simp; omega))
        case measure => simp [intOf]; omega
      · obtain ⟨f1, f2⟩ := full_false hfx
        rw [hfx] at hv
        have HV := Lib.hid hv; clear hv hfx
        go_wp2
        go_roundw
        case rel => exact ⟨k + 1, m, A, c, by omega, by omega, by go_num, rfl, by rw [HV.out, HM.out]; simp, by rw [HV.out]; simpa using hr2, hB2⟩
        case measure => simp [intOf]; omega
    · have ht : ps.take k = ps := List.take_of_length_le (by have := HN.out; omega)
      rw [ht] at hrow
      have HM2 : Hid (m = (F.list s).length) := by have := HM.out; rw [ht] at this; rw [HF.out]; exact this
      clear ht HM
      go_wp2
      go_ret
      refine ⟨A, c, ?_, ?_, hb1.trans (hbel.mono hb1.size)⟩
      · rw [← HM2.out]; rfl
      · rw [← HM2.out, HF.out]; exact hrow.mono hb1.size
theorem values_small {fs : List FD} {name : ByteArray} (hf : FSmall fs) : ∀ v ∈ F.values fs name, v.size ≤ 1099511627776 := by
  intro v hv
  unfold F.values at hv
  obtain ⟨f, hfm, rfl⟩ := List.mem_map.1 hv
  exact (hf f (List.mem_filter.1 hfm).1).2

set_option maxHeartbeats 400000 in
theorem refValues_any (X : Option Addr) (n d : Nat) (fs : List FD) (name : ByteArray) (w : World) (hn : n ≤ 1099511627776) (hl : fs.length = n) (hf : FSmall fs) (h2 : name.size ≤ 1099511627776) (hx : Rd w X n 2 (fcells fs)) :
    Calls Tryz.prog 159 #[.slice X n d, .string name] w (RetRow w 9 1 (F.values fs name).length (scells (F.values fs name))) := by
  have HL := Lib.hid hl
  clear hl
  go_enter Tryz.func159, Tryz.ntmps159
  go_wp2
  go_loopw [5, 6] (fun o i wr => ∃ (k m : Nat) (A : Option Addr) (c : Nat), k ≤ n ∧ m ≤ k ∧ i = .int .i64 k ∧ o = .slice A m c ∧ m = (F.values (fs.take k) name).length ∧ Row wr w.heap.size 9 1 A m c (scells (F.values (fs.take k) name)) ∧ Below w.heap.size w wr) (fun _ i _ => n - (intOf i).toNat)
  case atStart => exact ⟨0, 0, _, 0, Nat.zero_le _, Nat.le_refl _, rfl, rfl, rfl, Row.empty _ _ _ _ _, (Below.refl _ _).alloc (Nat.le_refl _) _⟩
  case round =>
    obtain ⟨k, m, A, c, hk, hmk, rfl, rfl, hm, hrow, hbel⟩ := hrel
    have HM := Lib.hid hm
    clear hm
    by_cases hlt : k < n
    · have hxr := hx.below hbel
      obtain ⟨b, o, rfl, hb, c1, c2⟩ := hxr.field hlt HL.out
      have hv := F.values_snoc fs name k (by rw [HL.out]; exact hlt)
      obtain ⟨f, hfk⟩ : ∃ f, f = fs[k]'(by rw [HL.out]; exact hlt) := ⟨_, rfl⟩
      have hfs := hf f (by rw [hfk]; exact List.getElem_mem _)
      rw [← hfk] at hv c1 c2
      have HV := Lib.hid hv
      clear hv
      have HK := Lib.hid hfk
      clear hfk
      go_wp2_with fail
      refine (lower_any f.1 _ hfs.1).mono ?_
      rintro e w1 ⟨rfl, hb1⟩
      go_wp2_with fail
      refine (lower_any name _ h2).mono ?_
      rintro e w2 ⟨rfl, hb2⟩
      have hb12 := below_next hb1 hb2
      have hz1 := hb12.size
      have hz2 := hbel.size
      have hr2 := hrow.below hb12
      have hB2 := below_then hbel.size hbel hb12
      obtain ⟨b', o', hbo, hb', c1', c2'⟩ := (hxr.below hb12).field hlt HL.out
      cases hbo
      rw [← HK.out] at c2'
      clear hb1 hb2 hb12 hrow hbel hxr c1 c2 c1' HK
      rcases tf (F.is f name) with his | his
      · have e1 : ((B (T.fold (L f.1))).toList == (B (T.fold (L name))).toList) = true := by rw [beq_bytes, of_decide_eq_true his]; simp
        have HV2 : Hid (F.values (fs.take (k + 1)) name = F.values (fs.take k) name ++ [f.2]) := by have := HV.out; rw [his] at this; exact this
        clear HV his
        go_wp2_with (at_builtin; refine appS _ rfl (.tmp 23) (.tmp 29) rfl w.heap.size A m c _ rfl (hr2.alloc _) _ 1 1 [f.2] rfl (newS _ _) (by omega) (by simp; omega) ?_; intro A1 c1 w3 hr3 ha3)
        go_roundw
        case rel =>
          refine ⟨k + 1, m + 1, A1, c1, by omega, by omega, by go_num, rfl, ?_, ?_, ?_⟩
          · rw [HV2.out, List.length_append, HM.out]; rfl
          · rw [HV2.out]; exact hr3
          · exact (hB2.alloc (by omega) _).trans (ha3.below (hr2.alloc _) (by simp; omega))
        case measure => simp [intOf]; omega
      · have e1 : ((B (T.fold (L f.1))).toList == (B (T.fold (L name))).toList) = false := by rw [beq_bytes, decide_eq_false]; exact fun h => of_decide_eq_false his (B_inj h)
        have hv2 : F.values (fs.take (k + 1)) name = F.values (fs.take k) name := by have := HV.out; rw [his] at this; simpa using this
        have HV2 := Lib.hid hv2
        clear hv2
        clear HV his
        go_wp2
        go_roundw
        case rel => exact ⟨k + 1, m, A, c, by omega, by omega, by go_num, rfl, by rw [HV2.out, HM.out], by rw [HV2.out]; exact hr2, hB2⟩
        case measure => simp [intOf]; omega
    · have hkn : k = n := by omega
      have ht : fs.take k = fs := List.take_of_length_le (by have := HL.out; omega)
      rw [ht] at hrow
      have HM2 : Hid (m = (F.values fs name).length) := by have := HM.out; rw [ht] at this; exact this
      clear hkn ht HM
      go_wp2
      go_ret
      refine ⟨A, c, ?_, ?_, hbel⟩
      · rw [← HM2.out]; rfl
      · rw [← HM2.out]; exact hrow

set_option maxHeartbeats 800000 in
theorem tokens_any (X : Option Addr) (n d : Nat) (fs : List FD) (name : ByteArray) (w : World) (hn : n ≤ 1099511627776) (hl : fs.length = n) (hf : FSmall fs) (h2 : name.size ≤ 1099511627776) (htot : (F.tokens fs name).length ≤ 1099511627776) (hx : Rd w X n 2 (fcells fs)) :
    Calls Tryz.prog 38 #[.slice X n d, .string name] w (RetRow w 9 1 (F.tokens fs name).length (scells (F.tokens fs name))) := by
  go_enter Tryz.func38, Tryz.ntmps38
  go_wp2_with fail
  refine (values_any X n d fs name _ hn hl hf h2 hx).mono ?_
  rintro e w1 ⟨Y, dy, rfl, hY, hb1⟩
  have hsm : ∀ v ∈ F.values fs name, v.size ≤ 1099511627776 := values_small hf
  have hfin := F.tokens_eq fs name
  have hle := F.values_le fs name
  rw [hl] at hle
  obtain ⟨vs, hvs⟩ : ∃ vs, vs = F.values fs name := ⟨_, rfl⟩
  rw [← hvs] at hY hle hsm hfin ⊢
  rw [hfin] at htot
  obtain ⟨nv, hnv⟩ : ∃ nv, nv = vs.length := ⟨_, rfl⟩
  rw [← hnv] at hY hle ⊢
  have HV := Lib.hid hvs; clear hvs
  have HN := Lib.hid hnv; clear hnv
  have HF := Lib.hid hfin; clear hfin
  have HS := Lib.hid hsm; clear hsm
  have HL := Lib.hid hl; clear hl
  have hy := hY.rd
  clear hY hx hf
  have hnn : nv ≤ 1099511627776 := Nat.le_trans hle hn
  go_wp2
  go_loopw [5, 7, 9, 14, 21] (fun o _ _ i _ wr => ∃ (k m : Nat) (A : Option Addr) (c : Nat), k ≤ nv ∧ i = .int .i64 k ∧ o = .slice A m c ∧ m = (F.toks (vs.take k)).length ∧ Row wr w1.heap.size 9 1 A m c (scells (F.toks (vs.take k))) ∧ Below w1.heap.size w1 wr) (fun _ _ _ i _ _ => n - (intOf i).toNat)
  case atStart => exact ⟨0, 0, none, 0, Nat.zero_le _, rfl, rfl, rfl, Row.none_ _ _ _ _, Below.refl _ _⟩
  case round =>
    obtain ⟨k, m, A, c, hk, rfl, rfl, hm, hrow, hbel⟩ := hrel
    have HM := Lib.hid hm
    clear hm
    by_cases hlt : k < nv
    · have hkl : k < vs.length := by rw [← HN.out]; exact hlt
      obtain ⟨b, o, rfl, hb, c1⟩ := (hy.below hbel).str hlt HN.out.symm
      have hsn := F.toks_snoc vs k hkl
      have hle1 := F.toks_le vs (k + 1)
      have hsx := HS.out _ (List.getElem_mem hkl)
      obtain ⟨x, hxk⟩ : ∃ x, x = vs[k]'hkl := ⟨_, rfl⟩
      rw [← hxk] at hsn c1 hsx
      clear hxk
      have hlen : m + (F.list x).length ≤ 1099511627776 := by
        rw [hsn, List.length_append, List.length_map] at hle1
        rw [HM.out]; omega
      have HSN := Lib.hid hsn; clear hsn hle1
      go_wp2_with fail
      refine (list_any x _ hsx).mono ?_
      rintro e w2 ⟨E, de, rfl, hE, hb2⟩
      have hr2 := hrow.below hb2
      have hB2 := below_then hbel.size hbel hb2
      have hz2 := hbel.size
      have hz3 := hb2.size
      have hsep0 := Sep.fresh hrow hE
      have hes : ∀ p ∈ F.list x, p.size ≤ 1099511627776 := fun p hp => Nat.le_trans (mem_list hp) hsx
      obtain ⟨es, hxs⟩ : ∃ es, es = F.list x := ⟨_, rfl⟩
      rw [← hxs] at hE hsep0 hes hlen HSN ⊢
      obtain ⟨ne, hne⟩ : ∃ ne, ne = es.length := ⟨_, rfl⟩
      rw [← hne] at hE hsep0 hlen ⊢
      have HNE := Lib.hid hne
      have HES := Lib.hid hes
      have HE := Lib.hid hE.rd
      have HSEP := Lib.hid hsep0
      clear hb2 hrow hbel hxs hne hes hE hsep0
      go_wp2
      go_loopw [5, 9, 21] (fun o _ i wi => ∃ (j m' : Nat) (A' : Option Addr) (c' : Nat), j ≤ ne ∧ i = .int .i64 j ∧ o = .slice A' m' c' ∧ m' = m + j ∧ Row wi w1.heap.size 9 1 A' m' c' (scells (F.toks (vs.take k) ++ (es.take j).map fun el => B (T.fold (L el)))) ∧ Rd wi E ne 1 (scells es) ∧ Sep A' c' E ne ∧ Below w1.heap.size w1 wi) (fun _ _ i _ => ne - (intOf i).toNat)
      case atStart => exact ⟨0, m, A, c, Nat.zero_le _, rfl, rfl, rfl, by simpa using hr2, HE.out, HSEP.out, hB2⟩
      case round =>
        clear hr2 hB2
        obtain ⟨j, m', A', c', hj, rfl, rfl, hm', hrow, hrd, hsep, hbel⟩ := hrel
        have hml : m' ≤ 1099511627776 := by omega
        have hmm : m' = m + j := hm'
        have HM' := Lib.hid hm'
        clear hm'
        by_cases hlt2 : j < ne
        · have hjl : j < es.length := by rw [← HNE.out]; exact hlt2
          obtain ⟨b2, o2, rfl, hb2, c2⟩ := hrd.str hlt2 HNE.out.symm
          have hsy := HES.out _ (List.getElem_mem hjl)
          have hsn2 := map_snoc (fun el => B (T.fold (L el))) es j hjl
          obtain ⟨y, hyj⟩ : ∃ y, y = es[j]'hjl := ⟨_, rfl⟩
          rw [← hyj] at c2 hsy hsn2
          clear hyj hmm
          have HSN2 := Lib.hid hsn2; clear hsn2
          go_wp2_with fail
          refine (fold_any y _ hsy).mono ?_
          rintro e w3 ⟨rfl, hb3⟩
          have hr3 := hrow.below hb3
          have hd3 := hrd.below hb3
          have hB3 := below_then hbel.size hbel hb3
          have hz4 := hbel.size
          have hz5 := hb3.size
          clear hb3 hrow hbel hrd
          go_wp2_with (at_builtin; refine appS _ rfl (.tmp 25) (.tmp 28) rfl w1.heap.size A' m' c' _ rfl (hr3.alloc _) _ 1 1 _ rfl (newS _ _) (by omega) (by simp; omega) ?_; intro A1 c1 w4 hr4 ha4)
          go_roundw
          case rel =>
            refine ⟨j + 1, m' + 1, A1, c1, by omega, by go_num, rfl, by rw [HM'.out]; omega, ?_, ?_, ?_, ?_⟩
            · rw [HSN2.out, ← List.append_assoc]; exact hr4
            · exact ha4.rd (hd3.alloc _) hsep
            · exact ha4.sep (hd3.alloc _) hsep
            · exact (hB3.alloc (by omega) _).trans (ha4.below (hr3.alloc _) (by simp; omega))
          case measure => simp [intOf]; omega
        · have hjn : j = ne := by omega
          have ht : es.take j = es := List.take_of_length_le (by rw [← HNE.out]; omega)
          rw [ht, ← HSN.out] at hrow
          have hmf : m' = (F.toks (vs.take (k + 1))).length := by rw [HSN.out, List.length_append, List.length_map, ← HNE.out, ← HM.out, ← hjn]; exact HM'.out
          have HMF := Lib.hid hmf
          clear hjn ht hmf hmm
          go_wp2
          go_roundw
          case rel => exact ⟨k + 1, m', A', c', by omega, by go_num, rfl, HMF.out, hrow, hbel⟩
          case measure => simp [intOf]; omega
    · have ht : vs.take k = vs := List.take_of_length_le (by have := HN.out; omega)
      rw [ht] at hrow
      have HM2 : Hid (m = (F.tokens fs name).length) := by have := HM.out; rw [ht] at this; rw [HF.out]; exact this
      clear ht HM
      go_wp2
      go_ret
      refine ⟨A, c, ?_, ?_, hb1.trans (hbel.mono hb1.size)⟩
      · rw [← HM2.out]; rfl
      · rw [← HM2.out, HF.out]; exact hrow.mono hb1.size

set_option maxHeartbeats 800000 in
theorem refTokens_any (X : Option Addr) (n d : Nat) (fs : List FD) (name : ByteArray) (w : World) (hn : n ≤ 1099511627776) (hl : fs.length = n) (hf : FSmall fs) (h2 : name.size ≤ 1099511627776) (htot : (F.tokens fs name).length ≤ 1099511627776) (hx : Rd w X n 2 (fcells fs)) :
    Calls Tryz.prog 217 #[.slice X n d, .string name] w (RetRow w 9 1 (F.tokens fs name).length (scells (F.tokens fs name))) := by
  go_enter Tryz.func217, Tryz.ntmps217
  go_wp2_with fail
  refine (refValues_any X n d fs name _ hn hl hf h2 (hx.alloc _)).mono ?_
  rintro e w1 ⟨Y, dy, rfl, hY, hb1⟩
  have hb0 : Below w.heap.size w w1 := below_new (Below.refl _ _) (Nat.le_refl _) hb1
  have hsm : ∀ v ∈ F.values fs name, v.size ≤ 1099511627776 := values_small hf
  have hfin := F.tokens_eq fs name
  have hle := F.values_le fs name
  rw [hl] at hle
  obtain ⟨vs, hvs⟩ : ∃ vs, vs = F.values fs name := ⟨_, rfl⟩
  rw [← hvs] at hY hle hsm hfin ⊢
  rw [hfin] at htot
  obtain ⟨nv, hnv⟩ : ∃ nv, nv = vs.length := ⟨_, rfl⟩
  rw [← hnv] at hY hle ⊢
  have HV := Lib.hid hvs; clear hvs
  have HN := Lib.hid hnv; clear hnv
  have HF := Lib.hid hfin; clear hfin
  have HS := Lib.hid hsm; clear hsm
  have HL := Lib.hid hl; clear hl
  have hy := hY.rd
  clear hY hx hf
  have hnn : nv ≤ 1099511627776 := Nat.le_trans hle hn
  go_wp2
  go_loopw [5, 7, 8, 9] (fun o i _ _ wr => ∃ (k m : Nat) (A : Option Addr) (c : Nat), k ≤ nv ∧ i = .int .i64 k ∧ o = .slice A m c ∧ m = (F.toks (vs.take k)).length ∧ Row wr w1.heap.size 9 1 A m c (scells (F.toks (vs.take k))) ∧ Below w1.heap.size w1 wr) (fun _ i _ _ _ => n - (intOf i).toNat)
  case atStart => exact ⟨0, 0, _, 0, Nat.zero_le _, rfl, rfl, rfl, Row.empty _ _ _ _ _, Below.refl _ _⟩
  case round =>
    obtain ⟨k, m, A, c, hk, rfl, rfl, hm, hrow, hbel⟩ := hrel
    have HM := Lib.hid hm
    clear hm
    by_cases hlt : k < nv
    · have hkl : k < vs.length := by rw [← HN.out]; exact hlt
      obtain ⟨b, o, rfl, hb, c1⟩ := (hy.below hbel).str hlt HN.out.symm
      have hsn := F.toks_snoc vs k hkl
      have hle1 := F.toks_le vs (k + 1)
      have hsx := HS.out _ (List.getElem_mem hkl)
      obtain ⟨x, hxk⟩ : ∃ x, x = vs[k]'hkl := ⟨_, rfl⟩
      rw [← hxk] at hsn c1 hsx
      clear hxk
      have hlen : m + (F.list x).length ≤ 1099511627776 := by
        rw [hsn, List.length_append, List.length_map] at hle1
        rw [HM.out]; omega
      have HSN := Lib.hid hsn; clear hsn hle1
      go_wp2_with fail
      refine (refList_any x _ hsx).mono ?_
      rintro e w2 ⟨E, de, rfl, hE, hb2⟩
      have hr2 := hrow.below hb2
      have hB2 := below_then hbel.size hbel hb2
      have hz2 := hbel.size
      have hz3 := hb2.size
      have hsep0 := Sep.fresh hrow hE
      have hes : ∀ p ∈ F.list x, p.size ≤ 1099511627776 := fun p hp => Nat.le_trans (mem_list hp) hsx
      obtain ⟨es, hxs⟩ : ∃ es, es = F.list x := ⟨_, rfl⟩
      rw [← hxs] at hE hsep0 hes hlen HSN ⊢
      obtain ⟨ne, hne⟩ : ∃ ne, ne = es.length := ⟨_, rfl⟩
      rw [← hne] at hE hsep0 hlen ⊢
      have HNE := Lib.hid hne
      have HES := Lib.hid hes
      have HE := Lib.hid hE.rd
      have HSEP := Lib.hid hsep0
      clear hb2 hrow hbel hxs hne hes hE hsep0
      go_wp2
      go_loopw [5, 9] (fun o i wi => ∃ (j m' : Nat) (A' : Option Addr) (c' : Nat), j ≤ ne ∧ i = .int .i64 j ∧ o = .slice A' m' c' ∧ m' = m + j ∧ Row wi w1.heap.size 9 1 A' m' c' (scells (F.toks (vs.take k) ++ (es.take j).map fun el => B (T.fold (L el)))) ∧ Rd wi E ne 1 (scells es) ∧ Sep A' c' E ne ∧ Below w1.heap.size w1 wi) (fun _ i _ => ne - (intOf i).toNat)
      case atStart => exact ⟨0, m, A, c, Nat.zero_le _, rfl, rfl, rfl, by simpa using hr2, HE.out, HSEP.out, hB2⟩
      case round =>
        clear hr2 hB2
        obtain ⟨j, m', A', c', hj, rfl, rfl, hm', hrow, hrd, hsep, hbel⟩ := hrel
        have hml : m' ≤ 1099511627776 := by omega
        have hmm : m' = m + j := hm'
        have HM' := Lib.hid hm'
        clear hm'
        by_cases hlt2 : j < ne
        · have hjl : j < es.length := by rw [← HNE.out]; exact hlt2
          obtain ⟨b2, o2, rfl, hb2, c2⟩ := hrd.str hlt2 HNE.out.symm
          have hsy := HES.out _ (List.getElem_mem hjl)
          have hsn2 := map_snoc (fun el => B (T.fold (L el))) es j hjl
          obtain ⟨y, hyj⟩ : ∃ y, y = es[j]'hjl := ⟨_, rfl⟩
          rw [← hyj] at c2 hsy hsn2
          clear hyj hmm
          have HSN2 := Lib.hid hsn2; clear hsn2
          go_wp2_with fail
          refine (lower_any y _ hsy).mono ?_
          rintro e w3 ⟨rfl, hb3⟩
          have hr3 := hrow.below hb3
          have hd3 := hrd.below hb3
          have hB3 := below_then hbel.size hbel hb3
          have hz4 := hbel.size
          have hz5 := hb3.size
          clear hb3 hrow hbel hrd
          go_wp2_with (at_builtin; refine appS _ rfl (.tmp 31) (.tmp 37) rfl w1.heap.size A' m' c' _ rfl (hr3.alloc _) _ 1 1 _ rfl (newS _ _) (by omega) (by simp; omega) ?_; intro A1 c1 w4 hr4 ha4)
          go_roundw
          case rel =>
            refine ⟨j + 1, m' + 1, A1, c1, by omega, by go_num, rfl, by rw [HM'.out]; omega, ?_, ?_, ?_, ?_⟩
            · rw [HSN2.out, ← List.append_assoc]; exact hr4
            · exact ha4.rd (hd3.alloc _) hsep
            · exact ha4.sep (hd3.alloc _) hsep
            · exact (hB3.alloc (by omega) _).trans (ha4.below (hr3.alloc _) (by simp; omega))
          case measure => simp [intOf]; omega
        · have hjn : j = ne := by omega
          have ht : es.take j = es := List.take_of_length_le (by rw [← HNE.out]; omega)
          rw [ht, ← HSN.out] at hrow
          have hmf : m' = (F.toks (vs.take (k + 1))).length := by rw [HSN.out, List.length_append, List.length_map, ← HNE.out, ← HM.out, ← hjn]; exact HM'.out
          have HMF := Lib.hid hmf
          clear hjn ht hmf hmm
          go_wp2
          go_roundw
          case rel => exact ⟨k + 1, m', A', c', by omega, by go_num, rfl, HMF.out, hrow, hbel⟩
          case measure => simp [intOf]; omega
    · have ht : vs.take k = vs := List.take_of_length_le (by have := HN.out; omega)
      rw [ht] at hrow
      have HM2 : Hid (m = (F.tokens fs name).length) := by have := HM.out; rw [ht] at this; rw [HF.out]; exact this
      clear ht HM
      go_wp2
      go_ret
      refine ⟨A, c, ?_, ?_, hb0.trans (hbel.mono hb0.size)⟩
      · rw [← HM2.out]; rfl
      · rw [← HM2.out, HF.out]; exact hrow.mono hb0.size

end Go.Proofs.YteehjkfmlcfffaaGreatDoor
