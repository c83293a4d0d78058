/- The walk of the log's Open over a disk without a log, where its three first steps answer OK. Conditions: what the disk's steps ask. Arguments opened: a script of the Store laws. No condition: plain lemmas. -/
import Derived.Test.YtkempjcphpnocaaGreatDoorZ10
import Derived.Test.YtkempjcphpnocaaGreatDoorZ18
import Derived.Test.YtkempjcphpnocaaGreatDoorOpenA
namespace Go.Proofs.YtkempjcphpnocaaGreatDoor
open Go Go.RowKit Go.Maps

section
variable (B l : Nat) (M : DM) (d : D.Dsk) (count m bx : Nat) (w : World)
set_option maxHeartbeats 1000000 in
theorem op1_any (h : LgAt B l M d count w) (hf : D.Fit m d) (hm : m ≤ 134217728) (hb : Blk w bx #[.pointer (some ⟨M.d, 0, none⟩)] 30) :
    Calls Tryz.prog 59 #[.pointer (some ⟨bx, 0, none⟩)] w (RetLog B l M d w ((d.create S.logN).1, count, (d.create S.logN).2)) := by
  have HC := Lib.hid (create_any B M d S.logN w h.disk (hf.sml (by omega)) hf.ok log_small.1)
  have HD := Lib.hid h
  have z0 := hb.cells1
  clear h hb
  go_enter Tryz.func59, Tryz.ntmps59
  go_wp2_with fail
  refine HC.out.mono ?_
  rintro e w4 hr4
  have h4 := RetStep.log HD.out hr4
  obtain ⟨rfl, h5⟩ := h4
  clear hr4 HC z0
  go_wp2
  go_ret
  exact ⟨rfl, h5⟩
set_option maxHeartbeats 1000000 in
theorem op2_any (h : LgAt B l M d count w) (hf : D.Fit m d) (hm : m ≤ 134217728) (hb : Blk w bx #[.pointer (some ⟨M.d, 0, none⟩)] 30) :
    Calls Tryz.prog 61 #[.pointer (some ⟨bx, 0, none⟩)] w (RetLog B l M d w ((d.sync S.logN).1, count, (d.sync S.logN).2)) := by
  have HC := Lib.hid (syncS_any B M d S.logN w h.disk (hf.sml (by omega)) hf.ok log_small.1)
  have HD := Lib.hid h
  have z0 := hb.cells1
  clear h hb
  go_enter Tryz.func61, Tryz.ntmps61
  go_wp2_with fail
  refine HC.out.mono ?_
  rintro e w4 hr4
  have h4 := RetStep.log HD.out hr4
  obtain ⟨rfl, h5⟩ := h4
  clear hr4 HC z0
  go_wp2
  go_ret
  exact ⟨rfl, h5⟩
end
theorem Row.capNone {w : World} {base size n c : Nat} {e : TypeId} {A : Option Addr} {xs : List Value} (h : Row w base e size A n c xs) : A = none → c = 0 := by
  intro hA
  rcases h with ⟨_, hr⟩ | ⟨_, h, _⟩
  · rcases hr with ⟨hv, _⟩ | ⟨g, cap, cur, hv, _⟩
    · injection hv
    · injection hv with h1 h2 h3
      rw [hA] at h1
      cases h1
  · exact h
/-- What the log's Open answers where a new log was laid. -/
def RetOpen (B : Nat) (M : DM) (d : D.Dsk) (w : World) (d3 : D.Dsk) (e : Ending) (w' : World) : Prop :=
  ∃ l M', e = .returned (.tuple #[.pointer (some ⟨l, 0, none⟩), .slice none 0 0, .int .i64 0]) ∧ LgAt B l M' d3 0 w' ∧ Went (M.foot d) w (lgFoot l M' d3) w' ∧ M'.d = M.d
set_option maxRecDepth 100000 in
set_option maxHeartbeats 4000000 in
theorem logOpen0_any (B : Nat) (M : DM) (d d3 : D.Dsk) (m : Nat) (w : World) (h : DkAt B M d w) (hf : D.Fit m d) (hm : m ≤ 134217000) (hnew : S.has d.list S.newN = false) (hrd : d.read S.logN = ([], 90)) (hst : S.steps d S.firsts = (d3, 3, 0)) :
    Calls Tryz.prog 30 #[.pointer (some ⟨M.d, 0, none⟩)] w (RetOpen B M d w d3) := by
  have HD := Lib.hid h
  have HF := Lib.hid hf
  have hln : d.now.length ≤ 1073741824 := Nat.le_trans hf.now (by omega)
  have HLI := Lib.hid (fun (u : World) (hu : Below w.heap.size w u) => dlist_any B M d u (h.below hu) hf.ok hln)
  have HRE := Lib.hid (fun (u : World) (hu : Below w.heap.size w u) => read_any B M d S.logN u (h.below hu) (hf.sml (by omega)) hf.ok log_small.1)
  rw [hrd] at HRE
  have HNW := Lib.hid hnew
  have HST := Lib.hid hst
  have hll : d.list.length ≤ 1099511627776 := by
    have : d.list.length ≤ d.now.length := by unfold D.Dsk.list; split <;> simp
    omega
  clear h hf hnew hrd hst
  go_enter Tryz.func30, Tryz.ntmps30
  go_upto_region 2 with fail
  obtain ⟨W1, hW1⟩ : ∃ W1, (w.alloc (.cells #[.pointer (some ⟨M.d, 0, none⟩)] 30)).alloc (.cells #[.pointer (some ⟨M.d, 0, none⟩), .int .i64 0] 118) = W1 := ⟨_, rfl⟩
  have hs1 : (w.alloc (.cells #[.pointer (some ⟨M.d, 0, none⟩)] 30)).heap.size = w.heap.size + 1 := World.size_alloc ..
  have HZ1 : Hid (W1.heap.size = w.heap.size + 2) := Lib.hid (by rw [← hW1, World.size_alloc, hs1])
  have hb0 : Below w.heap.size w (w.alloc (.cells #[.pointer (some ⟨M.d, 0, none⟩)] 30)) := (Below.refl _ _).alloc (Nat.le_refl _) _
  have HB1 : Hid (Below w.heap.size w W1) := Lib.hid (by rw [← hW1]; exact hb0.alloc (by rw [hs1]; omega) _)
  have HBX : Hid (Blk W1 w.heap.size #[.pointer (some ⟨M.d, 0, none⟩)] 30) := Lib.hid (by rw [← hW1]; exact (Blk.new w _ _).alloc _)
  have HBL : Hid (Blk W1 (w.heap.size + 1) #[.pointer (some ⟨M.d, 0, none⟩), .int .i64 0] 118) := Lib.hid (by
    have := Blk.new (w.alloc (.cells #[.pointer (some ⟨M.d, 0, none⟩)] 30)) #[.pointer (some ⟨M.d, 0, none⟩), .int .i64 0] 118
    rw [← hW1]
    rwa [hs1] at this)
  rw [hW1]
  clear hb0
  have z0 := HBX.out.cells1
  go_wp2_with fail
  refine (HLI.out _ HB1.out).mono ?_
  rintro e w2 ⟨A, c, rfl, hr2, hb2⟩
  have HB2 := Lib.hid (below_then HB1.out.size HB1.out hb2)
  have HCT := Lib.hid (hasName_any A _ c d.list S.newN w2 rfl hll hr2.rd)
  rw [HNW.out] at HCT
  clear HLI hr2 HNW
  go_wp2_with fail
  refine HCT.out.mono ?_
  rintro e w2' ⟨rfl, rfl⟩
  have HBX2 := Lib.hid (HBX.out.below hb2)
  have HBL2 := Lib.hid (HBL.out.below hb2)
  have HZ2 : Hid (w.heap.size + 2 ≤ w2.heap.size) := Lib.hid (by have := hb2.size; have := HZ1.out; omega)
  have z0 := HBX2.out.cells1
  clear hb2 HB1 HBX HBL HCT HZ1 hW1
  go_wp2_with fail
  refine (HRE.out _ HB2.out).mono ?_
  rintro e w3 ⟨A3, c3, rfl, hr3, hb3⟩
  have HB3 := Lib.hid (below_then HB2.out.size HB2.out hb3)
  have HBX3 := Lib.hid (HBX2.out.below hb3)
  have HBL3 := Lib.hid (HBL2.out.below hb3)
  have HZ3 : Hid (w.heap.size + 2 ≤ w3.heap.size) := Lib.hid (by have := hb3.size; have := HZ2.out; omega)
  have HRP := Lib.hid (fun u => replay0_any A3 c3 hr3.capNone u)
  clear hb3 hr3 HRE HB2 HBX2 HBL2 HZ2 z0
  have z0 := HBX3.out.cells1
  have hbe : Below w3.heap.size w3 (w3.alloc (.cells #[.func (.func 59) #[] #[.pointer (some ⟨w.heap.size, 0, none⟩)], .func (.func 61) #[] #[.pointer (some ⟨w.heap.size, 0, none⟩)], .func (.func 63) #[.pointer (some ⟨M.d, 0, none⟩)] #[]] 123)) := (Below.refl _ _).alloc (Nat.le_refl _) _
  have HB4 := Lib.hid (below_then HB3.out.size HB3.out hbe)
  have HL4 := Lib.hid (show LgAt B (w.heap.size + 1) M d 0 (w3.alloc (.cells #[.func (.func 59) #[] #[.pointer (some ⟨w.heap.size, 0, none⟩)], .func (.func 61) #[] #[.pointer (some ⟨w.heap.size, 0, none⟩)], .func (.func 63) #[.pointer (some ⟨M.d, 0, none⟩)] #[]] 123)) from ⟨HD.out.below HB4.out, HBL3.out.below hbe, by have := HD.out.base; omega⟩)
  have HW4 : Hid (Went (M.foot d) w (lgFoot (w.heap.size + 1) M d) (w3.alloc (.cells #[.func (.func 59) #[] #[.pointer (some ⟨w.heap.size, 0, none⟩)], .func (.func 61) #[] #[.pointer (some ⟨w.heap.size, 0, none⟩)], .func (.func 63) #[.pointer (some ⟨M.d, 0, none⟩)] #[]] 123))) := Lib.hid ((Went.below HB4.out (M.foot d)).wide (fun _ h => h) (fun k hk => by
    rcases hk with hk | hk
    · exact .inl hk
    · exact .inr (.inr (by omega))))
  have HBX4 := Lib.hid (HBX3.out.below hbe)
  have hx4 : Rd (w3.alloc (.cells #[.func (.func 59) #[] #[.pointer (some ⟨w.heap.size, 0, none⟩)], .func (.func 61) #[] #[.pointer (some ⟨w.heap.size, 0, none⟩)], .func (.func 63) #[.pointer (some ⟨M.d, 0, none⟩)] #[]] 123)) (some ⟨w3.heap.size, 0, none⟩) 3 1 (#[.func (.func 59) #[] #[.pointer (some ⟨w.heap.size, 0, none⟩)], .func (.func 61) #[] #[.pointer (some ⟨w.heap.size, 0, none⟩)], .func (.func 63) #[.pointer (some ⟨M.d, 0, none⟩)] #[]] : Array Value).toList := Rd.newRow w3 123 #[.func (.func 59) #[] #[.pointer (some ⟨w.heap.size, 0, none⟩)], .func (.func 61) #[] #[.pointer (some ⟨w.heap.size, 0, none⟩)], .func (.func 63) #[.pointer (some ⟨M.d, 0, none⟩)] #[]] 3 1 rfl
  have hofx : ∀ q, w.heap.size ≤ q → q ≠ w.heap.size + 1 → ¬ lgFoot (w.heap.size + 1) M d q := fun q hq hne hf => by
    rcases hf with hf | hf
    · have := HD.out.lt hf; omega
    · exact hne hf
  have HOF := Lib.hid (hofx w.heap.size (Nat.le_refl _) (by omega))
  have hA4 : ∀ a, (some ⟨w3.heap.size, 0, none⟩ : Option Addr) = some a → ¬ lgFoot (w.heap.size + 1) M d a.block := fun a ha => (by cases ha; exact hofx w3.heap.size (by have := HZ3.out; omega) (by have := HZ3.out; omega))
  have HFI := Lib.hid (first3_any B (w.heap.size + 1) M d 0 m w.heap.size (some ⟨w3.heap.size, 0, none⟩) 3 (fun d => d.create S.logN) (fun d => d.sync S.logN) (fun d => d.syncNames) (w3.alloc (.cells #[.func (.func 59) #[] #[.pointer (some ⟨w.heap.size, 0, none⟩)], .func (.func 61) #[] #[.pointer (some ⟨w.heap.size, 0, none⟩)], .func (.func 63) #[.pointer (some ⟨M.d, 0, none⟩)] #[]] 123)) HL4.out HF.out
    (fun _ _ h => h.create _) (fun _ _ h => h.sync _) (fun _ _ h => h.syncNames) hx4 hA4
    (fun M1 d1 u hl hw hm hf => op1_any B (w.heap.size + 1) M1 d1 0 (m + 0) w.heap.size u hl hf (by omega) (by rw [hm]; exact hw.blk HBX4.out HOF.out))
    (fun M1 d1 u hl hw hm hf => op2_any B (w.heap.size + 1) M1 d1 0 (m + 1) w.heap.size u hl hf (by omega) (by rw [hm]; exact hw.blk HBX4.out HOF.out))
    (fun M1 d1 u hl hw hm hf => by rw [← hm]; exact (syncNames_any B M1 d1 u hl.disk (hf.sml (by omega))).mono fun _ _ h => RetStep.log hl h))
  have HST2 : Hid (S.steps d [fun d => d.create S.logN, fun d => d.sync S.logN, fun d => d.syncNames] = (d3, 3, 0)) := HST
  rw [HST2.out] at HFI
  clear hbe hx4 hofx hA4 HOF HBX4 HL4 HBL3 HST HST2
  go_wp2_with fail
  refine HFI.out.mono ?_
  rintro e w5 ⟨rfl, M5, hl5, hw5, hm5⟩
  have HL5 := Lib.hid hl5
  have HW5 := Lib.hid (HW4.out.trans hw5)
  have HM5 := Lib.hid hm5
  clear hl5 hw5 hm5 HFI HW4 z0
  go_wp2_with fail
  refine (HRP.out _).mono ?_
  rintro e w6 ⟨rfl, hb6⟩
  have hl6 := HL5.out.below hb6
  obtain ⟨hl7, hw7⟩ := hl6.counted 0
  have HL7 := Lib.hid hl7
  have HW7 := Lib.hid ((HW5.out.trans (Went.below hb6 _)).trans hw7)
  obtain ⟨y0, y1⟩ := hl6.cells
  have f1 := hl6.blk.free 1
  clear hb6 hl6 hl7 hw7 HRP HW5 y0
  go_wp2
  (try simp only [Exit.inBlock, Exit.then])
  refine bodyPost_ret (results_tmp3 rfl _ _ _) rfl ?_
  exact ⟨w.heap.size + 1, M5, rfl, HL7.out, HW7.out, HM5.out⟩
end Go.Proofs.YtkempjcphpnocaaGreatDoor

namespace Go.Proofs.YtkempjcphpnocaaGreatDoor
open Go.ChangeShapes Go.WideShapes Go.ChangeAt Go.RowKit Go.Deep

theorem step_st : Tryz.prog.underlying 41 = some (.struct (Tryz.prog.fieldsOf 41)) := by kernel_rfl
theorem step_cells : Tryz.prog.cellsOf 41 = 10 := by kernel_rfl
theorem step_ty : (Tryz.prog.fieldsOf 41).map (fun f => (f.type, f.offset)) = #[(28, 0), (9, 9)] := by kernel_rfl
section
variable {H : Type} {enc : TypeId × Value → H} {W : World} {base : Nat} {held : Bool}
/-- An entry's nine cells. -/
def ec (p : EP) : List Value := [.string p.E.k, .string p.E.v, .int .i64 p.E.s, .string p.E.r, .int .i64 p.E.m, .slice p.A p.E.fs.length p.c, .slice p.X p.E.body.length p.d, .int .i64 p.E.asked, .int .i64 p.E.got]
def EP.bulk (p : EP) : Nat := F.bulk p.E.fs + p.E.k.size + p.E.v.size + p.E.r.size + p.E.body.length
set_option maxRecDepth 100000 in
theorem cells_entry {fuel : Nat} {cs : List Value} {x : DataW H × List MemPlace} (h : DataW.trod enc Tryz.prog W base (fun _ => true) held fuel 28 cs = some x) : ∃ p : EP, cs = ec p ∧ ERd W p ∧ p.bulk ≤ Rows.uptoBulk x.1 := by
  obtain ⟨xs, n, rfl, hx, hlc, hxl, hall⟩ := DataW.trod_struct entry_st h
  rw [entry_cells] at hlc
  obtain ⟨a0, a1, a2, a3, a4, a5, a6, a7, a8, rfl⟩ : ∃ a0 a1 a2 a3 a4 a5 a6 a7 a8, cs = [a0, a1, a2, a3, a4, a5, a6, a7, a8] := by
    match cs, hlc with
    | [a0, a1, a2, a3, a4, a5, a6, a7, a8], _ => exact ⟨a0, a1, a2, a3, a4, a5, a6, a7, a8, rfl⟩
  obtain ⟨c1, c2, c3, c4⟩ := cells_one
  obtain ⟨g0, e0, t0, o0⟩ := field_at entry_ty 0 _ _ rfl
  obtain ⟨g1, e1, t1, o1⟩ := field_at entry_ty 1 _ _ rfl
  obtain ⟨g2, e2, t2, o2⟩ := field_at entry_ty 2 _ _ rfl
  obtain ⟨g3, e3, t3, o3⟩ := field_at entry_ty 3 _ _ rfl
  obtain ⟨g4, e4, t4, o4⟩ := field_at entry_ty 4 _ _ rfl
  obtain ⟨g5, e5, t5, o5⟩ := field_at entry_ty 5 _ _ rfl
  have h0 := hall 0 g0 e0
  have h1 := hall 1 g1 e1
  have h2 := hall 2 g2 e2
  have h3 := hall 3 g3 e3
  have h4 := hall 4 g4 e4
  have h5 := hall 5 g5 e5
  rw [t0, o0, c1] at h0
  rw [t1, o1, c1] at h1
  rw [t2, o2, resp_cells] at h2
  rw [t3, o3, c3] at h3
  rw [t4, o4, c2] at h4
  rw [t5, o5, c2] at h5
  have hz : (Tryz.prog.fieldsOf 28).size = 6 := by have := congrArg Array.size entry_ty; simpa using this
  rw [hz] at hxl
  obtain ⟨y0, y1, y2, y3, y4, y5, rfl⟩ : ∃ y0 y1 y2 y3 y4 y5, xs = [y0, y1, y2, y3, y4, y5] := by
    match xs, hxl with
    | [y0, y1, y2, y3, y4, y5], _ => exact ⟨y0, y1, y2, y3, y4, y5, rfl⟩
  change DataW.trod _ _ _ _ _ _ _ _ [a0] = some y0 at h0
  change DataW.trod _ _ _ _ _ _ _ _ [a1] = some y1 at h1
  change DataW.trod _ _ _ _ _ _ _ _ [a2, a3, a4, a5] = some y2 at h2
  change DataW.trod _ _ _ _ _ _ _ _ [a6] = some y3 at h3
  change DataW.trod _ _ _ _ _ _ _ _ [a7] = some y4 at h4
  change DataW.trod _ _ _ _ _ _ _ _ [a8] = some y5 at h5
  obtain ⟨zs, n2, rfl, hzx, _, hzl, hall2⟩ := DataW.trod_struct resp_st h2
  have hz2 : (Tryz.prog.fieldsOf 25).size = 4 := resp_sz
  rw [hz2] at hzl
  obtain ⟨z0, z1, z2, z3, rfl⟩ : ∃ z0 z1 z2 z3, zs = [z0, z1, z2, z3] := by
    match zs, hzl with
    | [z0, z1, z2, z3], _ => exact ⟨z0, z1, z2, z3, rfl⟩
  obtain ⟨q0, f0, u0, p0⟩ := field_at resp_ty2 0 _ _ rfl
  obtain ⟨q1, f1, u1, p1⟩ := field_at resp_ty2 1 _ _ rfl
  obtain ⟨q2, f2, u2, p2⟩ := field_at resp_ty2 2 _ _ rfl
  obtain ⟨q3, f3, u3, p3⟩ := field_at resp_ty2 3 _ _ rfl
  have k0 := hall2 0 q0 f0
  have k1 := hall2 1 q1 f1
  have k2 := hall2 2 q2 f2
  have k3 := hall2 3 q3 f3
  rw [u0, p0, c2] at k0
  rw [u1, p1, c1] at k1
  rw [u2, p2, c2] at k2
  rw [u3, p3, c4] at k3
  change DataW.trod _ _ _ _ _ _ _ _ [a2] = some z0 at k0
  change DataW.trod _ _ _ _ _ _ _ _ [a3] = some z1 at k1
  change DataW.trod _ _ _ _ _ _ _ _ [a4] = some z2 at k2
  change DataW.trod _ _ _ _ _ _ _ _ [a5] = some z3 at k3
  obtain ⟨k, r0, rfl, _⟩ := DataW.trod_string Tryz.underlying9 h0
  obtain ⟨u, r1, rfl, _⟩ := DataW.trod_string Tryz.underlying9 h1
  obtain ⟨s, r2, rfl, _⟩ := DataW.trod_int Tryz.underlying3 k0
  obtain ⟨r, r3, rfl, _⟩ := DataW.trod_string Tryz.underlying9 k1
  obtain ⟨m, r4, rfl, _⟩ := DataW.trod_int Tryz.underlying3 k2
  obtain ⟨asked, r5, rfl, _⟩ := DataW.trod_int Tryz.underlying3 h4
  obtain ⟨got, r6, rfl, _⟩ := DataW.trod_int Tryz.underlying3 h5
  obtain ⟨A, na, ca, rfl⟩ := slice_shape k3
  obtain ⟨fs, l1, l2, l3, _⟩ := cells_fields k3
  simp only [List.cons.injEq, and_true] at r0 r1 r2 r3 r4 r5 r6
  subst r0 r1 r2 r3 r4 r5 r6
  obtain ⟨X, nb, cb, rfl⟩ := slice_shapeB h3
  obtain ⟨body, m1, m2, _, m4, _⟩ := cells_bytes h3
  have hd : x.1 = .agg _ := congrArg Prod.fst hx
  have hy : y2.1 = .agg _ := congrArg Prod.fst hzx
  subst l1 m1
  refine ⟨⟨⟨k, u, s, r, m, fs, body, asked, got⟩, A, ca, X, cb⟩, rfl, ⟨l2, m2⟩, ?_⟩
  rw [hd]
  unfold EP.bulk
  simp only [List.map_cons, List.map_nil, hy, Rows.uptoBulk, Rows.uptoBulkAll, Array.length_toList]
  have : k.size = k.data.size := rfl
  have : u.size = u.data.size := rfl
  have : r.size = r.data.size := rfl
  omega
set_option maxRecDepth 100000 in
theorem cells_step {fuel : Nat} {cs : List Value} {x : DataW H × List MemPlace} (h : DataW.trod enc Tryz.prog W base (fun _ => true) held fuel 41 cs = some x) : ∃ q : EP × ByteArray, cs = ec q.1 ++ [.string q.2] ∧ ERd W q.1 ∧ q.1.bulk + 1 ≤ Rows.uptoBulk x.1 := by
  obtain ⟨xs, n, rfl, hx, hlc, hxl, hall⟩ := DataW.trod_struct step_st h
  rw [step_cells] at hlc
  obtain ⟨a0, a1, a2, a3, a4, a5, a6, a7, a8, a9, rfl⟩ : ∃ a0 a1 a2 a3 a4 a5 a6 a7 a8 a9, cs = [a0, a1, a2, a3, a4, a5, a6, a7, a8, a9] := by
    match cs, hlc with
    | [a0, a1, a2, a3, a4, a5, a6, a7, a8, a9], _ => exact ⟨a0, a1, a2, a3, a4, a5, a6, a7, a8, a9, rfl⟩
  obtain ⟨g0, e0, t0, o0⟩ := field_at step_ty 0 _ _ rfl
  obtain ⟨g1, e1, t1, o1⟩ := field_at step_ty 1 _ _ rfl
  have h0 := hall 0 g0 e0
  have h1 := hall 1 g1 e1
  rw [t0, o0, entry_cells] at h0
  rw [t1, o1, cells_one.1] at h1
  have hz : (Tryz.prog.fieldsOf 41).size = 2 := by have := congrArg Array.size step_ty; simpa using this
  rw [hz] at hxl
  obtain ⟨y0, y1, rfl⟩ : ∃ y0 y1, xs = [y0, y1] := by
    match xs, hxl with
    | [y0, y1], _ => exact ⟨y0, y1, rfl⟩
  change DataW.trod _ _ _ _ _ _ _ _ [a0, a1, a2, a3, a4, a5, a6, a7, a8] = some y0 at h0
  change DataW.trod _ _ _ _ _ _ _ _ [a9] = some y1 at h1
  obtain ⟨p, hp, hr, hb⟩ := cells_entry h0
  obtain ⟨k, r0, rfl, _⟩ := DataW.trod_string Tryz.underlying9 h1
  simp only [List.cons.injEq, and_true] at r0
  subst r0
  have hd : x.1 = .agg _ := congrArg Prod.fst hx
  refine ⟨(p, k), ?_, hr, ?_⟩
  · rw [← hp]; rfl
  · rw [hd]
    simp only [List.map_cons, List.map_nil, Rows.uptoBulk, Rows.uptoBulkAll]
    omega
theorem stcells_get : ∀ (l : List (EP × ByteArray)) (i j : Nat) (h : i < l.length), j < 10 → (stcells l)[i * 10 + j]? = (ec l[i].1 ++ [.string l[i].2])[j]?
  | q :: t, 0, j, _, hj => by
    have e : stcells (q :: t) = (ec q.1 ++ [.string q.2]) ++ stcells t := rfl
    rw [e, List.getElem?_append_left (by simp only [ec, List.length_append, List.length_cons, List.length_nil]; omega)]
    simp
  | q :: t, i + 1, j, h, hj => by
    have e : stcells (q :: t) = (ec q.1 ++ [.string q.2]) ++ stcells t := rfl
    have hl : (ec q.1 ++ [Value.string q.2]).length = 10 := rfl
    rw [e, List.getElem?_append_right (by rw [hl]; omega), hl, show (i + 1) * 10 + j - 10 = i * 10 + j by omega, stcells_get t i j (by simpa using h) hj]
    simp
theorem rd_of_steps {A : Addr} {n : Nat} {l : List (EP × ByteArray)} (hl : l.length = n) (h : ∀ i (hi : i < l.length), ∀ j, j < 10 → W.cell? ((A.add (i * 10)).add j) = (ec (l[i]'hi).1 ++ [.string (l[i]'hi).2])[j]?) : Rd W (some A) n 10 (stcells l) := by
  refine ⟨by rw [stcells_length, hl], fun hn => ?_⟩
  have h0 := h 0 (by omega) 0 (by omega)
  have h00 : W.cell? ((A.add (0 * 10)).add 0) = some (.string (l[0]'(by omega)).1.E.k) := h0
  have hspot : ((A.add (0 * 10)).add 0).spot = none := World.cell?_spot h00
  obtain ⟨b, o, sp⟩ := A
  have : sp = none := by cases sp <;> simp_all [Addr.add]
  subst this
  have ea : ∀ k, (⟨b, o, none⟩ : Addr).add k = ⟨b, o + k, none⟩ := fun k => by unfold Addr.add; split <;> simp_all
  have eb : ∀ o k, (⟨b, o, none⟩ : Addr).add k = ⟨b, o + k, none⟩ := fun o k => by unfold Addr.add; split <;> simp_all
  refine ⟨b, o, rfl, ?_, fun j u hu => ?_⟩
  · have := World.block_lt_of_cell? W _ h00
    rw [ea, eb] at this
    exact this
  have hj : j < l.length * 10 := by rw [← stcells_length]; exact (List.getElem?_eq_some_iff.1 hu).1
  have hjj : j / 10 * 10 + j % 10 = j := by omega
  have h1 := h (j / 10) (by omega) (j % 10) (by omega)
  rw [ea, eb, Nat.add_assoc, hjj] at h1
  rw [h1, ← stcells_get l (j / 10) (j % 10) (by omega) (by omega), hjj]
  exact hu
theorem bulk_steps {D : Nat → DataW H} {g : Nat → EP × ByteArray} : ∀ l : List Nat, (∀ i ∈ l, (g i).1.bulk + 1 ≤ Rows.uptoBulk (D i)) → l.length ≤ Rows.uptoBulkAll (l.map D) ∧ ∀ i ∈ l, (g i).1.bulk ≤ Rows.uptoBulkAll (l.map D)
  | [], _ => ⟨by simp, by simp⟩
  | i :: l, h => by
    have h1 := h i (by simp)
    obtain ⟨h2, h3⟩ := bulk_steps l (fun j hj => h j (by simp [hj]))
    simp only [List.map_cons, List.length_cons, Rows.uptoBulkAll]
    refine ⟨by omega, fun j hj => ?_⟩
    rcases List.mem_cons.1 hj with rfl | hj
    · omega
    · have := h3 j hj
      omega
theorem steps_ul : Tryz.prog.underlying 22 = some (.slice 41) := by kernel_rfl
theorem cells_steps {A : Option Addr} {n c : Nat} {fuel : Nat} {x : DataW H × List MemPlace} (h : DataW.trod enc Tryz.prog W base (fun _ => true) held fuel 22 [.slice A n c] = some x) :
    ∃ l : List (EP × ByteArray), l.length = n ∧ Rd W A n 10 (stcells l) ∧ n ≤ c ∧ (A = none → n = 0) ∧ (∀ q ∈ l, ERd W q.1) ∧ (∀ q ∈ l, q.1.bulk ≤ Rows.uptoBulk x.1) ∧ l.length ≤ Rows.uptoBulk x.1 := by
  rcases open_slice steps_ul h with ⟨h0, rfl⟩ | ⟨a, len, cap, m, k, D, Pl, hcs, _, hl, hm, hmm, rfl, hi⟩
  · simp only [List.cons.injEq, Value.slice.injEq, and_true] at h0
    obtain ⟨rfl, rfl, rfl⟩ := h0
    exact ⟨[], rfl, Rd.nil _ _ _, Nat.le_refl _, fun _ => rfl, (fun _ h => by cases h), (fun _ h => by cases h), Nat.zero_le _⟩
  · simp only [List.cons.injEq, Value.slice.injEq, and_true] at hcs
    obtain ⟨rfl, rfl, rfl⟩ := hcs
    simp only [if_true] at hmm
    subst hmm
    have each : ∀ i, ∃ q : EP × ByteArray, i < n → (∀ j, j < 10 → W.cell? ((a.add (i * 10)).add j) = (ec q.1 ++ [.string q.2])[j]?) ∧ ERd W q.1 ∧ q.1.bulk + 1 ≤ Rows.uptoBulk (D i) := by
      intro i
      by_cases hin : i < n
      · obtain ⟨cs', hc, ht⟩ := hi i (by omega)
        rw [step_cells] at hc
        obtain ⟨q, rfl, hr, hb⟩ := cells_step ht
        obtain ⟨_, _, hat⟩ := World.cells?_some hc
        refine ⟨q, fun _ => ⟨fun j hj => ?_, hr, hb⟩⟩
        have hjl : j < (ec q.1 ++ [Value.string q.2]).length := hj
        have := hat j hjl
        rw [this, List.getElem?_eq_getElem hjl]
      · exact ⟨(⟨⟨⟨#[]⟩, ⟨#[]⟩, 0, ⟨#[]⟩, 0, [], [], 0, 0⟩, none, 0, none, 0⟩, ⟨#[]⟩), fun h => absurd h hin⟩
    obtain ⟨g, hg⟩ : ∃ g : Nat → EP × ByteArray, ∀ i, i < n → (∀ j, j < 10 → W.cell? ((a.add (i * 10)).add j) = (ec (g i).1 ++ [.string (g i).2])[j]?) ∧ ERd W (g i).1 ∧ (g i).1.bulk + 1 ≤ Rows.uptoBulk (D i) :=
      ⟨fun i => (each i).choose, fun i => (each i).choose_spec⟩
    obtain ⟨b1, b2⟩ := bulk_steps (D := D) (g := g) (List.range n) (fun i hi => (hg i (List.mem_range.1 hi)).2.2)
    refine ⟨(List.range n).map g, by simp, rd_of_steps (by simp) (fun i hi j hj => ?_), hl, (fun h => by cases h), fun q hq => ?_, fun q hq => ?_, ?_⟩
    · rw [List.length_map, List.length_range] at hi
      simp only [List.getElem_map, List.getElem_range]
      exact (hg i hi).1 j hj
    · obtain ⟨i, hi, rfl⟩ := List.mem_map.1 hq
      exact (hg i (List.mem_range.1 hi)).2.1
    · obtain ⟨i, hi, rfl⟩ := List.mem_map.1 hq
      have := b2 i hi
      simp only [Rows.uptoBulk]
      omega
    · simp only [Rows.uptoBulk, List.length_map]
      omega
set_option maxRecDepth 100000 in
/-- A parameter that is a script. -/
theorem open_steps {r : Reach} {b0 : Nat} {v : Value} {d : DataW H} {p : List MemPlace} (hv : Value.okWide Tryz.prog W r b0 22 v) (h : DataW.Trod enc Tryz.prog W base (fun _ => true) held 22 v d p) :
    ∃ A n c l, v = .slice A n c ∧ l.length = n ∧ Rd W A n 10 (stcells l) ∧ n ≤ c ∧ (A = none → n = 0) ∧ (∀ q ∈ l, ERd W q.1) ∧ (∀ q ∈ l, q.1.bulk ≤ Rows.uptoBulk d) ∧ l.length ≤ Rows.uptoBulk d := by
  obtain ⟨A, n, c, rfl⟩ := okWide_slice steps_ul hv
  obtain ⟨fuel, hf⟩ := h
  obtain ⟨l, h⟩ := cells_steps (A := A) (n := n) (c := c) hf
  exact ⟨A, n, c, l, rfl, h⟩
end
end Go.Proofs.YtkempjcphpnocaaGreatDoor
