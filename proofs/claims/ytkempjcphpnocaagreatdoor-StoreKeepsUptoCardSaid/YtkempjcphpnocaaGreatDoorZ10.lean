/- The walks of the disk's List and SyncNames, and of New without files. Conditions: at most 2^30 names; what begin asks. A disk without faults: what is safe of its files, what they take of the room, what a loss of power leaves of it, and a disk that holds given files. No program here. -/
import Derived.Test.YtkempjcphpnocaaGreatDoorZ08
import Derived.Test.YtkempjcphpnocaaGreatDoorZ06
import Derived.Test.YtkempjcphpnocaaGreatDoorZ14
import Derived.Carry
import Derived.Test.YtkempjcphpnocaaGreatDoorStoreR
namespace Go.Proofs.YtkempjcphpnocaaGreatDoor
open Go Go.RowKit Go.Maps
set_option maxHeartbeats 1000000 in
theorem dlist_any (B:Nat) (M:DM) (s:D.Dsk) (w:World) (h:DkAt B M s w) (ok:s.Ok) (hl:s.now.length ≤ 1073741824) :
    Calls Tryz.prog 14 #[.pointer (some ⟨M.d,0,none⟩)] w (RetRow w 9 1 s.list.length (scells s.list)):=by
  have HD:=Lib.hid h
  have HDW:=Lib.hid (down_any B M s w h)
  obtain ⟨G,hG⟩:∃ G,s.list = G:=⟨_,rfl⟩
  have HG:Hid (G = if s.down then [] else s.now.map (·.1)):=Lib.hid hG.symm
  have hup:=ok.upN
  rw [hG]
  clear h hG ok
  cases hd:s.down
  rotate_left
  · rw [hd] at HDW HG
    rw [if_pos rfl] at HG
    go_enter Tryz.func14,Tryz.ntmps14
    go_wp2_with fail
    refine HDW.out.mono ?_
    rintro e w1 ⟨rfl,hb1⟩
    go_wp2
    go_ret
    rw [HG.out]
    exact ⟨none,0,rfl,Row.none_ _ _ _ _,hb1⟩
  rw [hd] at HDW HG
  rw [if_neg (by decide)] at HG
  have HKE:=Lib.hid (fun u=>keysD_any (some M.mN) u)
  go_enter Tryz.func14,Tryz.ntmps14
  go_wp2_with fail
  refine HDW.out.mono ?_
  rintro e w1 ⟨rfl,hb1⟩
  have HD1:=Lib.hid (HD.out.below hb1)
  have HB1:=Lib.hid hb1
  obtain ⟨y0,y1,y2,y3,y4,y5,y6,y7⟩:=HD1.out.cells
  clear hb1 HD y1 y2 y3 y4 y5 y6 y7 HDW
  go_wp2_with fail
  refine (HKE.out _).mono ?_
  rintro e w2 ⟨rfl,rfl⟩
  have hb2:Below w1.heap.size w1 (w1.alloc (.cells #[.map (some M.mN)] 67)):=(Below.refl _ _).alloc (Nat.le_refl _) _
  have HSO:=Lib.hid (sortedD_any M.fa s.now w1.heap.size M.mN (w1.alloc (.cells #[.map (some M.mN)] 67)) (by simp) ((Blk.new w1 _ _).cell 0 rfl) (HD1.out.below hb2).now hup hl)
  have HB2:=Lib.hid (below_then HB1.out.size HB1.out hb2)
  clear hb2 HB1 y0
  go_wp2_with fail
  refine HSO.out.mono ?_
  rintro e w3 ⟨A,c,rfl,hr,hb3⟩
  have HR:=Lib.hid (hr.mono HB2.out.size)
  have HB3:=Lib.hid (below_then HB2.out.size HB2.out hb3)
  clear hr hb3 HSO HB2
  go_wp2
  go_ret
  rw [HG.out]
  exact ⟨A,c,by rw [List.length_map]; rfl,HR.out,HB3.out⟩
section
variable {B:Nat} {M:DM} {s:D.Dsk} {w w1 w2:World} {k:Nat}
def DM.safed (M:DM) (k:Nat):DM:={ M with mS:=k,PA:=none,pc:=0,pv:=[] }
theorem DkAt.synced (h:DkAt B M s w) (hm:w1.ownsMap Tryz.prog 9 D.ptrR w.heap.size s.now.length (D.datum M.fa s.now)) (hb:Below w.heap.size w w1) :
    DkAt B (M.safed w.heap.size) { s with safe:=s.now,pend:=[] } ((w1.setCell ⟨M.d,1,none⟩ (.map (some w.heap.size))).setCell ⟨M.d,2,none⟩ (.slice none 0 0)) ∧
    Stepped M s w (M.safed w.heap.size) { s with safe:=s.now,pend:=[] } ((w1.setCell ⟨M.d,1,none⟩ (.map (some w.heap.size))).setCell ⟨M.d,2,none⟩ (.slice none 0 0)):=by
  have h1:=h.below hb
  have hT:=h1.blk.tag
  have hg1:=grown_set w1 M.d 1 (.map (some w.heap.size))
  have hT2:Tag (w1.setCell ⟨M.d,1,none⟩ (.map (some w.heap.size))) M.d 71:=(h1.blk.set 1 _).tag
  have hg2:=grown_set (w1.setCell ⟨M.d,1,none⟩ (.map (some w.heap.size))) M.d 2 (.slice none 0 0)
  have hg:w1.grownBy ((w1.setCell ⟨M.d,1,none⟩ (.map (some w.heap.size))).setCell ⟨M.d,2,none⟩ (.slice none 0 0)) (some M.d):=hg1.trans hg2
  have hb':∀ {k t},Tag w1 k t → t ≠ 71 → some M.d ≠ some k:=fun ht hn e=>ht.ne hT hn (by simpa using e.symm)
  refine ⟨⟨?_,h1.now.kept hg (fun e=>hT.map (ownsMap_tag h1.now) (by simpa using e.symm)),hm.kept hg (fun e=>hT.map (ownsMap_tag hm) (by simpa using e.symm)),?_,Row.none_ _ _ _ _,trivial,h1.fails.keptG hg (fun k hk=>hb' (h1.fails.tag hk) (by decide)),
    fun no hn=>⟨(h1.files no hn).blk.keptG hg (hb' (h1.files no hn).blk.tag (by decide)),(h1.files no hn).row.keptG hg (fun k hk=>hb' ((h1.files no hn).row.tag hk) (by decide)),(h1.files no hn).ge⟩,h1.apart,⟨h.ge.1,h.ge.2.1,h.base⟩⟩,?_⟩
  · exact (h1.blk.set 1 (.map (some w.heap.size))).set 2 (.slice none 0 0)
  · have:=h.now.lt
    show M.mN ≠ w.heap.size
    omega
  · refine ⟨hg.os.trans hb.os,hg.tape.trans hb.tape,hg.output.trans hb.output,Nat.le_trans hb.size hg.size,fun i hi hn=>(hg.block i (Nat.lt_of_lt_of_le hi hb.size) (fun e=>hn (.inl (by simpa using e)))).trans (hb.block i hi),fun i hf=>?_,rfl⟩
    rcases hf with hf | hf | hf | hf | ⟨no,hn,hf⟩
    · exact .inl (.inl hf)
    · exact .inl (.inr (.inl hf))
    · exact .inr (Nat.le_of_eq hf.symm)
    · cases hf
    · exact .inl (.inr (.inr (.inr (.inr ⟨no,hn,hf⟩))))
end
set_option maxHeartbeats 2000000 in
theorem syncNames_any (B:Nat) (M:DM) (s:D.Dsk) (w:World) (h:DkAt B M s w) (hs:s.Sml) :
    Calls Tryz.prog 63 #[.pointer (some ⟨M.d,0,none⟩)] w (RetStep B M s w s.syncNames):=by
  have HBG:=Lib.hid (begin_any B M s none 0 0 [] w h ⟨hs.n0,hs.n⟩ hs.fails (by omega) rfl (fun x hx=>by cases hx) (Rd.nil _ _ _) (fun h=>absurd h (by decide)))
  obtain ⟨n,hbn⟩:=s.begin_as []
  obtain ⟨G,hG⟩:∃ G,s.syncNames = G:=⟨_,rfl⟩
  have HG:Hid (G = if (s.begin []).2 ≠ 0 then ({ s with n:=n },(s.begin []).2) else (({ s with n:=n,safe:=s.now,pend:=[] }:D.Dsk),0)):=Lib.hid (by
    rw [← hG]
    unfold D.Dsk.syncNames
    cases hb:s.begin [] with
    | mk s1 e =>
      rw [hb] at hbn
      dsimp only at hbn ⊢
      subst hbn
      rfl)
  rw [hG]
  rw [hbn] at HBG
  generalize (s.begin []).2 = e at *
  clear hG h hbn
  go_enter Tryz.func63,Tryz.ntmps63
  go_wp2_with fail
  refine HBG.out.mono ?_
  rintro e2 w2 ⟨rfl,hd2,hs2⟩
  have HD2:=Lib.hid hd2
  have HS2:=Lib.hid hs2
  clear hd2 hs2 HBG
  by_cases he:e = 0
  · subst he
    rw [if_neg (by simp)] at HG
    have HCL:=Lib.hid (cloneM_any M s.now M.mN w2 HD2.out.now)
    obtain ⟨y0,y1,y2,y3,y4,y5,y6,y7⟩:=HD2.out.cells
    clear y1 y2 y3 y4 y5 y6 y7
    go_wp2_with fail
    refine HCL.out.mono ?_
    rintro e w3 ⟨rfl,hm3,hb3,_⟩
    obtain ⟨HD4,HS4⟩:=HD2.out.synced hm3 hb3
    have HD4:=Lib.hid HD4
    have HS4:=Lib.hid HS4
    have hD3:=HD2.out.below hb3
    have z1:w3.cell? ⟨M.d,1,none⟩ = some (.map (some M.mS)):=hD3.blk.cell 1 rfl
    have z2:w3.cell? ⟨M.d,2,none⟩ = some (.slice M.PA s.pend.length M.pc):=hD3.blk.cell 2 rfl
    have f1:=hD3.blk.free 1
    have f2:=hD3.blk.free 2
    clear hm3 hb3 HCL y0 hD3
    go_wp2
    go_ret
    exact ⟨by rw [HG.out] <;> rfl,_,by rw [HG.out]; exact HD4.out,by rw [HG.out]; exact HS2.out.trans HS4.out⟩
  · rw [if_pos he] at HG
    have heb:(e == 0) = false:=beq_eq_false_iff_ne.2 he
    go_wp2
    go_ret
    exact ⟨by rw [HG.out] <;> rfl,M,by rw [HG.out]; exact HD2.out,by rw [HG.out]; exact HS2.out⟩
theorem cloneNil_any (w:World):Calls Tryz.prog 26 #[.slice none 0 0] w (RetP w (.slice none 0 0)):=by
  have he:=fun w=>Lib.run_eql_slice_nil (P:=Tryz.prog) w 51 _ none 0 0 (h:=Tryz.underlying51)
  go_enter Tryz.func26,Tryz.ntmps26
  go_wp2
  go_ret
  exact ⟨rfl,rfl⟩
def D.none_ (room power:Int):D.Dsk:=⟨[],[],[],[],[],room,[],power,0⟩
theorem DkAt.new (w w1:World) (room power:Int) (_hb:Below w.heap.size w w1) (a b d:Nat) (ha:w.heap.size ≤ a) (hB:w.heap.size ≤ b) (hd:w.heap.size ≤ d) (hab:a ≠ b)
    (hN:w1.ownsMap Tryz.prog 9 D.ptrR a 0 (.map [])) (hS:w1.ownsMap Tryz.prog 9 D.ptrR b 0 (.map []))
    (hk:Blk w1 d #[.map (some a),.map (some b),.slice none 0 0,.int .i64 0,.int .i64 room,.slice none 0 0,.int .i64 power,.int .i64 0] 71) :
    DkAt w.heap.size ⟨d,a,b,none,0,[],fun _=>0,fun _=>none,fun _=>0,none,0⟩ (D.none_ room power) w1 :=
  ⟨hk,hN,hS,hab,Row.none_ _ _ _ _,trivial,Row.none_ _ _ _ _,fun _ hn=>absurd hn (Nat.not_lt_zero _),fun _ _ hi=>absurd hi (Nat.not_lt_zero _),⟨hd,ha,hB⟩⟩
def RetNew (w:World) (room power:Int) (e:Ending) (w':World):Prop :=
  (¬ (0 ≤ room ∧ room ≤ 1073741824) ∧ e = .returned (.tuple #[.pointer none,.int .i64 131]) ∧ Below w.heap.size w w') ∨
  (0 ≤ room ∧ room ≤ 1073741824 ∧ ∃ M,e = .returned (.tuple #[.pointer (some ⟨M.d,0,none⟩),.int .i64 0]) ∧ DkAt w.heap.size M (D.none_ room power) w' ∧ Below w.heap.size w w')
set_option maxRecDepth 100000 in
set_option maxHeartbeats 2000000 in
theorem newNil_any (room power:Int) (w:World) :
    Calls Tryz.prog 7 #[.slice none 0 0,.int .i64 room,.slice none 0 0,.int .i64 power] w (RetNew w room power):=by
  by_cases h0:0 ≤ room
  rotate_left
  · have h0i:room < 0:=by omega
    go_enter Tryz.func7,Tryz.ntmps7
    go_wp2
    go_ret2
    exact .inl ⟨fun h=>by omega,rfl,Below.refl _ _⟩
  by_cases h1:room ≤ 1073741824
  rotate_left
  · have h1i:room > 1073741824:=by omega
    have h0i:¬ room < 0:=by omega
    go_enter Tryz.func7,Tryz.ntmps7
    go_wp2
    go_ret2
    exact .inl ⟨fun h=>by omega,rfl,Below.refl _ _⟩
  have h0i:¬ room < 0:=by omega
  have h1i:¬ room > 1073741824:=by omega
  have hmm:=@run_makeMap Tryz.prog
  have HCN:=Lib.hid (fun u=>cloneNil_any u)
  go_enter Tryz.func7,Tryz.ntmps7
  go_wp2_with fail
  clear hmm
  refine (HCN.out _).mono ?_
  rintro e w1 ⟨rfl,rfl⟩
  obtain ⟨M0,hM0⟩:∃ M0,w.alloc (.map #[] 0) = M0:=⟨_,rfl⟩
  have hs0:M0.heap.size = w.heap.size + 1:=by rw [← hM0]; exact World.size_alloc ..
  have HN:=Lib.hid ((World.ownsMap_made w Tryz.prog 9 D.ptrR))
  rw [hM0] at HN ⊢
  have hb0:Below w.heap.size w M0:=by rw [← hM0]; exact (Below.refl _ _).alloc (Nat.le_refl _) _
  obtain ⟨D0,hD0⟩:∃ D0,D0 = M0.alloc (.cells #[.map (some w.heap.size),.map none,.slice none 0 0,.int .i64 0,.int .i64 room,.slice none 0 0,.int .i64 power,.int .i64 0] 71):=⟨_,rfl⟩
  have HK:=Lib.hid (Blk.new M0 #[.map (some w.heap.size),.map none,.slice none 0 0,.int .i64 0,.int .i64 room,.slice none 0 0,.int .i64 power,.int .i64 0] 71)
  rw [← hD0,hs0] at HK
  have hbd:Below M0.heap.size M0 D0:=by rw [hD0]; exact (Below.refl _ _).alloc (Nat.le_refl _) _
  have HB1:=Lib.hid (below_then hb0.size hb0 hbd)
  have HN1:Hid (D0.ownsMap Tryz.prog 9 D.ptrR w.heap.size 0 (.map [])):=Lib.hid (HN.out.kept (show M0.grownBy D0 none from ⟨hbd.os,hbd.tape,hbd.output,hbd.size,fun k hk _=>hbd.block k hk⟩) (by simp))
  have HCL:=Lib.hid (cloneM_any ⟨0,0,0,none,0,[],fun _=>0,fun _=>none,fun _=>0,none,0⟩ [] w.heap.size D0 HN1.out)
  clear HN hM0
  go_upto_region 4 with fail
  simp only [← hD0]
  have z0:D0.cell? ⟨w.heap.size + 1,0,none⟩ = some (.map (some w.heap.size)):=HK.out.cell 0 rfl
  clear hD0
  go_wp2
  go_loopw [29] (fun i wr=>i = .int .i64 0 ∧ D0 = wr) (fun _ _=>0)
  case atStart=>exact ⟨rfl,rfl⟩
  case round =>
  obtain ⟨rfl,rfl⟩:=hrel
  go_wp2_with fail
  clear z0
  refine HCL.out.mono ?_
  rintro e w2 ⟨rfl,hm2,hb2,hlt⟩
  have HK2:=Lib.hid (HK.out.below hb2)
  have z1:w2.cell? ⟨w.heap.size + 1,1,none⟩ = some (.map none):=HK2.out.cell 1 rfl
  have f1:=HK2.out.free 1
  have HB2:=Lib.hid (below_then HB1.out.size HB1.out hb2)
  have hge:w.heap.size < D0.heap.size:=HN1.out.lt
  have hg1:=grown_set w2 (w.heap.size + 1) 1 (.map (some D0.heap.size))
  have hT:=HK2.out.tag
  have HN2:=Lib.hid ((HN1.out.kept (show D0.grownBy w2 none from ⟨hb2.os,hb2.tape,hb2.output,hb2.size,fun k hk _=>hb2.block k hk⟩) (by simp)).kept hg1 (fun e=>absurd e (by simp)))
  have HS2:=Lib.hid (hm2.kept hg1 (fun e=>hT.map (ownsMap_tag hm2) (by simpa using e.symm)))
  have HK3:=Lib.hid (HK2.out.set 1 (.map (some D0.heap.size)))
  have HB3:=Lib.hid (below_set HB2.out (b:=w.heap.size + 1) (by omega) 1 (.map (some D0.heap.size)))
  clear hm2 hb2 hg1 HN1 HCL HK HB1 hb0 hbd
  go_wp2
  go_ret2
  refine .inr ⟨h0,h1,_,rfl,DkAt.new w _ room power HB3.out w.heap.size D0.heap.size (w.heap.size + 1) (Nat.le_refl _) (Nat.le_of_lt hge) (by omega) (by omega) HN2.out HS2.out ?_,HB3.out⟩
  exact HK3.out
end Go.Proofs.YtkempjcphpnocaaGreatDoor
namespace Go.Proofs.YtkempjcphpnocaaGreatDoor
namespace D
def Hard (ex:Option ByteArray) (d:Dsk):Prop:=∀ p ∈ d.now,ex = some p.1 ∨ d.firm.getD p.2 0 = d.size p.2
structure Cl (ex:Option ByteArray) (u:Nat) (d:Dsk):Prop where
  calm:Clm d
  hard:Hard ex d
  used:d.used ≤ u
  room:d.room = 1073741824
section
variable {d:Dsk} {nm:ByteArray} {c:List UInt8} {ex:Option ByteArray} {u:Nat}
theorem Clm.tight (h:Clm d) (r:Nat) (hr:d.used ≤ r):Clm { d with room:=r } :=
  ⟨h.power,h.fails,⟨h.ok.lens,h.ok.upN,h.ok.upS,h.ok.inN,h.ok.inS,h.ok.inP,h.ok.fold,h.ok.firms⟩,h.one,Int.ofNat_le.2 hr⟩
theorem Clm.create_eq (h:Clm d) (hg:good nm = true) (hn:cont d nm = none):d.create nm = (({ D.tick d with data:=d.data ++ [[]],firm:=d.firm ++ [0] }:Dsk).alter (.put nm d.data.length),0):=by
  unfold Dsk.create
  rw [h.begin (all_one hg)]
  show (if (0:Int) ≠ 0 then _ else if (find d.now nm).isSome then _ else _) = _
  rw [if_neg (by decide),cont_none hn]
  rfl
theorem Clm.append_eq (h:Clm d) (hg:good nm = true) {no:Nat} (hf:find d.now nm = some no) (b:List UInt8) (hr:(d.used:Int) + b.length ≤ d.room):d.append nm b = ({ D.tick d with data:=d.data.set no (d.data.getD no [] ++ b) },0):=by
  have hne:¬ (0 < b.length ∧ d.room < (d.used:Int) + b.length):=fun h2=>by omega
  exact (h.on (more:=[]) (all_one hg) _ hf).trans (if_neg hne)
theorem Clm.sync_eq (h:Clm d) (hg:good nm = true) {no:Nat} (hf:find d.now nm = some no):d.sync nm = ({ D.tick d with firm:=d.firm.set no (d.size no) },0):=h.on (more:=[]) (all_one hg) _ hf
theorem Clm.syncNames_eq (h:Clm d):d.syncNames = ({ D.tick d with safe:=d.now,pend:=[] },0):=by
  unfold Dsk.syncNames
  rw [h.begin (ns:=[]) rfl]
  rfl
theorem Clm.remove_eq (h:Clm d) (hg:good nm = true) {no:Nat} (hf:find d.now nm = some no):d.remove nm = ((D.tick d).alter (.del nm),0):=h.on (more:=[]) (all_one hg) _ hf
theorem Clm.rename_eq (h:Clm d) {to_:ByteArray} (hg:good nm = true) (hg2:good to_ = true) (hne:nm ≠ to_) {no:Nat} (hf:find d.now nm = some no):d.rename nm to_ = ((D.tick d).alter (.ren nm to_ no),0):=by
  refine (h.on (more:=[to_]) (by simp [hg,hg2]) _ hf).trans ?_
  rw [if_neg hne]
theorem Cl.create (h:Cl ex u d) (hg:good nm = true) (hn:cont d nm = none):(d.create nm).2 = 0 ∧ Cl ex u (d.create nm).1 ∧ ∀ x,cont (d.create nm).1 x = if x = nm then some [] else cont d x:=by
  obtain ⟨e1,c1,k1⟩:=h.calm.create hg hn
  refine ⟨e1,⟨c1,?_,?_,?_⟩,k1⟩
  · rw [h.calm.create_eq hg hn]
    intro p hp
    rcases mem_put.1 hp with rfl | ⟨hp,_⟩
    · right
      show (d.firm ++ [0]).getD d.data.length 0 = ((d.data ++ [([]:List UInt8)]).getD d.data.length []).length
      rw [← h.calm.ok.lens]
      simp [List.getD,h.calm.ok.lens]
    · have hi:=h.calm.ok.inN p hp
      have hi2:p.2 < d.firm.length:=by rw [h.calm.ok.lens]; exact hi
      have e1:(d.firm ++ [(0:Nat)]).getD p.2 0 = d.firm.getD p.2 0:=by simp [List.getD,List.getElem?_append_left hi2]
      have e2:(d.data ++ [([]:List UInt8)]).getD p.2 [] = d.data.getD p.2 []:=by simp [List.getD,List.getElem?_append_left hi]
      show _ ∨ (d.firm ++ [(0:Nat)]).getD p.2 0 = ((d.data ++ [([]:List UInt8)]).getD p.2 []).length
      rw [e1,e2]
      exact h.hard p hp
  · have ht:=h.calm.tight d.used (Nat.le_refl _)
    have:=(ht.create hg (show cont _ nm = none from hn)).2.1.room
    rw [ht.create_eq hg hn] at this
    rw [h.calm.create_eq hg hn]
    exact Nat.le_trans (Int.ofNat_le.1 this) h.used
  · rw [h.calm.create_eq hg hn]
    exact h.room
theorem Cl.append (h:Cl none u d) (hg:good nm = true) (hc:cont d nm = some c) (b:List UInt8) (hr:u + b.length ≤ 1073741824) :
    (d.append nm b).2 = 0 ∧ Cl (some nm) (u + b.length) (d.append nm b).1 ∧ ∀ x,cont (d.append nm b).1 x = if x = nm then some (c ++ b) else cont d x:=by
  obtain ⟨no,hf,hd⟩:=cont_some hc
  have hu:=h.used
  have hroom:=h.room
  have e:=h.calm.append_eq hg hf b (by omega)
  rcases h.calm.append hg hc b with ⟨e1,_,_⟩ | ⟨e1,c1,k1⟩
  · rw [e] at e1
    exact absurd e1 (by show ¬ (0:Int) = 92; decide)
  refine ⟨e1,⟨c1,?_,?_,?_⟩,k1⟩
  · rw [e]
    intro p hp
    by_cases hx:p.1 = nm
    · left; rw [hx]
    · right
      have hne:no ≠ p.2:=fun e=>hx (congrArg Prod.fst (h.calm.one _ (find_mem hf) p hp e)).symm
      show d.firm.getD p.2 0 = ((d.data.set no (d.data.getD no [] ++ b)).getD p.2 []).length
      rw [show (d.data.set no (d.data.getD no [] ++ b)).getD p.2 [] = d.data.getD p.2 [] by simp [List.getD,List.getElem?_set_ne hne]]
      rcases h.hard p hp with h1 | h1
      · cases h1
      · exact h1
  · have ht:=h.calm.tight (d.used + b.length) (Nat.le_add_right _ _)
    have e2:=ht.append_eq hg hf b (show (d.used:Int) + b.length ≤ ((d.used + b.length:Nat):Int) by omega)
    rcases ht.append hg (show cont _ nm = some c from hc) b with ⟨e3,_,_⟩ | ⟨_,c3,_⟩
    · rw [e2] at e3
      exact absurd e3 (by show ¬ (0:Int) = 92; decide)
    · have:=c3.room
      rw [e2] at this
      rw [e]
      have:=Int.ofNat_le.1 this
      exact Nat.le_trans this (Nat.add_le_add_right hu _)
  · rw [e]
    exact hroom
theorem Cl.sync (h:Cl ex u d) (hg:good nm = true) (hc:cont d nm = some c) (hx:ex = none ∨ ex = some nm):(d.sync nm).2 = 0 ∧ Cl none u (d.sync nm).1 ∧ ∀ x,cont (d.sync nm).1 x = cont d x:=by
  obtain ⟨no,hf,hd⟩:=cont_some hc
  obtain ⟨e1,c1,k1⟩:=h.calm.sync hg hc
  have e:=h.calm.sync_eq hg hf
  refine ⟨e1,⟨c1,?_,?_,?_⟩,k1⟩
  · rw [e]
    intro p hp
    right
    show (d.firm.set no (d.size no)).getD p.2 0 = d.size p.2
    have hi:no < d.firm.length:=by rw [h.calm.ok.lens]; exact h.calm.ok.inN _ (find_mem hf)
    by_cases hpn:no = p.2
    · rw [← hpn]
      simp [List.getD,hi]
    · rw [show (d.firm.set no (d.size no)).getD p.2 0 = d.firm.getD p.2 0 by simp [List.getD,List.getElem?_set_ne hpn]]
      rcases h.hard p hp with h1 | h1
      · rcases hx with hx | hx
        · rw [hx] at h1; cases h1
        · rw [hx] at h1
          have h2:nm = p.1:=Option.some.inj h1
          have h3:=mem_find h.calm.ok.upN hp
          rw [← h2,hf] at h3
          exact absurd (Option.some.inj h3) hpn
      · exact h1
  · rw [e]; exact h.used
  · rw [e]; exact h.room
theorem Cl.syncNames (h:Cl ex u d):d.syncNames.2 = 0 ∧ Cl ex u d.syncNames.1 ∧ ∀ x,cont d.syncNames.1 x = cont d x:=by
  obtain ⟨e1,c1,k1⟩:=h.calm.syncNames
  refine ⟨e1,⟨c1,?_,?_,?_⟩,k1⟩
  · rw [h.calm.syncNames_eq]; exact h.hard
  · rw [h.calm.syncNames_eq]; exact h.used
  · rw [h.calm.syncNames_eq]; exact h.room
theorem Cl.remove (h:Cl ex u d) (hg:good nm = true) (hc:cont d nm = some c):(d.remove nm).2 = 0 ∧ Cl ex u (d.remove nm).1 ∧ ∀ x,cont (d.remove nm).1 x = if x = nm then none else cont d x:=by
  obtain ⟨no,hf,hd⟩:=cont_some hc
  obtain ⟨e1,c1,k1⟩:=h.calm.remove hg hc
  have e:=h.calm.remove_eq hg hf
  refine ⟨e1,⟨c1,?_,?_,?_⟩,k1⟩
  · rw [e]
    exact fun p hp=>h.hard p (mem_del.1 hp).1
  · have:=sum_del (fun p=>d.size p.2) nm d.now
    rw [e]
    exact Nat.le_trans this h.used
  · rw [e]; exact h.room
theorem Cl.rename (h:Cl none u d) {to_:ByteArray} (hg:good nm = true) (hg2:good to_ = true) (hne:nm ≠ to_) (hc:cont d nm = some c):(d.rename nm to_).2 = 0 ∧ Cl none u (d.rename nm to_).1 ∧ ∀ x,cont (d.rename nm to_).1 x = if x = to_ then some c else if x = nm then none else cont d x:=by
  obtain ⟨no,hf,hd⟩:=cont_some hc
  obtain ⟨e1,c1,k1⟩:=h.calm.rename hg hg2 hne hc
  have e:=h.calm.rename_eq hg hg2 hne hf
  refine ⟨e1,⟨c1,?_,?_,?_⟩,k1⟩
  · rw [e]
    intro p hp
    rcases mem_put.1 hp with rfl | ⟨hp,_⟩
    · rcases h.hard _ (find_mem hf) with h1 | h1
      · cases h1
      · exact .inr h1
    · exact h.hard p (mem_del.1 hp).1
  · have ht:=h.calm.tight d.used (Nat.le_refl _)
    have:=(ht.rename hg hg2 hne (show cont _ nm = some c from hc)).2.1.room
    rw [ht.rename_eq hg hg2 hne hf] at this
    rw [e]
    exact Nat.le_trans (Int.ofNat_le.1 this) h.used
  · rw [e]; exact h.room
theorem Cl.mono {v:Nat} (h:Cl ex u d) (hv:u ≤ v):Cl ex v d:=⟨h.calm,h.hard,Nat.le_trans h.used hv,h.room⟩
end
def numb:Nat → List ByteArray → NM
  | _,[]=>[]
  | k,x :: r=>(x,k) :: numb (k + 1) r
def ofFiles (fs:List (ByteArray × List UInt8)) (room:Int) (fails:List Int) (power:Int):Dsk :=
  ⟨numb 0 (fs.map (·.1)),numb 0 (fs.map (·.1)),[],fs.map (·.2),fs.map (·.2.length),room,fails,power,0⟩
def rise:ByteArray → List ByteArray → Bool
  | _,[]=>true
  | last,x :: r=>good x && ltB last x && rise x r
theorem numb_len:∀ (l:List ByteArray) (k:Nat),(numb k l).length = l.length
  | [],_=>rfl
  | _ :: r,k=>congrArg (· + 1) (numb_len r (k + 1))
theorem numb_mem:∀ {l:List ByteArray} {k:Nat} {p:ByteArray × Nat},p ∈ numb k l → p.1 ∈ l ∧ k ≤ p.2 ∧ p.2 < k + l.length
  | [],_,_,h=>by cases h
  | x :: r,k,p,h=>by
    rcases List.mem_cons.1 h with rfl | h
    · exact ⟨by simp,Nat.le_refl _,by simp only [List.length_cons]; omega⟩
    · obtain ⟨h1,h2,h3⟩:=numb_mem h
      exact ⟨List.mem_cons_of_mem _ h1,by omega,by simp only [List.length_cons]; omega⟩
theorem numb_up:∀ {l:List ByteArray} {k:Nat},l.Pairwise (fun a b=>ltB a b = true) → Up (numb k l)
  | [],_,_=>List.Pairwise.nil
  | x :: r,k,h=>by
    obtain ⟨h1,h2⟩:=List.pairwise_cons.1 h
    exact List.pairwise_cons.2 ⟨fun p hp=>h1 _ (numb_mem hp).1,numb_up h2⟩
theorem numb_one:∀ {l:List ByteArray} {k:Nat},∀ p ∈ numb k l,∀ q ∈ numb k l,p.2 = q.2 → p = q
  | [],_,p,hp,_,_,_=>by cases hp
  | x :: r,k,p,hp,q,hq,e=>by
    rcases List.mem_cons.1 hp with rfl | hp
    · rcases List.mem_cons.1 hq with rfl | hq
      · rfl
      · have:=(numb_mem hq).2.1
        change k = q.2 at e
        omega
    · rcases List.mem_cons.1 hq with rfl | hq
      · have:=(numb_mem hp).2.1
        change p.2 = k at e
        omega
      · exact numb_one p hp q hq e
theorem numb_find (x:ByteArray):∀ (l:List (ByteArray × List UInt8)) (pre:List (List UInt8)),(find (numb pre.length (l.map (·.1))) x).map (fun no=>(pre ++ l.map (·.2)).getD no []) = (l.find? fun p=>decide (p.1 = x)).map (·.2)
  | [],_=>rfl
  | p :: r,pre=>by
    unfold find
    rw [List.map_cons,List.map_cons,numb,List.find?_cons,List.find?_cons]
    cases h:decide (p.1 = x) with
    | true=>simp [List.getD]
    | false =>
      have ih:=numb_find x r (pre ++ [p.2])
      unfold find at ih
      rw [List.length_append,List.length_singleton,List.append_assoc,List.singleton_append] at ih
      exact ih
theorem numb_sum:∀ (l:List (ByteArray × List UInt8)) (pre:List (List UInt8)),((numb pre.length (l.map (·.1))).map fun p=>((pre ++ l.map (·.2)).getD p.2 []).length).sum = (l.map (·.2.length)).sum
  | [],_=>rfl
  | p :: r,pre=>by
    have ih:=numb_sum r (pre ++ [p.2])
    rw [List.length_append,List.length_singleton,List.append_assoc,List.singleton_append] at ih
    rw [List.map_cons,List.map_cons,numb,List.map_cons,List.sum_cons,ih,List.map_cons,List.sum_cons]
    congr 1
    simp [List.getD]
theorem Cl.left {u:Nat} {d:Dsk} (h:Cl none u d) {k:Int} (hp:(d.pend.length:Int) ≤ k):d.left k [] = d.now.map fun p=>(p.1,d.data.getD p.2 []):=by
  unfold Dsk.left
  have h1:d.namesLeft k = d.now:=by
    unfold Dsk.namesLeft
    rw [List.take_of_length_le (by omega),← h.calm.ok.fold]
  rw [h1]
  apply List.map_congr_left
  intro p hp
  have:d.keepN [] p.2 = d.size p.2:=by
    unfold Dsk.keepN
    rcases h.hard p hp with h2 | h2
    · cases h2
    · rw [h2]; simp
  rw [this]
  unfold Dsk.size
  rw [List.take_length]
theorem map_find (f:Nat → List UInt8) (x:ByteArray) (l:NM):((l.map fun p=>(p.1,f p.2)).find? fun p=>decide (p.1 = x)).map (·.2) = (find l x).map f:=by
  unfold find
  induction l with
  | nil=>rfl
  | cons p r ih =>
    rw [List.map_cons,List.find?_cons,List.find?_cons]
    cases h:decide (p.1 = x) with
    | true=>rfl
    | false=>exact ih
theorem Cl.again {u:Nat} {d:Dsk} (h:Cl none u d) (hu:u ≤ 1073741824) {k:Int} (hp:(d.pend.length:Int) ≤ k):Cl none u (ofFiles (d.left k []) 1073741824 [] (-1)) ∧ ∀ x,cont (ofFiles (d.left k []) 1073741824 [] (-1)) x = cont d x:=by
  rw [h.left hp]
  have hn:((d.now.map fun p=>(p.1,d.data.getD p.2 [])).map (·.1)) = d.now.map (·.1):=by rw [List.map_map]; rfl
  have hc:∀ x,cont (ofFiles (d.now.map fun p=>(p.1,d.data.getD p.2 [])) 1073741824 [] (-1)) x = cont d x:=fun x =>
    (numb_find x (d.now.map fun p:ByteArray × Nat=>(p.1,d.data.getD p.2 [])) []).trans (map_find (fun no=>d.data.getD no []) x d.now)
  have hup:Up (numb 0 ((d.now.map fun p=>(p.1,d.data.getD p.2 [])).map (·.1))):=by
    rw [hn]
    exact numb_up (List.pairwise_map.2 h.calm.ok.upN)
  have hin:∀ p ∈ numb 0 ((d.now.map fun p=>(p.1,d.data.getD p.2 [])).map (·.1)),p.2 < ((d.now.map fun p=>(p.1,d.data.getD p.2 [])).map (·.2)).length:=fun p hp=>by
    have:=(numb_mem hp).2.2
    simp only [List.length_map] at this ⊢
    omega
  have hfs:∀ no,no < ((d.now.map fun p=>(p.1,d.data.getD p.2 [])).map (·.2)).length → ((d.now.map fun p=>(p.1,d.data.getD p.2 [])).map (·.2.length)).getD no 0 = (((d.now.map fun p=>(p.1,d.data.getD p.2 [])).map (·.2)).getD no []).length:=fun no hno=>by
    simp only [List.length_map] at hno
    simp [List.getD,hno]
  have hus:(ofFiles (d.now.map fun p=>(p.1,d.data.getD p.2 [])) 1073741824 [] (-1)).used = d.used:=by
    refine (numb_sum (d.now.map fun p:ByteArray × Nat=>(p.1,d.data.getD p.2 [])) []).trans ?_
    rw [List.map_map]
    rfl
  refine ⟨⟨⟨rfl,rfl,⟨by simp [ofFiles],hup,hup,hin,hin,(fun _ h=>by cases h),rfl,fun no hno=>Nat.le_of_eq (hfs no hno)⟩,numb_one,?_⟩,fun p hp=>.inr (hfs p.2 (hin p hp)),by rw [hus]; exact h.used,rfl⟩,hc⟩
  have:=h.used
  rw [hus]
  show (d.used:Int) ≤ 1073741824
  omega
theorem rise_up:∀ {l:List ByteArray} {last:ByteArray},(∀ x ∈ l,good x = true) → (last :: l).Pairwise (fun a b=>ltB a b = true) → rise last l = true
  | [],_,_,_=>rfl
  | x :: r,last,hg,h=>by
    obtain ⟨h1,h2⟩:=List.pairwise_cons.1 h
    unfold rise
    rw [hg x (by simp),h1 x (by simp),rise_up (fun y hy=>hg y (List.mem_cons_of_mem _ hy)) h2]
    rfl
end D
end Go.Proofs.YtkempjcphpnocaaGreatDoor
