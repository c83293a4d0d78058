/- What the laws' first script answers; the room of a disk stays; what a script of Puts keeps. No program here. The walk of the Store laws' first script. Condition: the library's tables. -/
import Derived.Test.YtkempjcphpnocaaGreatDoorZ11
import Derived.Test.YtkempjcphpnocaaGreatDoorZ21
import Derived.Test.YtkempjcphpnocaaGreatDoorZ15
namespace Go.Proofs.YtkempjcphpnocaaGreatDoor
namespace D
theorem begin_room (s:Dsk) (names:List ByteArray):(s.begin names).1.room = s.room:=by
  unfold Dsk.begin
  split <;> rfl
theorem create_room (s:Dsk) (nm:ByteArray):(s.create nm).1.room = s.room:=by
  have h:=begin_room s [nm]
  unfold Dsk.create
  generalize s.begin [nm] = y at *
  obtain ⟨s1,e⟩:=y
  dsimp only at h ⊢
  split
  · exact h
  · split
    · exact h
    · exact h
theorem on_room (s:Dsk) (nm:ByteArray) (more:List ByteArray) (f:Dsk → Nat → Dsk × Int) (hf:∀ s no,(f s no).1.room = s.room):(s.on nm more f).1.room = s.room:=by
  have h:=begin_room s (more ++ [nm])
  unfold Dsk.on
  generalize s.begin (more ++ [nm]) = y at *
  obtain ⟨s1,e⟩:=y
  dsimp only at h ⊢
  split
  · exact h
  · split
    · exact h
    · exact (hf _ _).trans h
theorem append_room (s:Dsk) (nm:ByteArray) (b:List UInt8):(s.append nm b).1.room = s.room:=on_room _ _ _ _ fun s no=>by
  split <;> rfl
theorem sync_room (s:Dsk) (nm:ByteArray):(s.sync nm).1.room = s.room:=on_room _ _ _ _ fun _ _=>rfl
theorem rename_room (s:Dsk) (a b:ByteArray):(s.rename a b).1.room = s.room:=on_room _ _ _ _ fun s no=>by
  split <;> rfl
theorem remove_room (s:Dsk) (nm:ByteArray):(s.remove nm).1.room = s.room:=on_room _ _ _ _ fun _ _=>rfl
theorem syncNames_room (s:Dsk):s.syncNames.1.room = s.room:=by
  have h:=begin_room s []
  unfold Dsk.syncNames
  generalize s.begin [] = y at *
  obtain ⟨s1,e⟩:=y
  dsimp only at h ⊢
  split
  · exact h
  · exact h
end D
namespace S
theorem steps_room:∀ (l:List (D.Dsk → D.Dsk × Int)) (d:D.Dsk),(∀ f ∈ l,∀ d:D.Dsk,(f d).1.room = d.room) → (steps d l).1.room = d.room
  | [],_,_=>rfl
  | f :: r,d,hf=>by
    have h1:=hf f (by simp) d
    unfold steps
    split
    · exact h1
    · exact (steps_room r (f d).1 (fun g hg=>hf g (List.mem_cons_of_mem _ hg))).trans h1
theorem moves_room (b:List UInt8):∀ f ∈ moves b,∀ d:D.Dsk,(f d).1.room = d.room:=by
  intro f hf d
  unfold moves at hf
  simp only [List.mem_cons,List.not_mem_nil,or_false] at hf
  rcases hf with rfl | rfl | rfl | rfl
  · exact D.create_room _ _
  · exact D.append_room _ _ _
  · exact D.sync_room _ _
  · exact D.rename_room _ _ _
theorem rewrite_room (d:D.Dsk) (count:Nat) (list:List R.Rc):(rewrite d count list).1.room = d.room:=by
  have h1:=steps_room _ d (moves_room (R.encAll list 0 []).1)
  unfold rewrite
  split
  · rfl
  · split
    · exact (D.syncNames_room _).trans h1
    · split
      · exact h1
      · exact (D.remove_room _ _).trans h1
theorem add_room (d:D.Dsk) (count:Nat) (op no:Int) (id:ByteArray):(add d count op no id).1.room = d.room:=by
  unfold add
  split
  · rfl
  · split
    · exact D.append_room _ _ _
    · exact (D.sync_room _ _).trans (D.append_room _ _ _)
theorem lay_room (d:D.Dsk) (p:ByteArray) (b:List UInt8):(lay d p b).1.room = d.room:=by
  unfold lay
  have hx:(if has d.list p then d.remove p else (d,0)).1.room = d.room:=by
    split
    · exact D.remove_room _ _
    · rfl
  generalize (if has d.list p then d.remove p else (d,0)) = x at *
  dsimp only
  split
  · exact hx
  · have hy:=(D.create_room x.1 p).trans hx
    generalize x.1.create p = y at *
    split
    · exact hy
    · have hz:=(D.append_room y.1 p b).trans hy
      generalize y.1.append p b = z at *
      split
      · exact hz
      · have hu:=(D.sync_room z.1 p).trans hz
        generalize z.1.sync p = u at *
        split
        · exact hu
        · exact (D.syncNames_room _).trans hu
theorem tidy_room (s:Sto):s.tidy.d.room = s.d.room:=by
  unfold Sto.tidy
  split
  · rfl
  · exact rewrite_room _ _ _
theorem tidy_tab (s:Sto):s.tidy.tab = s.tab:=by
  unfold Sto.tidy
  split <;> rfl
theorem freed_room (s:Sto) (id:ByteArray):(s.freed id).d.room = s.d.room:=by
  unfold Sto.freed
  split
  · exact D.remove_room _ _
  · rfl
theorem freed_tab (s:Sto) (id:ByteArray):(s.freed id).tab = s.tab:=by
  unfold Sto.freed
  split <;> rfl
theorem entered_keeps (s:Sto) (no:Nat) (id:ByteArray) (x:D.Dsk × Bool × Int):(s.entered no id x).1.d.room = x.1.room ∧ ((s.entered no id x).1.tab = s.tab ∨ (s.entered no id x).1.tab = D.put s.tab id no):=by
  unfold Sto.entered
  have hy:(if x.2.2 = 0 then add x.1 s.count 1 no id else (x.1,s.count,x.2.2):D.Dsk × Nat × Int).1.room = x.1.room:=by
    split
    · exact add_room _ _ _ _ _
    · rfl
  generalize (if x.2.2 = 0 then add x.1 s.count 1 no id else (x.1,s.count,x.2.2):D.Dsk × Nat × Int) = y at *
  dsimp only
  split
  · refine ⟨?_,.inl rfl⟩
    split
    · exact (D.remove_room _ _).trans hy
    · exact hy
  · refine ⟨?_,.inr ?_⟩
    · rw [tidy_room]
      exact (freed_room _ _).trans hy
    · rw [tidy_tab]
      show D.put (({ s with d:=y.1,count:=y.2.1 }:Sto).freed id).tab id no = _
      rw [freed_tab]
theorem put_keeps (s:Sto) (E:O.Ent):(s.put E).1.d.room = s.d.room ∧ ((s.put E).1.tab = s.tab ∨ (idOf E).size ≤ 4096 ∧ ∃ no,(s.put E).1.tab = D.put s.tab (idOf E) no):=by
  unfold Sto.put
  split
  · exact ⟨rfl,.inl rfl⟩
  · split
    · exact ⟨rfl,.inl rfl⟩
    · rename_i hs
      split
      · exact ⟨rfl,.inl rfl⟩
      · rename_i no _
        obtain ⟨h1,h2⟩:=entered_keeps s no (idOf E) (lay s.d (path no) (encB E))
        exact ⟨h1.trans (lay_room _ _ _),h2.imp id fun h=>⟨by omega,no,h⟩⟩
structure Kept (room:Int) (i:Nat) (s:Sto):Prop where
  inv:Inv s
  fit:D.Fit (3 + 13 * i) s.d
  ids:∀ p ∈ s.tab,p.1.size ≤ 4096
  len:s.tab.length ≤ i
  count:s.count ≤ i
  room:s.d.room = room
theorem Kept.put {room:Int} {i:Nat} {s:Sto} (h:Kept room i s) (E:O.Ent) (hi:i ≤ 100):Kept room (i + 1) (s.put E).1:=by
  obtain ⟨k1,k2⟩:=put_keeps s E
  have hf:D.Fit (3 + 13 * (i + 1)) (s.put E).1.d:=by
    have:=put_fit h.fit E
    rw [show 3 + 13 * (i + 1) = 3 + 13 * i + 13 by omega]
    exact this
  have hid:∀ p ∈ (s.put E).1.tab,p.1.size ≤ 4096:=by
    intro p hp
    rcases k2 with k2 | ⟨hz,no,k2⟩
    · rw [k2] at hp; exact h.ids p hp
    · rw [k2] at hp
      rcases D.mem_put.1 hp with rfl | hp
      · exact hz
      · exact h.ids p hp.1
  have hc:=h.count
  have hl:=h.len
  rcases put_ways h.inv E (by omega) with ⟨_,w2,w3,w4,w5,_⟩ | ⟨_,w2,w3,w4,w5⟩
  · exact ⟨w2,hf,hid,by rw [w3]; omega,by rw [w5]; omega,k1.trans h.room⟩
  · exact ⟨w2,hf,hid,by omega,by rcases w5 with w5 | w5 <;> omega,k1.trans h.room⟩
theorem Kept.start {room:Int} (h:0 ≤ room ∧ room ≤ 1073741824) {n:Nat} (hn:n ≤ 4096):Kept room 0 ⟨born room,0,[],marks n []⟩ :=
  ⟨(born_facts h.1).2.2.2.2 n hn,born_fit h,(fun _ h=>by cases h),Nat.le_refl _,Nat.le_refl _,by
    show (born room).room = room
    unfold S.born
    rw [D.syncNames_room,D.sync_room,D.create_room]
    rfl⟩
theorem Kept.refused {room:Int} {i:Nat} {s:Sto} (h:Kept room i s) (E:O.Ent) (hi:i ≤ 100) (hE:(s.put E).2 ≠ 0):(s.put E).1.ids = s.ids ∧ (s.put E).1.d.list = s.d.list ∧ ((s.put E).1.d.used:Int) ≤ room ∧ ∀ id ∈ s.ids,(s.put E).1.get id = s.get id:=by
  have hc:=h.count
  have hk:=(h.put E hi)
  rcases put_ways h.inv E (by omega) with ⟨_,w2,w3,w4,w5,w6⟩ | ⟨w1,_⟩
  · refine ⟨by unfold Sto.ids; rw [w3],h.inv.calm.names w2.calm (fun x=>by rw [w6]),?_,fun id hid=>get_same h.inv w2 w3 w6 hid⟩
    have:=w2.calm.room
    rw [hk.room] at this
    exact this
  · exact absurd w1 hE
def aliveX:O.Ent:=⟨⟨#[107]⟩,⟨#[]⟩,200,⟨#[]⟩,1,[],[],0,0⟩
def aliveY:O.Ent:=⟨⟨#[109]⟩,⟨#[]⟩,200,⟨#[]⟩,1,[],[],0,0⟩
def alive0:Sto:=⟨born 9999,0,[],marks 1 []⟩
theorem alive_n0:alive0.d.n = 3:=by decide +kernel
theorem alive_x:(alive0.put aliveX).2 = 0:=by decide +kernel
theorem alive_n1:(alive0.put aliveX).1.d.n = 9:=by decide +kernel
theorem alive_y:((alive0.put aliveX).1.put aliveY).2 = 130:=by decide +kernel
theorem alive_g:∃ E,((alive0.put aliveX).1.put aliveY).1.get ⟨#[107,10]⟩ = some E ∧ E.k.data.toList = [107] ∧ E.s = 200:=by
  have h:(((alive0.put aliveX).1.put aliveY).1.get ⟨#[107,10]⟩).map (fun E=>(E.k.data.toList,E.s)) = some ([107],200):=by decide +kernel
  cases hg:((alive0.put aliveX).1.put aliveY).1.get ⟨#[107,10]⟩ with
  | none=>rw [hg] at h; cases h
  | some E =>
    rw [hg] at h
    simp only [Option.map_some,Option.some.injEq,Prod.mk.injEq] at h
    exact ⟨E,rfl,h.1,h.2⟩
theorem alive_path:path 4095 = ⟨#[111,47,51,102,47,51,102]⟩:=by decide +kernel
end S
end Go.Proofs.YtkempjcphpnocaaGreatDoor
namespace Go.Proofs.YtkempjcphpnocaaGreatDoor
open Go Go.RowKit Go.Maps
section
variable {B k:Nat} {M:DM} {d:D.Dsk} {X:SM} {s:S.Sto} {w w':World} {F F':Nat → Prop}
theorem DkAt.under (h:DkAt B M d w) (hf:M.foot d k):B ≤ k:=by
  rcases hf with rfl | rfl | rfl | hf | ⟨no,hn,rfl | hf⟩
  · exact h.ge.1
  · exact h.ge.2.1
  · exact h.ge.2.2
  · exact (h.pend.lt k hf).1
  · exact (h.files no hn).ge
  · exact ((h.files no hn).row.lt k hf).1
theorem StAt.under (h:StAt B X s w) (hf:X.foot s k):B ≤ k:=by
  rcases hf with hf | rfl | rfl | rfl | hf
  · exact h.log.disk.under hf
  · exact h.log.ge
  · exact h.ge.1
  · exact h.ge.2
  · exact (h.used.lt k hf).1
theorem Went.under (h:Went F w F' w') (hF:∀ k,F k → B ≤ k) (hB:B ≤ w.heap.size):Below B w w' :=
  ⟨h.os,h.tape,h.output,h.size,fun k hk=>h.block k (Nat.lt_of_lt_of_le hk hB) (fun hf=>by have:=hF k hf; omega)⟩
end
set_option maxRecDepth 100000 in
set_option maxHeartbeats 4000000 in
theorem storeAlive_any (w:World) (ht:Tabs w):Calls Tryz.prog 6 #[] w (RetB w true):=by
  have HTB:=Lib.hid ht
  have HNW:=Lib.hid (newNil_any 9999 (-1) w)
  clear ht
  go_enter Tryz.func6,Tryz.ntmps6
  go_wp2_with fail
  refine HNW.out.mono ?_
  rintro e w1 (⟨hbad,_⟩ | ⟨_,_,M,rfl,hd1,hb1⟩)
  · exact absurd ⟨by decide,by decide⟩ hbad
  have HOP:=Lib.hid (open0_any w.heap.size M 9999 1 w1 hd1 ⟨by decide,by decide⟩ (by decide))
  have hun:∀ k,M.foot (S.fresh 9999) k → w.heap.size ≤ k:=fun k hk=>hd1.under hk
  have HUN:=Lib.hid hun
  have HB1:=Lib.hid hb1
  clear hd1 hb1 hun HNW
  go_wp2_with fail
  refine HOP.out.mono ?_
  rintro e w2 ⟨X,rfl,hs2,hw2,hm2⟩
  have HS2:=Lib.hid hs2
  have HB2:=Lib.hid (HB1.out.trans (hw2.under HUN.out HB1.out.size))
  have HM2:=Lib.hid hm2
  have HST:=Lib.hid (steps_any w.heap.size X.M _ w2 hs2.log.disk)
  rw [hm2] at HST
  have hn3:(S.born 9999).n = 3:=S.alive_n0
  dsimp only at HST
  rw [hn3] at HST
  clear hs2 hw2 hm2 HOP HUN HB1 hn3
  go_wp2_with fail
  refine HST.out.mono ?_
  rintro e w2' ⟨rfl,rfl⟩
  go_upto_region 9 with fail
  obtain ⟨W3,hW3⟩:∃ W3,w2.alloc (.cells #[.string ⟨#[107]⟩,.string ⟨#[]⟩,.int .i64 200,.string ⟨#[]⟩,.int .i64 1,.slice none 0 0,.slice none 0 0,.int .i64 0,.int .i64 0] 28) = W3:=⟨_,rfl⟩
  have hs3:W3.heap.size = w2.heap.size + 1:=by rw [← hW3]; exact World.size_alloc ..
  have hbx:Blk W3 w2.heap.size #[.string ⟨#[107]⟩,.string ⟨#[]⟩,.int .i64 200,.string ⟨#[]⟩,.int .i64 1,.slice none 0 0,.slice none 0 0,.int .i64 0,.int .i64 0] 28:=by rw [← hW3]; exact Blk.new w2 _ _
  have hb3:Below w2.heap.size w2 W3:=by rw [← hW3]; exact (Below.refl _ _).alloc (Nat.le_refl _) _
  rw [hW3]
  obtain ⟨W4,hW4⟩:∃ W4,W3.alloc (.cells #[.string ⟨#[109]⟩,.string ⟨#[]⟩,.int .i64 200,.string ⟨#[]⟩,.int .i64 1,.slice none 0 0,.slice none 0 0,.int .i64 0,.int .i64 0] 28) = W4:=⟨_,rfl⟩
  have hby:Blk W4 (w2.heap.size + 1) #[.string ⟨#[109]⟩,.string ⟨#[]⟩,.int .i64 200,.string ⟨#[]⟩,.int .i64 1,.slice none 0 0,.slice none 0 0,.int .i64 0,.int .i64 0] 28:=by rw [← hW4,← hs3]; exact Blk.new W3 _ _
  have hb4:Below W3.heap.size W3 W4:=by rw [← hW4]; exact (Below.refl _ _).alloc (Nat.le_refl _) _
  rw [hW4]
  have hb24:=below_then hb3.size hb3 hb4
  have HX4:=Lib.hid (hbx.below hb4)
  have HY4:=Lib.hid hby
  have HS4:=Lib.hid (HS2.out.below hb24)
  have HB4:=Lib.hid (below_then HB2.out.size HB2.out hb24)
  have HLT:=Lib.hid (fun k (hk:X.foot S.alive0 k)=>HS2.out.lt hk)
  clear hW3 hs3 hbx hb3 hW4 hby hb4 hb24 HS2 HB2 HST
  have hkp0:S.Kept 9999 0 S.alive0:=S.Kept.start (room:=9999) ⟨by decide,by decide⟩ (n:=1) (by decide)
  have HK0:=Lib.hid hkp0
  have HK1:=Lib.hid (hkp0.put S.aliveX (by decide))
  clear hkp0
  have HPX:Hid (Calls Tryz.prog 10 #[.pointer (some ⟨X.st,0,none⟩),.agg #[.string ⟨#[107]⟩,.string ⟨#[]⟩,.int .i64 200,.string ⟨#[]⟩,.int .i64 1,.slice none 0 0,.slice none 0 0,.int .i64 0,.int .i64 0]] W4 (RetSto w.heap.size X S.alive0 W4 (S.alive0.put S.aliveX).1 (.int .i64 (S.alive0.put S.aliveX).2))) :=
    Lib.hid (sput_any w.heap.size X S.alive0 S.aliveX 3 none 0 none 0 W4 HS4.out HK0.out.fit (by decide) HK0.out.inv.up (by decide) (fun _ h=>by cases h) (by decide) HK0.out.inv.lens (fun _ h=>by cases h) (by decide) (by decide) (by decide) (by decide) (Rd.nil _ _ _) (Rd.nil _ _ _) (HTB.out.below HB4.out).2.2)
  rw [S.alive_x] at HPX
  obtain ⟨x0,x1,x2,x3,x4,x5,x6,x7,x8⟩:=HX4.out.cells9
  go_wp2_with fail
  clear x0 x1 x2 x3 x4 x5 x6 x7 x8
  refine HPX.out.mono ?_
  rintro e w5 ⟨rfl,X5,hs5,hw5,hst5,hd5,_⟩
  have hY5:=hw5.blk HY4.out (fun hf=>by have:=HLT.out _ hf; omega)
  have HY5:=Lib.hid hY5
  have HS5:=Lib.hid hs5
  have HB5:=Lib.hid (HB4.out.trans (hw5.under (fun k hk=>HS4.out.under hk) HB4.out.size))
  have HM5:=Lib.hid (hd5.trans HM2.out)
  have HN5:=Lib.hid (steps_any w.heap.size X5.M _ w5 hs5.log.disk)
  rw [HM5.out,S.alive_n1] at HN5
  rw [← hst5]
  clear hY5 hs5 hw5 hst5 hd5 HPX HX4 HY4 HS4 HB4 HLT HM2 HK0
  go_wp2_with fail
  refine HN5.out.mono ?_
  rintro e w5' ⟨rfl,rfl⟩
  obtain ⟨s1,hs1⟩:∃ s1,(S.alive0.put S.aliveX).1 = s1:=⟨_,rfl⟩
  have HE1:=Lib.hid hs1
  rw [hs1] at HS5 HK1
  clear hs1
  have HPY:Hid (Calls Tryz.prog 10 #[.pointer (some ⟨X5.st,0,none⟩),.agg #[.string ⟨#[109]⟩,.string ⟨#[]⟩,.int .i64 200,.string ⟨#[]⟩,.int .i64 1,.slice none 0 0,.slice none 0 0,.int .i64 0,.int .i64 0]] w5 (RetSto w.heap.size X5 s1 w5 (s1.put S.aliveY).1 (.int .i64 (s1.put S.aliveY).2))) :=
    Lib.hid (sput_any w.heap.size X5 s1 S.aliveY 16 none 0 none 0 w5 HS5.out HK1.out.fit (by decide) HK1.out.inv.up (by have:=HK1.out.len; omega) (fun p hp=>by have:=HK1.out.ids p hp; omega) (by have:=HK1.out.count; omega) HK1.out.inv.lens (fun p hp=>(HK1.out.inv.tab p hp).1) (by decide) (by decide) (by decide) (by decide) (Rd.nil _ _ _) (Rd.nil _ _ _) (HTB.out.below HB5.out).2.2)
  have hy:(s1.put S.aliveY).2 = 130:=by rw [← HE1.out]; exact S.alive_y
  rw [hy] at HPY
  have HK2:=Lib.hid (HK1.out.put S.aliveY (by decide))
  obtain ⟨x0,x1,x2,x3,x4,x5,x6,x7,x8⟩:=HY5.out.cells9
  clear hy
  go_wp2_with fail
  clear x0 x1 x2 x3 x4 x5 x6 x7 x8
  refine HPY.out.mono ?_
  rintro e w6 ⟨rfl,X6,hs6,hw6,hst6,_,_⟩
  have HB6:=Lib.hid (HB5.out.trans (hw6.under (fun k hk=>HS5.out.under hk) HB5.out.size))
  obtain ⟨E,hE,hEk,hEs⟩:=S.alive_g
  rw [HE1.out] at hE
  have hEk2:E.k = ⟨#[107]⟩:=D.L_inj hEk
  obtain ⟨Ek,Ev,Es,Er,Em,Efs,Eb,Ea,Eg⟩:=E
  dsimp only at hEk2 hEs
  subst hEk2 hEs
  clear hEk
  have HGE:=Lib.hid (sget_any w.heap.size X6 _ ⟨#[107,10]⟩ 29 w6 hs6 HK2.out.fit (by decide) (fun p hp=>Nat.lt_of_lt_of_le (HK2.out.inv.tab p hp).1 HK2.out.inv.lens) (by decide) (HTB.out.below HB6.out))
  rw [hE] at HGE
  rw [← hst6]
  clear hs6 hw6 hst6 hE HPY HS5 HB5 HY5 HN5 HK1 HK2
  go_wp2_with fail
  refine HGE.out.mono ?_
  rintro e w7 ⟨A,c,Xb,dd,rfl,_,_,hb7⟩
  have HB7:=Lib.hid (below_then HB6.out.size HB6.out hb7)
  clear hb7 HGE HB6
  dsimp only [Option.getD_some,Option.isSome_some,entV]
  have HPA:=Lib.hid (fun u=>path_any 4095 u (by decide))
  rw [S.alive_path] at HPA
  go_wp2_with fail
  refine (HPA.out _).mono ?_
  rintro e w8 ⟨rfl,hb8⟩
  have HB8:=Lib.hid (below_then HB7.out.size HB7.out (below_then (by rw [World.size_alloc]; omega) ((Below.refl _ w7).alloc (Nat.le_refl _) _) hb8))
  clear HPA HB7 hb8
  go_wp2
  go_ret
  exact ⟨rfl,HB8.out⟩
end Go.Proofs.YtkempjcphpnocaaGreatDoor
