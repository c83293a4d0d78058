/- What the laws' first script answers; the room of a disk stays; what a script of Puts keeps. No program here. The walk of the store's Open over a new disk. Conditions: what the disk's steps ask. The walk of vary.Matches (printed by gen/varye.py). -/
import Derived.Test.YthjeglnkgdpijaaGreatDoorZ00
import Derived.Maps.OwnSet
set_option maxHeartbeats 4000000
set_option maxRecDepth 100000
namespace Go.Proofs.YthjeglnkgdpijaaGreatDoor
namespace D
theorem begin_room (s:Dsk) (names:List ByteArray):(s.begin names).1.room=s.room:=by
 unfold Dsk.begin
 split<;>rfl
theorem create_room (s:Dsk) (nm:ByteArray):(s.create nm).1.room=s.room:=by
 have h:=begin_room s [nm]
 unfold Dsk.create
 generalize s.begin [nm]=y at *
 obtain⟨s1,e⟩:=y
 dsimp only at h ⊢
 split
 ·exact h
 ·split
  ·exact h
  ·exact h
theorem on_room (s:Dsk) (nm:ByteArray) (more:List ByteArray) (f:Dsk→Nat→Dsk × Int) (hf:∀ s no,(f s no).1.room=s.room):(s.on nm more f).1.room=s.room:=by
 have h:=begin_room s (more++[nm])
 unfold Dsk.on
 generalize s.begin (more++[nm])=y at *
 obtain⟨s1,e⟩:=y
 dsimp only at h ⊢
 split
 ·exact h
 ·split
  ·exact h
  ·exact (hf _ _).trans h
theorem append_room (s:Dsk) (nm:ByteArray) (b:List UInt8):(s.append nm b).1.room=s.room:=on_room _ _ _ _ fun s no=>by
 split<;>rfl
theorem sync_room (s:Dsk) (nm:ByteArray):(s.sync nm).1.room=s.room:=on_room _ _ _ _ fun _ _=>rfl
theorem rename_room (s:Dsk) (a b:ByteArray):(s.rename a b).1.room=s.room:=on_room _ _ _ _ fun s no=>by
 split<;>rfl
theorem remove_room (s:Dsk) (nm:ByteArray):(s.remove nm).1.room=s.room:=on_room _ _ _ _ fun _ _=>rfl
theorem syncNames_room (s:Dsk):s.syncNames.1.room=s.room:=by
 have h:=begin_room s []
 unfold Dsk.syncNames
 generalize s.begin []=y at *
 obtain⟨s1,e⟩:=y
 dsimp only at h ⊢
 split
 ·exact h
 ·exact h
end D
namespace S
theorem steps_room:∀ (l:List (D.Dsk→D.Dsk × Int)) (d:D.Dsk),(∀ f∈l,∀ d:D.Dsk,(f d).1.room=d.room)→(steps d l).1.room=d.room
 | [],_,_=>rfl
 | f::r,d,hf=>by
  have h1:=hf f (by simp) d
  unfold steps
  split
  ·exact h1
  ·exact (steps_room r (f d).1 (fun g hg=>hf g (List.mem_cons_of_mem _ hg))).trans h1
theorem moves_room (b:List UInt8):∀ f∈moves b,∀ d:D.Dsk,(f d).1.room=d.room:=by
 intro f hf d
 unfold moves at hf
 simp only[List.mem_cons,List.not_mem_nil,or_false]at hf
 rcases hf with rfl | rfl | rfl | rfl
 ·exact D.create_room _ _
 ·exact D.append_room _ _ _
 ·exact D.sync_room _ _
 ·exact D.rename_room _ _ _
theorem rewrite_room (d:D.Dsk) (count:Nat) (list:List R.Rc):(rewrite d count list).1.room=d.room:=by
 have h1:=steps_room _ d (moves_room (R.encAll list 0 []).1)
 unfold rewrite
 split
 ·rfl
 ·split
  ·exact (D.syncNames_room _).trans h1
  ·split
   ·exact h1
   ·exact (D.remove_room _ _).trans h1
theorem add_room (d:D.Dsk) (count:Nat) (op no:Int) (id:ByteArray):(add d count op no id).1.room=d.room:=by
 unfold add
 split
 ·rfl
 ·split
  ·exact D.append_room _ _ _
  ·exact (D.sync_room _ _).trans (D.append_room _ _ _)
theorem lay_room (d:D.Dsk) (p:ByteArray) (b:List UInt8):(lay d p b).1.room=d.room:=by
 unfold lay
 have hx:(if has d.list p then d.remove p else (d,0)).1.room=d.room:=by
  split
  ·exact D.remove_room _ _
  ·rfl
 generalize (if has d.list p then d.remove p else (d,0))=x at *
 dsimp only
 split
 ·exact hx
 ·have hy:=(D.create_room x.1 p).trans hx
  generalize x.1.create p=y at *
  split
  ·exact hy
  ·have hz:=(D.append_room y.1 p b).trans hy
   generalize y.1.append p b=z at *
   split
   ·exact hz
   ·have hu:=(D.sync_room z.1 p).trans hz
    generalize z.1.sync p=u at *
    split
    ·exact hu
    ·exact (D.syncNames_room _).trans hu
theorem tidy_room (s:Sto):s.tidy.d.room=s.d.room:=by
 unfold Sto.tidy
 split
 ·rfl
 ·exact rewrite_room _ _ _
theorem tidy_tab (s:Sto):s.tidy.tab=s.tab:=by
 unfold Sto.tidy
 split<;>rfl
theorem freed_room (s:Sto) (id:ByteArray):(s.freed id).d.room=s.d.room:=by
 unfold Sto.freed
 split
 ·exact D.remove_room _ _
 ·rfl
theorem freed_tab (s:Sto) (id:ByteArray):(s.freed id).tab=s.tab:=by
 unfold Sto.freed
 split<;>rfl
theorem entered_keeps (s:Sto) (no:Nat) (id:ByteArray) (x:D.Dsk × Bool × Int):(s.entered no id x).1.d.room=x.1.room∧((s.entered no id x).1.tab=s.tab∨(s.entered no id x).1.tab=D.put s.tab id no):=by
 unfold Sto.entered
 have hy:(if x.2.2=0 then add x.1 s.count 1 no id else (x.1,s.count,x.2.2):D.Dsk × Nat × Int).1.room=x.1.room:=by
  split
  ·exact add_room _ _ _ _ _
  ·rfl
 generalize (if x.2.2=0 then add x.1 s.count 1 no id else (x.1,s.count,x.2.2):D.Dsk × Nat × Int)=y at *
 dsimp only
 split
 ·refine⟨?_,.inl rfl⟩
  split
  ·exact (D.remove_room _ _).trans hy
  ·exact hy
 ·refine⟨?_,.inr ?_⟩
  ·rw[tidy_room]
   exact (freed_room _ _).trans hy
  ·rw[tidy_tab]
   show D.put (({ s with d:=y.1,count:=y.2.1 }:Sto).freed id).tab id no=_
   rw[freed_tab]
theorem put_keeps (s:Sto) (E:O.Ent):(s.put E).1.d.room=s.d.room∧((s.put E).1.tab=s.tab∨(idOf E).size≤4096∧∃ no,(s.put E).1.tab=D.put s.tab (idOf E) no):=by
 unfold Sto.put
 split
 ·exact⟨rfl,.inl rfl⟩
 ·split
  ·exact⟨rfl,.inl rfl⟩
  ·rename_i hs
   split
   ·exact⟨rfl,.inl rfl⟩
   ·rename_i no _
    obtain⟨h1,h2⟩:=entered_keeps s no (idOf E) (lay s.d (path no) (encB E))
    exact⟨h1.trans (lay_room _ _ _),h2.imp id fun h=>⟨by omega,no,h⟩⟩
structure Kept (room:Int) (i:Nat) (s:Sto):Prop where
 inv:Inv s
 fit:D.Fit (3+13 * i) s.d
 ids:∀ p∈s.tab,p.1.size≤4096
 len:s.tab.length≤i
 count:s.count≤i
 room:s.d.room=room
theorem Kept.put {room:Int} {i:Nat} {s:Sto} (h:Kept room i s) (E:O.Ent) (hi:i≤100):Kept room (i+1) (s.put E).1:=by
 obtain⟨k1,k2⟩:=put_keeps s E
 have hf:D.Fit (3+13 * (i+1)) (s.put E).1.d:=by
  have:=put_fit h.fit E
  rw[show 3+13 * (i+1)=3+13 * i+13 by omega]
  exact this
 have hid:∀ p∈(s.put E).1.tab,p.1.size≤4096:=by
  intro p hp
  rcases k2 with k2 | ⟨hz,no,k2⟩
  ·rw[k2]at hp;exact h.ids p hp
  ·rw[k2]at hp
   rcases D.mem_put.1 hp with rfl | hp
   ·exact hz
   ·exact h.ids p hp.1
 have hc:=h.count
 have hl:=h.len
 rcases put_ways h.inv E (by omega) with ⟨_,w2,w3,w4,w5,_⟩ | ⟨_,w2,w3,w4,w5⟩
 ·exact⟨w2,hf,hid,by rw[w3];omega,by rw[w5];omega,k1.trans h.room⟩
 ·exact⟨w2,hf,hid,by omega,by rcases w5 with w5 | w5<;>omega,k1.trans h.room⟩
theorem Kept.start {room:Int} (h:0≤room∧room≤1073741824) {n:Nat} (hn:n≤4096):Kept room 0 ⟨born room,0,[],marks n []⟩ :=
 ⟨(born_facts h.1).2.2.2.2 n hn,born_fit h,(fun _ h=>by cases h),Nat.le_refl _,Nat.le_refl _,by
  show (born room).room=room
  unfold S.born
  rw[D.syncNames_room,D.sync_room,D.create_room]
  rfl⟩
theorem Kept.refused {room:Int} {i:Nat} {s:Sto} (h:Kept room i s) (E:O.Ent) (hi:i≤100) (hE:(s.put E).2≠0):(s.put E).1.ids=s.ids∧(s.put E).1.d.list=s.d.list∧((s.put E).1.d.used:Int)≤room∧∀ id∈s.ids,(s.put E).1.get id=s.get id:=by
 have hc:=h.count
 have hk:=(h.put E hi)
 rcases put_ways h.inv E (by omega) with ⟨_,w2,w3,w4,w5,w6⟩ | ⟨w1,_⟩
 ·refine⟨by unfold Sto.ids;rw[w3],h.inv.calm.names w2.calm (fun x=>by rw[w6]),?_,fun id hid=>get_same h.inv w2 w3 w6 hid⟩
  have:=w2.calm.room
  rw[hk.room]at this
  exact this
 ·exact absurd w1 hE
end S
open Go Go.RowKit Go.Maps
theorem unT_ul:Tryz.prog.underlying 74=some (.map 9 88):=by kernel_rfl
theorem zeroUnit (w:World):(zeroValue 88).run Tryz.prog w=.ok (.agg #[]) w:=by kernel_rfl
theorem unit_none {b:Nat} {w:World} (h:w.ownsMap Tryz.prog 9 (unitElem (H:=Unit)) b 0 (.map [])) (nm:ByteArray) (hs:nm.size≤maxLen) :
  (Instr.lookup 74 (.map (some b)) (.string nm) true).run Tryz.prog w=.ok (.tuple #[.agg #[],.bool false]) w:=by
 obtain⟨v,ps,hr,hv⟩:=h.look_ok (string_keyed strT_ul) unT_ul (zeroUnit w) (zd:=.agg []) (zp:=[]) unitElem_mk (nmKey nm hs)
 obtain⟨rfl,_⟩:=unitElem_inv hv
 exact hr
theorem isO_any (nm:ByteArray) (w:World):Calls Tryz.prog 58 #[.string nm,.string ⟨#[111,47]⟩] w (RetP w (.bool (S.isO nm))):=by
 have e:Lib.hasPrefix (L nm) (L ⟨#[111,47]⟩)=S.isO nm:=by
  unfold S.isO
  rw[← Lib.hasPrefix_of_take]
  have e2:(L (⟨#[111,47]⟩:ByteArray))=[111,47]:=rfl
  rw[e2,Bool.eq_iff_iff]
  simp only[Bool.and_eq_true,decide_eq_true_eq,beq_iff_eq,List.length_cons,List.length_nil]
  constructor
  ·exact fun h=>h.2
  ·intro h
   refine⟨?_,h⟩
   have:=congrArg List.length h
   rw[List.length_take]at this
   simp at this
   omega
 rw[← e]
 exact prefix_any nm _ w
theorem Tryz.infoT:(Tryz.prog.info? 4).map (fun i=>(i.zero,i.size,i.bytes))=some (some (.bool false),1,1):=by kernel_rfl
theorem makeBools (n:Nat) (h1:n≤1099511627776):∃ C:Array Value,C.toList=S.bools (S.marks n [])∧∀ w:World,(Instr.makeSlice 107 (.int .i64 n) (.int .i64 n)).run Tryz.prog w=.ok (.slice (some ⟨w.heap.size,0,none⟩) n n) (w.alloc (.cells C 4)):=by
 obtain⟨i0,hi0,hz0,hz1,hz2⟩:=info_parts Tryz.infoT
 have hmk:=fun w=>run_make (P:=Tryz.prog) w 107 4 i0 _ Tryz.underlying107 hi0 hz0 .i64 .i64 (n:Int) (n:Int) (by omega) (Int.le_refl _) (by rw[hz2];omega) (by omega)
 simp only[hz1,Nat.mul_one,Int.toNat_natCast]at hmk
 refine⟨_,?_,hmk⟩
 rw[S.marks_rep]
 unfold S.bools
 rw[List.map_replicate]
 apply List.ext_getElem
 ·simp [madeCells]
 ·intro i h1 h2
  simp [madeCells,Value.cells]
  rw[Nat.mod_one]
  rfl
theorem StAt.new {B l n:Nat} {M:DM} {d:D.Dsk} {w w1:World} {tb g st:Nat} {bs:List Bool} {C:Array Value} {count:Nat} (h:LgAt B l M d count w) (hb:Below w.heap.size w w1) (h1:w.heap.size≤tb) (h2:w.heap.size≤g) (h3:w.heap.size≤st)
  (hm:w1.ownsMap Tryz.prog 9 S.intR tb 0 (.map [])) (hC:C.toList=S.bools bs) (hn:bs.length=n) (hn4:n≤4096) (hg:Blk w1 g C 4) (hs:Blk w1 st #[.pointer (some ⟨M.d,0,none⟩),.pointer (some ⟨l,0,none⟩),.map (some tb),.slice (some ⟨g,0,none⟩) n n] 109) :
  StAt B ⟨M,st,l,tb,some ⟨g,0,none⟩,n⟩ ⟨d,count,[],bs⟩ w1∧Went (lgFoot l M d) w ((⟨M,st,l,tb,some ⟨g,0,none⟩,n⟩:SM).foot ⟨d,count,[],bs⟩) w1:=by
 subst hn
 have hB:=h.disk.base
 have hsz:C.size=bs.length:=by have:=congrArg List.length hC;simpa [S.bools] using this
 refine⟨⟨h.below hb,hs,hm,⟨?_,?_⟩,.inl ⟨by simp [S.bools],.inr ⟨g,bs.length,C,rfl,by omega,hg,Nat.le_refl _,?_,by omega,?_⟩⟩,⟨by show B≤st;omega,by show B≤tb;omega⟩⟩,(Went.below hb (lgFoot l M d)).wide (fun _ h=>h) (fun k hk=>?_)⟩
 ·have:=h.disk.now.lt
  show tb≠M.mN
  omega
 ·have:=h.disk.safe.lt
  show tb≠M.mS
  omega
 ·simp only[maxLen];omega
 ·rw[Nat.mul_one,hC,List.take_of_length_le (by simp [S.bools])]
 ·rcases hk with hk | hk | hk | hk | hk
  ·exact .inl (.inl hk)
  ·exact .inl (.inr hk)
  ·exact .inr (.inr (by rw[hk];exact h3))
  ·exact .inr (.inr (by rw[hk];exact h1))
  ·refine .inr (.inr ?_)
   unfold ownB at hk
   split at hk
   ·cases hk
   ·cases hk;exact h2
def RetOpn (B:Nat) (M:DM) (d:D.Dsk) (n:Nat) (w:World) (e:Ending) (w':World):Prop :=
 (∃ code:Int,code≠0∧(d.down=false→(S.steps d S.firsts).2.2≠0)∧e=.returned (.tuple #[.pointer none,.int .i64 code])∧Went (M.foot d) w (fun _=>False) w') ∨
 (d.down=false∧(S.steps d S.firsts).2.2=0∧∃ X d3,(S.steps d S.firsts).1=d3∧e=.returned (.tuple #[.pointer (some ⟨X.st,0,none⟩),.int .i64 0])∧StAt B X ⟨d3,0,[],S.marks n []⟩ w'∧Went (M.foot d) w (X.foot ⟨d3,0,[],S.marks n []⟩) w'∧X.M.d=M.d)
theorem openBad_any (p:Value) (slots:Int) (w:World) (h:slots < 0∨4096 < slots):Calls Tryz.prog 25 #[p,.int .i64 slots] w (RetP w (.tuple #[.pointer none,.int .i64 131])):=by
 by_cases h0:slots < 0
 ·go_enter Tryz.func25,Tryz.ntmps25
  go_wp2
  go_ret2
  exact⟨rfl,rfl⟩
 ·have h1:slots > 4096:=by omega
  go_enter Tryz.func25,Tryz.ntmps25
  go_wp2
  go_ret2
  exact⟨rfl,rfl⟩
theorem openD_any (B:Nat) (M:DM) (d:D.Dsk) (m n:Nat) (w:World) (h:DkAt B M d w) (hf:D.Fit m d) (hm:m≤134000000) (hnew:S.has d.list S.newN=false) (hrd:d.read S.logN=([],if d.down=true then 93 else 90)) (hno:∀ nm∈(S.steps d S.firsts).1.list,S.isO nm=false∧nm.size≤4096) (hn:n≤4096) :
  Calls Tryz.prog 25 #[.pointer (some ⟨M.d,0,none⟩),.int .i64 n] w (RetOpn B M d n w):=by
 have HLO:=Lib.hid (logOpenD_any B M d m w h hf (by omega) hnew hrd)
 have hf3:=S.steps_fit S.firsts S.firsts_fit hf
 rw[show S.firsts.length=3 from rfl]at hf3
 have HF3:=Lib.hid hf3
 have HNO3:=Lib.hid hno
 obtain⟨C,hC,hmk⟩:=makeBools n (by omega)
 have hmm:=@run_makeMap Tryz.prog
 have g0:¬ (n:Int) < 0:=by omega
 have g1:¬ (n:Int) > 4096:=by omega
 clear h hf hnew hrd hno hf3
 go_enter Tryz.func25,Tryz.ntmps25
 go_wp2_with fail
 refine HLO.out.mono ?_
 rintro e w1 (⟨code,hc,hcs,rfl,hw1⟩ | ⟨hdn,d3,hd3,hs3,l,M1,rfl,hl1,hw1,hm1⟩)
 ·have HC:=Lib.hid hc
  have HW1:=Lib.hid hw1
  have HCS:=Lib.hid hcs
  have hcb:(code != 0)=true:=bne_iff_ne.2 hc
  clear hcs hw1 HLO hmk hmm
  go_wp2
  go_ret2
  exact .inl ⟨code,HC.out,HCS.out,rfl,HW1.out⟩
 rw[hd3]at HF3 HNO3
 have HF:=HF3
 have HNO:=HNO3
 have HDN:=Lib.hid hdn
 have HD3:=Lib.hid hd3
 have HSC:=Lib.hid hs3
 clear hdn hd3 hs3 HF3 HNO3
 have HL1:=Lib.hid hl1
 have HW1:=Lib.hid hw1
 have HM1:=Lib.hid hm1
 clear hl1 hw1 hm1 HLO
 go_upto_region 7 with fail
 obtain⟨W1,hW1⟩:∃ W1,w1.alloc (.map #[] 0)=W1:=⟨_,rfl⟩
 have hs1:W1.heap.size=w1.heap.size+1:=by rw[← hW1];exact World.size_alloc ..
 have hm0:W1.ownsMap Tryz.prog 9 S.intR w1.heap.size 0 (.map []):=by rw[← hW1];exact World.ownsMap_made w1 Tryz.prog 9 S.intR
 have hb1:Below w1.heap.size w1 W1:=by rw[← hW1];exact (Below.refl _ _).alloc (Nat.le_refl _) _
 rw[hW1]
 obtain⟨W2,hW2⟩:∃ W2,W1.alloc (.cells C 4)=W2:=⟨_,rfl⟩
 have hs2:W2.heap.size=w1.heap.size+1+1:=by rw[← hW2,← hs1];exact World.size_alloc ..
 have hg2:Blk W2 (w1.heap.size+1) C 4:=by rw[← hW2,← hs1];exact Blk.new W1 _ _
 have hb2:Below W1.heap.size W1 W2:=by rw[← hW2];exact (Below.refl _ _).alloc (Nat.le_refl _) _
 rw[hW2]
 obtain⟨W3,hW3⟩:∃ W3,W2.alloc (.cells #[.pointer (some ⟨M.d,0,none⟩),.pointer (some ⟨l,0,none⟩),.map (some w1.heap.size),.slice (some ⟨w1.heap.size+1,0,none⟩) n n] 109)=W3:=⟨_,rfl⟩
 have hk3:Blk W3 (w1.heap.size+1+1) #[.pointer (some ⟨M.d,0,none⟩),.pointer (some ⟨l,0,none⟩),.map (some w1.heap.size),.slice (some ⟨w1.heap.size+1,0,none⟩) n n] 109:=by rw[← hW3,← hs2];exact Blk.new W2 _ _
 have hb3:Below W2.heap.size W2 W3:=by rw[← hW3];exact (Below.refl _ _).alloc (Nat.le_refl _) _
 rw[hW3]
 have hb23:=below_then hb2.size hb2 hb3
 have hb13:=below_then hb1.size hb1 hb23
 have hmk3:W3.ownsMap Tryz.prog 9 S.intR w1.heap.size 0 (.map []):=hm0.kept (show W1.grownBy W3 none from⟨hb23.os,hb23.tape,hb23.output,hb23.size,fun k hk _=>hb23.block k hk⟩) (by simp)
 have hg3:Blk W3 (w1.heap.size+1) C 4:=hg2.below hb3
 obtain⟨hst,hwt⟩:=StAt.new HL1.out hb13 (tb:=w1.heap.size) (g:=w1.heap.size+1) (st:=w1.heap.size+1+1) (n:=n) (Nat.le_refl _) (by omega) (by omega) hmk3 hC (S.marks_len n []) hn hg3 (by rw[HM1.out];exact hk3)
 have HS3:=Lib.hid hst
 have HW3:=Lib.hid (HW1.out.trans hwt)
 clear hmk hst hwt hg3 hmk3 hb13 hb23 hb3 hk3 hb2 hg2 hs2 hb1 hm0 hs1 hW1 hW2 hW3 HL1 HW1 hC g0 g1
 obtain⟨X,hX⟩:∃ X:SM,X=⟨M1,w1.heap.size+1+1,l,w1.heap.size,some ⟨w1.heap.size+1,0,none⟩,n⟩:=⟨_,rfl⟩
 rw[← hX]at HS3 HW3
 have e1:w1.heap.size+1+1=X.st:=by rw[hX]
 have e2:l=X.lg:=by rw[hX]
 have e3:M1=X.M:=by rw[hX]
 rw[e1,e2]
 rw[e3]at HM1
 clear hX e1 e2 e3
 go_wp2_with fail
 go_loopw [46] (fun i wr=>i=.int .i64 0∧wr=W3) (fun _ _=>0)
 case atStart=>exact⟨rfl,rfl⟩
 case round =>
  obtain⟨rfl,rfl⟩:=hrel
  go_upto_region 15 with fail
  obtain⟨W4,hW4⟩:∃ W4,wr.alloc (.map #[] 0)=W4:=⟨_,rfl⟩
  have HU4:=Lib.hid (World.ownsMap_made wr Tryz.prog 9 (unitElem (H:=Unit)))
  have hb4:Below wr.heap.size wr W4:=by rw[← hW4];exact (Below.refl _ _).alloc (Nat.le_refl _) _
  rw[hW4]at HU4 ⊢
  have HS4:=Lib.hid (HS3.out.below hb4)
  have HW4:=Lib.hid (HW3.out.trans (Went.below hb4 _))
  have hkp:wr.heap.size < W4.heap.size:=by rw[← hW4,World.size_alloc];omega
  have HKP:=Lib.hid hkp
  clear hW4 hb4 HS3 HW3 hkp
  generalize wr.heap.size=kp at *
  have HID:=Lib.hid (ids_any B X _ W4 HS4.out List.Pairwise.nil (by show 0≤_;omega))
  have tl:=tab_len HS4.out.tab
  obtain⟨y0,y1,y2,y3⟩:=HS4.out.cells
  clear y0 y1 y3
  dsimp only[List.length_nil]at tl
  go_wp2_with fail
  clear tl y2
  refine HID.out.mono ?_
  rintro e w5 ⟨A5,c5,rfl,hr5,hb5⟩
  have HU5:=Lib.hid (HU4.out.kept (show W4.grownBy w5 none from⟨hb5.os,hb5.tape,hb5.output,hb5.size,fun k hk _=>hb5.block k hk⟩) (by simp))
  have HS5:=Lib.hid (HS4.out.below hb5)
  have HW5:=Lib.hid (HW4.out.trans (Went.below hb5 _))
  clear hr5 hb5 HU4 HS4 HW4 HID HKP
  dsimp only[S.Sto.ids,List.map_nil,List.length_nil]
  go_wp2_with fail
  go_loopw [77] (fun i wr=>i=.int .i64 0∧wr=w5) (fun _ _=>0)
  case atStart=>exact⟨rfl,rfl⟩
  case round =>
   obtain⟨rfl,rfl⟩:=hrel
   obtain⟨wo,rfl⟩:∃ wo:World,wo=wr:=⟨_,rfl⟩
   have HLI:=Lib.hid (dlist_any B X.M _ wo HS5.out.log.disk HF.out.ok (Nat.le_trans HF.out.now (by omega)))
   rw[HM1.out]at HLI
   have tl:=tab_len HS5.out.tab
   obtain⟨y0,y1,y2,y3⟩:=HS5.out.cells
   clear y0 y1 y3
   dsimp only[List.length_nil]at tl
   go_wp2_with fail
   clear tl y2
   refine HLI.out.mono ?_
   rintro e w6 ⟨A6,c6,rfl,hr6,hb6⟩
   have HU6:=Lib.hid (HU5.out.kept (show wo.grownBy w6 none from⟨hb6.os,hb6.tape,hb6.output,hb6.size,fun k hk _=>hb6.block k hk⟩) (by simp))
   have HS6:=Lib.hid (HS5.out.below hb6)
   have HW6:=Lib.hid (HW5.out.trans (Went.below hb6 _))
   have HR6:=Lib.hid hr6.rd
   clear hr6 hb6 HU5 HS5 HW5 HLI
   obtain⟨ns,hns⟩:∃ ns,d3.list=ns:=⟨_,rfl⟩
   rw[hns]at HR6 HNO ⊢
   have hnl:ns.length≤134000003:=by
    rw[← hns]
    have:=HF.out.now
    have h2:d3.list.length≤d3.now.length:=by unfold D.Dsk.list;split<;>simp
    omega
   clear hns
   go_wp2_with fail
   go_loopw [125] (fun i wr=>∃ k:Nat,k≤ns.length∧i=.int .i64 k∧Below w6.heap.size w6 wr) (fun i _=>ns.length - (intOf i).toNat)
   case atStart=>exact⟨0,Nat.zero_le _,rfl,Below.refl _ _⟩
   case round =>
    obtain⟨k,hk,rfl,hb7⟩:=hrel
    have HB7:=Lib.hid hb7
    obtain⟨wp,rfl⟩:∃ wp:World,wp=wr:=⟨_,rfl⟩
    by_cases hlt:k < ns.length
    ·obtain⟨b,o,rfl,hbl,y0⟩:=(HR6.out.below hb7).str hlt rfl
     obtain⟨hO,hsz⟩:=HNO.out (ns[k]'hlt) (List.getElem_mem hlt)
     have hlk:=unit_none (HU6.out.kept (show w6.grownBy wp none from⟨hb7.os,hb7.tape,hb7.output,hb7.size,fun k hk _=>hb7.block k hk⟩) (by simp)) (ns[k]'hlt) (by simp only[maxLen];omega)
     have HIO:=Lib.hid (fun u=>isO_any (ns[k]'hlt) u)
     rw[hO]at HIO
     clear hO hsz hb7
     generalize ns[k]'hlt=nm at *
     go_wp2_with fail
     refine (HIO.out _).mono ?_
     rintro e w8 ⟨rfl,rfl⟩
     have HB8:=Lib.hid (HB7.out.alloc HB7.out.size (.cells #[] 88):Below w6.heap.size w6 (wp.alloc (.cells #[] 88)))
     clear hlk HIO y0
     go_wp2
     go_roundw
     case rel=>exact⟨k+1,by omega,by go_num,HB8.out⟩
     case measure=>simp [intOf];omega
    ·have hke:k=ns.length:=by omega
     subst hke
     have HS8:=Lib.hid (HS6.out.below hb7)
     have HW8:=Lib.hid (HW6.out.trans (Went.below hb7 _))
     have HTI:=Lib.hid (tidy_any B X _ (m+3) wp HS8.out HF.out (by omega) List.Pairwise.nil (by show 0≤_;omega) (fun _ h=>by cases h) (by show 0≤_;omega))
     clear hb7 HB7 HS6 HW6 HU6 HR6 HNO
     go_wp2_with fail
     refine HTI.out.mono ?_
     rintro e w9 ⟨rfl,X9,hs9,hw9,hst9,hd9,hlg9⟩
     have htd:(⟨d3,0,[],S.marks n []⟩:S.Sto).tidy=⟨d3,0,[],S.marks n []⟩:=by
      unfold S.Sto.tidy
      rw[if_pos (by show 0≤_;omega)]
     rw[htd]at hs9 hw9
     have HS9:=Lib.hid hs9
     have HW9:=Lib.hid (HW8.out.trans hw9)
     have HD9:=Lib.hid (hd9.trans HM1.out)
     rw[← hst9]
     clear hs9 hw9 hd9 hlg9 hst9 HTI HS8 HW8 htd
     go_wp2
     go_ret2
     exact .inr ⟨HDN.out,HSC.out,X9,d3,HD3.out,rfl,HS9.out,HW9.out,HD9.out⟩
end Go.Proofs.YthjeglnkgdpijaaGreatDoor
namespace Go.Proofs.YthjeglnkgdpijaaGreatDoor
open Go Go.RowKit
def V.matches (E:O.Ent) (ask:List FD):Bool:=match V.names E.fs with
 | none=>false
 | some l=>decide (B (V.key l ask)=E.v)
structure V.Fits (fs ask:List FD):Prop where
 n:fs.length≤1099511627776
 f:FSmall fs
 t:(F.tokens fs V.vary).length≤1099511627776
 ny:ask.length≤1099511627776
 fa:FSmall ask
 l:∀ l,V.names fs=some l→l.length≤1099511627776∧(∀ x∈l,x.size≤1099511627776∧(V.elems ask x).length≤1099511627776)∧(V.key l ask).length≤70368744177664
theorem matches_any (p:EP) (Y:Option Addr) (cy:Nat) (ask:List FD) (w:World) (h:ERd w p) (hy:Rd w Y ask.length 2 (fcells ask)) (hs:V.Fits p.E.fs ask) :
  Calls Tryz.prog 15 #[p.v,.slice Y ask.length cy] w (RetB w (V.matches p.E ask)):=by
 obtain⟨w0,hw0⟩:∃ w0,w.alloc (.cells #[.string p.E.k,.string p.E.v,.int .i64 p.E.s,.string p.E.r,.int .i64 p.E.m,.slice p.A p.E.fs.length p.c,.slice p.X p.E.body.length p.d,.int .i64 p.E.asked,.int .i64 p.E.got] 41)=w0:=⟨_,rfl⟩
 have hb0:Below w.heap.size w w0:=by rw[← hw0];exact (Below.refl _ _).alloc (Nat.le_refl _) _
 have hk0:=Blk.new w #[.string p.E.k,.string p.E.v,.int .i64 p.E.s,.string p.E.r,.int .i64 p.E.m,.slice p.A p.E.fs.length p.c,.slice p.X p.E.body.length p.d,.int .i64 p.E.asked,.int .i64 p.E.got] 41
 rw[hw0]at hk0
 have HN:=Lib.hid (names_any p.A p.E.fs.length p.c p.E.fs w0 hs.n rfl hs.f hs.t (h.1.below hb0))
 obtain⟨x0,x1,x2,x3,x4,x5,x6,x7,x8⟩:=hk0.cells9
 have HB0:=Lib.hid hb0
 have HK0:=Lib.hid hk0
 have HY:=Lib.hid (hy.below hb0)
 have HS:=Lib.hid hs
 clear hb0 hk0 h hy hs
 unfold EP.v entV
 go_enter Tryz.func15,Tryz.ntmps15
 go_wp2_with fail
 clear x0 x1 x2 x3 x4 x5 x6 x7 x8 hw0
 refine HN.out.mono ?_
 rintro e w1 ⟨hb1,hm⟩
 have HB1:=Lib.hid (below_then HB0.out.size HB0.out hb1)
 have HK1:=Lib.hid (HK0.out.below hb1)
 have HY1:=Lib.hid (HY.out.below hb1)
 have HZ0:=Lib.hid hb1.size
 cases hv:V.names p.E.fs with
 | none =>
  rw[hv]at hm
  have hm2:e=_:=hm
  subst hm2
  have HV:Hid (V.matches p.E ask=false):=Lib.hid (by unfold V.matches;rw[hv])
  clear hm hv hb1 HN HB0 HK0 HY HS
  go_upto_region 2 with fail
  have hS0:Below w1.heap.size w1 w1.drew:=(Below.refl _ _).drew
  refine wp_region_noPanic ?_
  refine HT.begin (n:=8) (S:=(fun u=>Below w1.heap.size w1 u)) (by kernel_rfl) hS0 ?_
  generalize w1.drew=w2 at *
  refine HT.take 0 (.bool false) rfl (by kernel_rfl) (fun _ _ _ h=>h) (Or.inl ⟨by rfl,?_⟩) (?_:HT _ _ _ _ _ _ _ ⟨#[_,_,_,_,_,_,_,_,_,_,_,_,_,_,.bool false,_,_,_,_,_,_,_,_],[]⟩ _)
  ·intro u hu
   go_simp
  refine HT.take 1 (.bool false) rfl (by kernel_rfl) (fun _ _ _ h=>h) (Or.inl ⟨by rfl,?_⟩) (?_:HT _ _ _ _ _ _ _ ⟨#[_,_,_,_,_,_,_,_,_,_,_,_,_,_,.bool false,.bool false,_,_,_,_,_,_,_],[]⟩ _)
  ·intro u hu
   go_simp
  refine HT.take 2 undef rfl (by kernel_rfl) (fun _ _ _ h=>h) (Or.inr ⟨by rfl,rfl⟩) (?_:HT _ _ _ _ _ _ _ ⟨#[_,_,_,_,_,_,_,_,_,_,_,_,_,_,.bool false,.bool false,undef,_,_,_,_,_,_],[]⟩ _)
  refine HT.take 3 undef rfl (by kernel_rfl) (fun _ _ _ h=>h) (Or.inr ⟨by rfl,rfl⟩) (?_:HT _ _ _ _ _ _ _ ⟨#[_,_,_,_,_,_,_,_,_,_,_,_,_,_,.bool false,.bool false,undef,undef,_,_,_,_,_],[]⟩ _)
  refine HT.take 4 undef rfl (by kernel_rfl) (fun _ _ _ h=>h) (Or.inr ⟨by rfl,rfl⟩) (?_:HT _ _ _ _ _ _ _ ⟨#[_,_,_,_,_,_,_,_,_,_,_,_,_,_,.bool false,.bool false,undef,undef,undef,_,_,_,_],[]⟩ _)
  refine HT.take 5 undef rfl (by kernel_rfl) (fun _ _ _ h=>h) (Or.inr ⟨by rfl,rfl⟩) (?_:HT _ _ _ _ _ _ _ ⟨#[_,_,_,_,_,_,_,_,_,_,_,_,_,_,.bool false,.bool false,undef,undef,undef,undef,_,_,_],[]⟩ _)
  refine HT.take 6 undef rfl (by kernel_rfl) (fun _ _ _ h=>h) (Or.inr ⟨by rfl,rfl⟩) (?_:HT _ _ _ _ _ _ _ ⟨#[_,_,_,_,_,_,_,_,_,_,_,_,_,_,.bool false,.bool false,undef,undef,undef,undef,undef,_,_],[]⟩ _)
  refine HT.take 7 undef rfl (by kernel_rfl) (fun _ _ _ h=>h) (Or.inr ⟨by rfl,rfl⟩) (?_:HT _ _ _ _ _ _ _ ⟨#[_,_,_,_,_,_,_,_,_,_,_,_,_,_,.bool false,.bool false,undef,undef,undef,undef,undef,undef,_],[]⟩ _)
  refine HT.tail _ rfl rfl (by kernel_rfl) (fun hS=>?_)
  have HB2:=Lib.hid (below_then (Nat.le_trans HB1.out.size (Nat.le_refl _)) HB1.out hS)
  clear hS hS0
  go_wp2
  refine NoPanic.normal ?_
  go_wp2
  go_ret
  exact⟨ret_bool HV.out.symm,HB2.out⟩
 | some l =>
  rw[hv]at hm
  obtain⟨A,c,rfl,hr⟩:=hm
  obtain⟨hl1,hl2,hl3⟩:=HS.out.l l hv
  have HKY:=Lib.hid (fun u (hu:Below w1.heap.size w1 u)=>key_any A Y l.length c ask.length cy l ask u (hr.rd.below hu) (HY1.out.below hu) hl1 HS.out.ny rfl HS.out.fa (fun x hx=>(hl2 x hx).1) (fun x hx=>(hl2 x hx).2) hl3)
  obtain⟨kb,hkb⟩:∃ kb,B (V.key l ask)=kb:=⟨_,rfl⟩
  rw[hkb]at HKY
  obtain⟨bq,hbq⟩:∃ bq,decide (kb=p.E.v)=bq:=⟨_,rfl⟩
  have HV:Hid (V.matches p.E ask=bq):=Lib.hid (by unfold V.matches;rw[hv];show decide (B (V.key l ask)=p.E.v)=bq;rw[hkb,hbq])
  obtain⟨vb,hvb⟩:∃ vb,p.E.v=vb:=⟨_,rfl⟩
  have hcmp:(kb.toList==vb.toList)=bq:=by rw[← hbq,hvb,beq_bytes]
  rw[hvb]at HK1
  clear hv hb1 HN HB0 HK0 HY HS hr hl1 hl2 hl3 hkb hbq hvb
  go_upto_region 2 with fail
  have hS0:Below w1.heap.size w1 w1.drew:=(Below.refl _ _).drew
  refine wp_region_noPanic ?_
  refine HT.begin (n:=8) (S:=(fun u=>Below w1.heap.size w1 u)) (by kernel_rfl) hS0 ?_
  generalize w1.drew=w2 at *
  refine HT.take 0 (.bool true) rfl (by kernel_rfl) (fun _ _ _ h=>h) (Or.inl ⟨by rfl,?_⟩) (?_:HT _ _ _ _ _ _ _ ⟨#[_,_,_,_,_,_,_,_,_,_,_,_,_,_,.bool true,_,_,_,_,_,_,_,_],[]⟩ _)
  ·intro u hu
   go_simp
  refine HT.take 1 (.bool true) rfl (by kernel_rfl) (fun _ _ _ h=>h) (Or.inl ⟨by rfl,?_⟩) (?_:HT _ _ _ _ _ _ _ ⟨#[_,_,_,_,_,_,_,_,_,_,_,_,_,_,.bool true,.bool true,_,_,_,_,_,_,_],[]⟩ _)
  ·intro u hu
   go_simp
  refine HT.take 2 (.slice A l.length c) rfl (by kernel_rfl) (fun _ _ _ h=>h) (Or.inl ⟨by rfl,?_⟩) (?_:HT _ _ _ _ _ _ _ ⟨#[_,_,_,_,_,_,_,_,_,_,_,_,_,_,.bool true,.bool true,.slice A l.length c,_,_,_,_,_,_],[]⟩ _)
  ·intro u hu
   go_simp
  refine HT.take 3 (.slice Y ask.length cy) rfl (by kernel_rfl) (fun _ _ _ h=>h) (Or.inl ⟨by rfl,?_⟩) (?_:HT _ _ _ _ _ _ _ ⟨#[_,_,_,_,_,_,_,_,_,_,_,_,_,_,.bool true,.bool true,.slice A l.length c,.slice Y ask.length cy,_,_,_,_,_],[]⟩ _)
  ·intro u hu
   go_simp
  refine HT.take 5 (.pointer (some ⟨w.heap.size,1,none⟩)) rfl (by kernel_rfl) (fun _ _ _ h=>h) (Or.inl ⟨by rfl,?_⟩) (?_:HT _ _ _ _ _ _ _ ⟨#[_,_,_,_,_,_,_,_,_,_,_,_,_,_,.bool true,.bool true,.slice A l.length c,.slice Y ask.length cy,_,.pointer (some ⟨w.heap.size,1,none⟩),_,_,_],[]⟩ _)
  ·intro u hu
   go_simp
  refine HT.take 6 (.string vb) rfl (by kernel_rfl) (fun _ _ _ h=>h) (Or.inl ⟨by rfl,?_⟩) (?_:HT _ _ _ _ _ _ _ ⟨#[_,_,_,_,_,_,_,_,_,_,_,_,_,_,.bool true,.bool true,.slice A l.length c,.slice Y ask.length cy,_,.pointer (some ⟨w.heap.size,1,none⟩),.string vb,_,_],[]⟩ _)
  ·intro u hu
   have y1:=(HK1.out.below hu).cell 1 rfl
   go_simp
  refine HT.step 4 rfl (by kernel_rfl) (fun hS K hK=>?_)
  go_simp
  refine (HKY.out _ hS).mono ?_
  rintro e w3 ⟨rfl,hb3⟩
  refine hK.out _ _ (below_then hS.size hS hb3) ?_
  clear hK hS hb3
  refine HT.take 7 (.bool bq) rfl (by kernel_rfl) (fun _ _ _ h=>h) (Or.inl ⟨by rfl,?_⟩) (?_:HT _ _ _ _ _ _ _ ⟨#[_,_,_,_,_,_,_,_,_,_,_,_,_,_,.bool true,.bool true,.slice A l.length c,.slice Y ask.length cy,.string kb,.pointer (some ⟨w.heap.size,1,none⟩),.string vb,.bool bq,_],[]⟩ _)
  ·intro u hu
   go_simp
  refine HT.tail _ rfl rfl (by kernel_rfl) (fun hS=>?_)
  have HB2:=Lib.hid (below_then HB1.out.size HB1.out hS)
  clear hS hS0
  go_wp2
  refine NoPanic.normal ?_
  go_wp2
  go_ret
  exact⟨ret_bool HV.out.symm,HB2.out⟩
end Go.Proofs.YthjeglnkgdpijaaGreatDoor
