/- Maps to nothing in memory. Plain lemmas. A cache in memory: where it lies, what its steps leave. Plain lemmas. The walk of the Store laws' first script. Condition: the library's tables. The walk of the store's Drop. Conditions: what the disk's steps ask; at most 2^18 entries; an Id of at most 2^20 bytes. The walks of the Store laws' cut and of SameTexts at two lists that are alike. Condition: at most 2^40 steps or texts. -/
import Derived.Test.YthjeglnkgdpijaaGreatDoorZ29
import Derived.Test.YthjeglnkgdpijaaGreatDoorLruD
set_option maxHeartbeats 4000000
set_option maxRecDepth 100000
namespace Go.Proofs.YthjeglnkgdpijaaGreatDoor
open Go Go.RowKit Go.Maps
namespace D
def uent (p:ByteArray × Nat):Lit × DataW Unit:=(key p.1,.agg [])
def datU (l:NM):DataW Unit:=.map (l.map uent)
theorem insert_mapU (nm:ByteArray) (no:Nat):∀ l:NM,DataW.insert (uent (nm,no)) (l.map uent)=(ins l nm no).map uent
 | []=>rfl
 | p::r=>by
  have e:(uent (nm,no)).1.before (uent p).1=ltB nm p.1:=ltB_before _ _
  rw[List.map_cons]
  unfold DataW.insert ins
  rw[e]
  split
  ·rfl
  ·rw[List.map_cons,insert_mapU nm no r]
theorem datU_del (l:NM) (nm:ByteArray):(datU l).del (key nm)=datU (del l nm):=by
 unfold datU DataW.del D.del
 dsimp only
 congr 1
 rw[List.filter_map]
 congr 1
 apply List.filter_congr
 intro p _
 show (!((uent p).1.sameKey (key nm)))=_
 unfold uent
 dsimp only
 rw[same_key]
 simp
theorem datU_put (l:NM) (nm:ByteArray) (no:Nat):(datU l).put (key nm) (.agg [])=datU (put l nm no):=by
 have h:=datU_del l nm
 unfold datU DataW.del at h
 dsimp only at h
 have h2:(l.map uent).filter (fun p=>!p.1.sameKey (key nm))=(del l nm).map uent:=by injection h
 unfold datU DataW.put
 dsimp only
 rw[h2]
 exact congrArg DataW.map (insert_mapU nm no (del l nm))
theorem datU_has (l:NM) (nm:ByteArray):Maps.has (datU l) (key nm)=(find l nm).isSome:=by
 unfold datU
 rw[Maps.has_eq,Bool.eq_iff_iff,List.any_eq_true]
 constructor
 ·rintro⟨p,hp,hk⟩
  obtain⟨q,hq,rfl⟩:=List.mem_map.1 hp
  have:q.1=nm:=by
   have:(key q.1).sameKey (key nm)=true:=hk
   rw[same_key]at this
   exact of_decide_eq_true this
  cases hf:find l nm with
  | some _=>rfl
  | none=>exact absurd this (find_none hf q hq)
 ·intro h
  obtain⟨no,hno⟩:=Option.isSome_iff_exists.1 h
  exact⟨_,List.mem_map_of_mem (find_mem hno),by show (key nm).sameKey (key nm)=true;rw[same_key];simp⟩
end D
abbrev unitE:=unitElem (H:=Unit)
theorem unit_ok {b n:Nat} {w:World} {l:D.NM} (h:w.ownsMap Tryz.prog 9 unitE b n (D.datU l)) (nm:ByteArray) (hs:nm.size≤maxLen) :
  (Instr.lookup 74 (.map (some b)) (.string nm) true).run Tryz.prog w=.ok (.tuple #[.agg #[],.bool (D.find l nm).isSome]) w:=by
 obtain⟨v,ps,hr,hv⟩:=h.look_ok (string_keyed strT_ul) unT_ul (zeroUnit w) (zd:=.agg []) (zp:=[]) unitElem_mk (nmKey nm hs)
 obtain⟨rfl,_⟩:=unitElem_inv hv
 rw[D.datU_has]at hr
 exact hr
theorem unit_tight {b n:Nat} {w:World} {l:D.NM} (h:w.ownsMap Tryz.prog 9 unitE b n (D.datU l)):w.ownsMap Tryz.prog 9 unitE b l.length (D.datU l):=by
 obtain⟨es,cl,hb,F,hs,hD⟩:=h
 refine⟨es,cl,hb,F,?_,hD⟩
 have h1:=congrArg Maps.size hD
 unfold D.datU at h1
 rw[Maps.size_eq,Maps.size_eq,length_sorted]at h1
 simp at h1
 omega
section
variable {F F':Nat→Prop} {w w':World} {B k:Nat} {X:SM} {s:S.Sto} {T:TypeId}
theorem ChgV.went {fa:Nat→Nat} {c:D.Chg} {v:Value} (h:ChgV w B fa c v) (hw:Went F w F' w') (hF:∀ k,F k→∀ t,Tag w k t→t≠98∧t≠9):ChgV w' B fa c v:=by
 have hb:∀ {b:Nat} {cs:Array Value} {t:TypeId},(t=98∨t=9)→Blk w b cs t→Blk w' b cs t:=fun ht hb=>hw.blk hb (fun e=>by
  have:=hF _ e _ hb.tag
  rcases ht with rfl | rfl
  ·exact this.1 rfl
  ·exact this.2 rfl)
 cases c with
 | put nm no =>
  obtain⟨bf,bn,h1,h2,h3,h4,h5⟩:=h
  exact⟨bf,bn,h1,h2,h3,hb (.inl rfl) h4,hb (.inr rfl) h5⟩
 | del nm =>
  obtain⟨bn,h1,h2,h3⟩:=h
  exact⟨bn,h1,h2,hb (.inr rfl) h3⟩
 | ren a b no =>
  obtain⟨ba,bf,bb,h1,h2,h3,h4,h5,h6,h7⟩:=h
  exact⟨ba,bf,bb,h1,h2,h3,h4,hb (.inr rfl) h5,hb (.inl rfl) h6,hb (.inr rfl) h7⟩
def Mine (w:World) (k:Nat):Prop:=Tag w k Lr.tT∨Tag w k Lr.nT∨MapB w k
theorem Mine.tag (h:Mine w k) (ht:Tag w k T):T=Lr.tT∨T=Lr.nT:=by
 rcases h with h | h | h
 ·by_cases e:T=Lr.tT
  ·exact .inl e
  ·exact absurd rfl (ht.ne h e)
 ·by_cases e:T=Lr.nT
  ·exact .inr e
  ·exact absurd rfl (ht.ne h e)
 ·exact absurd rfl (ht.map h)
def Offs (w:World) (k:Nat):Prop:=∀ T,Tag w k T→T≠98∧T≠9∧T≠3
theorem Mine.offs (h:Mine w k):Offs w k:=fun T ht=>by
 rcases h.tag ht with rfl | rfl
 ·exact⟨by decide,by decide,by decide⟩
 ·exact⟨by decide,by decide,by decide⟩
theorem offs_of {U:TypeId} (h:Tag w k U) (h1:U≠98∧U≠9∧U≠3):Offs w k:=fun _ ht =>
 ⟨fun e=>ht.ne h (fun e2=>h1.1 (e2.symm.trans e)) rfl,fun e=>ht.ne h (fun e2=>h1.2.1 (e2.symm.trans e)) rfl,fun e=>ht.ne h (fun e2=>h1.2.2 (e2.symm.trans e)) rfl⟩
theorem StAt.away (h:StAt B X s w) (hw:Went F w F' w') (hF:∀ k,F k→Offs w k∧¬ X.foot s k):StAt B X s w':=by
 have hn:∀ {k},X.foot s k→¬ F k:=fun hk hf=>(hF _ hf).2 hk
 obtain⟨⟨⟨a1,a2,a3,a4,a5,a6,a7,a8,a9,a10⟩,b2,b3⟩,c2,c3,c4,c5,c6⟩:=h
 refine⟨⟨⟨hw.blk a1 (hn (.inl (.inl rfl))),hw.map a2 (hn (.inl (.inr (.inl rfl)))),hw.map a3 (hn (.inl (.inr (.inr (.inl rfl))))),a4,hw.row a5 (fun k hk=>hn (.inl (.inr (.inr (.inr (.inl hk)))))),
  a6.imp (fun c v hc=>hc.went hw (fun k hf t h1=>⟨((hF k hf).1 t h1).1,((hF k hf).1 t h1).2.1⟩)),hw.row a7 (fun k hk hf=>((hF k hf).1 _ (a7.tag hk)).2.2 rfl),
  fun no hno=>⟨hw.blk (a8 no hno).blk (hn (.inl (.inr (.inr (.inr (.inr ⟨no,hno,.inl rfl⟩)))))),hw.row (a8 no hno).row (fun k hk=>hn (.inl (.inr (.inr (.inr (.inr ⟨no,hno,.inr hk⟩)))))),(a8 no hno).ge⟩,a9,a10⟩,hw.blk b2 (hn (.inr (.inl rfl))),b3⟩,
  hw.blk c2 (hn (.inr (.inr (.inl rfl)))),hw.map c3 (hn (.inr (.inr (.inr (.inl rfl))))),c4,hw.row c5 (fun k hk=>hn (.inr (.inr (.inr (.inr hk))))),c6⟩
theorem StAt.off (h:StAt B X s w) (ht:Tag w k T) (h1:T≠95∧T≠200∧T≠100∧T≠5) (h2:T≠154∧T≠109∧T≠4):¬ X.foot s k:=by
 rintro (hf | rfl | rfl | rfl | hf)
 ·exact h.log.disk.off ht h1.1 h1.2.1 h1.2.2.1 h1.2.2.2 hf
 ·exact ht.ne h.log.blk.tag h2.1 rfl
 ·exact ht.ne h.blk.tag h2.2.1 rfl
 ·exact ht.map (ownsMap_tag h.tab) rfl
 ·exact ht.ne (h.used.tag hf) h2.2.2 rfl
end
structure CM where
 c:Nat
 t:Nat
 m:Nat
 hm:Nat
 X:SM
structure CSt where
 s:Option S.Sto
 l:List It
 hd:D.NM
def CM.foot (Z:CM) (a:CSt) (k:Nat):Prop:=LrF Z.t Z.m a.l k∨k=Z.hm∨∃ s,a.s=some s∧Z.X.foot s k
structure CAt (B room:Nat) (Z:CM) (a:CSt) (w:World):Prop where
 blk:Blk w Z.c #[.pointer (a.s.map fun _=>⟨Z.X.st,0,none⟩),.pointer (some ⟨Z.t,0,none⟩),.map (some Z.hm)] 76
 sto:∀ s,a.s=some s→StAt B Z.X s w
 mem:LrAt B Z.t Z.m room a.l w
 hid:w.ownsMap Tryz.prog 9 unitE Z.hm a.hd.length (D.datU a.hd)
 up:D.Up a.hd
 nem:Z.hm≠Z.m
 ne:∀ s,a.s=some s→¬ Z.X.foot s Z.hm∧¬ Z.X.foot s Z.m
 sep:∀ s,a.s=some s→∀ x∈a.l,∀ k,ownB x.p.A x.p.c=some k∨ownB x.p.X x.p.d=some k→¬ Z.X.foot s k
 ge:B≤Z.c∧B≤Z.hm
section
variable {B room:Nat} {Z:CM} {a:CSt} {w w':World} {X':SM} {s s':S.Sto} {l':List It} {hd':D.NM} {k:Nat} {F F':Nat→Prop}
theorem CAt.cells (h:CAt B room Z a w):w.cell? ⟨Z.c,0,none⟩=some (.pointer (a.s.map fun _=>⟨Z.X.st,0,none⟩))∧w.cell? ⟨Z.c,1,none⟩=some (.pointer (some ⟨Z.t,0,none⟩))∧w.cell? ⟨Z.c,2,none⟩=some (.map (some Z.hm)) :=
 ⟨h.blk.cell 0 rfl,h.blk.cell 1 rfl,h.blk.cell 2 rfl⟩
theorem CAt.below (h:CAt B room Z a w) (hb:Below w.heap.size w w'):CAt B room Z a w' :=
 ⟨h.blk.below hb,fun s hs=>(h.sto s hs).below hb,h.mem.below hb,h.hid.kept (show w.grownBy w' none from⟨hb.os,hb.tape,hb.output,hb.size,fun k hk _=>hb.block k hk⟩) (by simp),h.up,h.nem,h.ne,h.sep,h.ge⟩
theorem CAt.rows (h:CAt B room Z a w) {x:It} (hx:x∈a.l) (hk:ownB x.p.A x.p.c=some k∨ownB x.p.X x.p.d=some k):k < w.heap.size:=by
 rcases hk with hk | hk
 ·exact ((h.mem.own x hx).1.lt k hk).2
 ·exact ((h.mem.own x hx).2.lt k hk).2
theorem CAt.lruOff (h:CAt B room Z a w) (hs:a.s=some s) (hk:LrF Z.t Z.m a.l k):Mine w k∧¬ Z.X.foot s k:=by
 refine⟨h.mem.tag hk,?_⟩
 rcases hk with rfl | rfl | ⟨x,hx,rfl⟩
 ·exact (h.sto s hs).off h.mem.ring.tb.tag (by decide) (by decide)
 ·exact (h.ne s hs).2
 ·exact (h.sto s hs).off (h.mem.ring.nd x hx).tag (by decide) (by decide)
theorem CAt.hmLr (h:CAt B room Z a w):¬ LrF Z.t Z.m a.l Z.hm:=by
 rintro (e | e | ⟨x,hx,e⟩)
 ·exact h.mem.ring.tb.tag.map (ownsMap_tag h.hid) e.symm
 ·exact h.nem e
 ·exact (h.mem.ring.nd x hx).tag.map (ownsMap_tag h.hid) e
theorem CAt.stored (h:CAt B room Z a w) (hs:a.s=some s) (h':StAt B X' s' w') (hw:Went (Z.X.foot s) w (X'.foot s') w') (hst:X'.st=Z.X.st) :
  CAt B room { Z with X:=X' } { a with s:=some s' } w'∧Went (Z.foot a) w (CM.foot { Z with X:=X' } { a with s:=some s' }) w':=by
 have hS:=h.sto s hs
 have hnew:∀ {k},k < w.heap.size→¬ Z.X.foot s k→¬ X'.foot s' k:=fun hk hn hf=>by
  rcases hw.foot _ hf with h1 | h1
  ·exact hn h1
  ·omega
 refine⟨⟨?_,fun x hx=>by cases hx;exact h',h.mem.went hw (fun k hk=>(h.lruOff hs hk).2) (fun x hx k hk=>h.sep s hs x hx k hk),hw.map h.hid (h.ne s hs).1,h.up,h.nem,fun x hx=>?_,fun x hx y hy k hk=>?_,h.ge⟩,hw.wide (fun k hk=>.inr (.inr ⟨s,hs,hk⟩)) (fun k hk=>?_)⟩
 ·have:=hw.blk h.blk (hS.off h.blk.tag (by decide) (by decide))
  rw[hs]at this
  show Blk w' Z.c #[.pointer (some ⟨X'.st,0,none⟩),_,_] _
  rw[hst]
  exact this
 ·cases hx
  exact⟨hnew h.hid.lt (h.ne s hs).1,hnew (h.mem.lt (.inr (.inl rfl))) (h.ne s hs).2⟩
 ·cases hx
  exact hnew (h.rows hy hk) (h.sep s hs y hy k hk)
 ·rcases hk with hk | hk | ⟨x,hx,hk⟩
  ·exact .inr (.inl (.inl hk))
  ·exact .inr (.inl (.inr (.inl hk)))
  ·cases hx
   exact .inl hk
theorem CAt.turned (h:CAt B room Z a w) (h':LrAt B Z.t Z.m room l' w') (hw:Went (LrF Z.t Z.m a.l) w (LrF Z.t Z.m l') w') (hnew:∀ x∈l',x∈a.l∨∀ s,a.s=some s→∀ k,ownB x.p.A x.p.c=some k∨ownB x.p.X x.p.d=some k→¬ Z.X.foot s k) :
  CAt B room Z { a with l:=l' } w'∧Went (Z.foot a) w (Z.foot { a with l:=l' }) w':=by
 refine⟨⟨hw.blk h.blk (h.mem.off h.blk.tag (by decide) (by decide)),fun s hs=>(h.sto s hs).away hw (fun k hk=>⟨(h.lruOff hs hk).1.offs,(h.lruOff hs hk).2⟩),h',hw.map h.hid h.hmLr,h.up,h.nem,h.ne,fun s hs x hx k hk=>?_,h.ge⟩,hw.wide (fun k hk=>.inl hk) (fun k hk=>?_)⟩
 ·rcases hnew x hx with h1 | h1
  ·exact h.sep s hs x h1 k hk
  ·exact h1 s hs k hk
 ·rcases hk with hk | hk | hk
  ·exact .inl hk
  ·exact .inr (.inl (.inr (.inl hk)))
  ·exact .inr (.inl (.inr (.inr hk)))
theorem CAt.hides (h:CAt B room Z a w) (h':w'.ownsMap Tryz.prog 9 unitE Z.hm hd'.length (D.datU hd')) (hu:D.Up hd') (hg:w.grownBy w' (some Z.hm)) :
  CAt B room Z { a with hd:=hd' } w'∧Went (Z.foot a) w (Z.foot { a with hd:=hd' }) w':=by
 have hw:Went (fun k=>k=Z.hm) w (fun k=>k=Z.hm) w':=Went.grown hg (fun k e=>(by simpa using e.symm)) (fun k hk=>.inl hk)
 have hM:=ownsMap_tag h.hid
 refine⟨⟨hw.blk h.blk (h.blk.tag.map hM),fun s hs=>(h.sto s hs).away hw (fun k hk=>by subst hk;exact⟨Mine.offs (.inr (.inr hM)),(h.ne s hs).1⟩),h.mem.went hw (fun k hk e=>h.hmLr (e ▸ hk)) (fun x hx k hk e=>?_),h',hu,h.nem,h.ne,h.sep,h.ge⟩,hw.wide (fun k hk=>.inr (.inl hk)) (fun k hk=>.inr (.inl hk))⟩
 rcases hk with hk | hk
 ·exact ((h.mem.own x hx).1.tag hk).map hM e
 ·exact ((h.mem.own x hx).2.tag hk).map hM e
theorem CAt.beside (h:CAt B room Z a w) (hw:Went F w F' w') (hF:∀ k,F k→Offs w k∧¬ Z.foot a k∧k≠Z.c∧∀ x∈a.l,∀ j,ownB x.p.A x.p.c=some j∨ownB x.p.X x.p.d=some j→j≠k):CAt B room Z a w' :=
 ⟨hw.blk h.blk (fun hf=>(hF _ hf).2.2.1 rfl),fun s hs=>(h.sto s hs).away hw (fun k hk=>⟨(hF k hk).1,fun hf=>(hF k hk).2.1 (.inr (.inr ⟨s,hs,hf⟩))⟩),h.mem.went hw (fun k hk hf=>(hF k hf).2.1 (.inl hk)) (fun x hx k hk hf=>(hF k hf).2.2.2 x hx k hk rfl),
  hw.map h.hid (fun hf=>(hF _ hf).2.1 (.inr (.inl rfl))),h.up,h.nem,h.ne,h.sep,h.ge⟩
end
section
variable {B k:Nat} {M:DM} {d:D.Dsk} {X:SM} {s:S.Sto} {w w':World} {F F':Nat→Prop}
theorem DkAt.under (h:DkAt B M d w) (hf:M.foot d k):B≤k:=by
 rcases hf with rfl | rfl | rfl | hf | ⟨no,hn,rfl | hf⟩
 ·exact h.ge.1
 ·exact h.ge.2.1
 ·exact h.ge.2.2
 ·exact (h.pend.lt k hf).1
 ·exact (h.files no hn).ge
 ·exact ((h.files no hn).row.lt k hf).1
theorem StAt.under (h:StAt B X s w) (hf:X.foot s k):B≤k:=by
 rcases hf with hf | rfl | rfl | rfl | hf
 ·exact h.log.disk.under hf
 ·exact h.log.ge
 ·exact h.ge.1
 ·exact h.ge.2
 ·exact (h.used.lt k hf).1
theorem Went.under (h:Went F w F' w') (hF:∀ k,F k→B≤k) (hB:B≤w.heap.size):Below B w w' :=
 ⟨h.os,h.tape,h.output,h.size,fun k hk=>h.block k (Nat.lt_of_lt_of_le hk hB) (fun hf=>by have:=hF k hf;omega)⟩
end
theorem tab_deleted {b:Nat} {t:D.NM} {n:Nat} {w:World} {nm:ByteArray} (h:w.ownsMap Tryz.prog 9 S.intR b n ((S.datT t).del (D.key nm))):w.ownsMap Tryz.prog 9 S.intR b (D.del t nm).length (S.datT (D.del t nm)):=by
 unfold S.datT at h
 rw[D.datum_del]at h
 exact tab_tight h
theorem sdrop_any (B:Nat) (X:SM) (s:S.Sto) (id:ByteArray) (m:Nat) (w:World) (h:StAt B X s w) (hf:D.Fit m s.d) (hm:m≤134000000) (hu:D.Up s.tab) (hl:s.tab.length≤262144) (hz:∀ p∈s.tab,p.1.size≤1048576) (hc:s.count≤549755813888)
  (hlen:s.used.length≤4096) (htab:∀ p∈s.tab,p.2 < s.used.length) (hi:id.size≤1048576) :
  Calls Tryz.prog 31 #[.pointer (some ⟨X.st,0,none⟩),.string id] w (RetSto B X s w (s.drop id).1 (.int .i64 (s.drop id).2)):=by
 have HD:=Lib.hid h
 have HF:=Lib.hid hf
 have hlk:=tab_ok h.tab id (by simp only[maxLen];omega)
 obtain⟨y0,y1,y2,y3⟩:=h.cells
 cases hfd:D.find s.tab id with
 | none =>
  have hG:s.drop id=(s,90):=by unfold S.Sto.drop;rw[hfd]
  rw[hG]
  rw[hfd]at hlk
  clear h hf hu hz htab y0 y1 y3
  go_enter Tryz.func31,Tryz.ntmps31
  go_wp2
  go_ret
  exact⟨rfl,X,HD.out,Went.refl _ _,rfl,rfl,rfl⟩
 | some no =>
 have hmem:(id,no)∈s.tab:=D.find_mem hfd
 have hno:no < s.used.length:=htab _ hmem
 rw[hfd]at hlk
 obtain⟨Y,hY⟩:∃ Y,S.add s.d s.count 2 no id=Y:=⟨_,rfl⟩
 obtain⟨G,hG⟩:∃ G,s.drop id=G:=⟨_,rfl⟩
 have HG:Hid (G=if Y.2.1=s.count then (({ s with d:=Y.1 }:S.Sto),Y.2.2) else ((({ s with d:=Y.1,count:=Y.2.1,tab:=D.del s.tab id }:S.Sto).free no).tidy,Y.2.2)):=Lib.hid (by
  rw[← hG,← hY]
  unfold S.Sto.drop
  rw[hfd])
 rw[hG]
 have HCN:=Lib.hid (count_any B X.lg X.M s.d s.count w h.log)
 have HAD:=Lib.hid (add_any B X.lg X.M s.d s.count m 2 no id w h.log hf (by omega) (by omega) (by omega))
 have hF5:D.Fit (m+2) Y.1:=by rw[← hY];exact S.add_fit hf _ _ _ _
 have hcnt:Y.2.1=s.count∨Y.2.1=s.count+1:=by
  rw[← hY]
  unfold S.add
  split
  ·exact .inl rfl
  ·split
   ·exact .inl rfl
   ·exact .inr rfl
 rw[hY]at HAD
 have HF5:=Lib.hid hF5
 have HU:=Lib.hid (D.up_del (nm:=id) hu)
 have HZ:=Lib.hid (fun p (hp:p∈D.del s.tab id)=>hz p (D.mem_del.1 hp).1)
 have hdl:(D.del s.tab id).length≤s.tab.length:=List.length_filter_le _ _
 clear h hf hu hz htab hmem hfd hG hY hF5 y0 y3
 simp only[Option.getD_some,Option.isSome_some]at hlk
 go_enter Tryz.func31,Tryz.ntmps31
 go_wp2_with fail
 clear hlk y2
 refine HCN.out.mono ?_
 rintro e w1 ⟨rfl,rfl⟩
 clear HCN
 go_wp2_with fail
 clear y1
 refine HAD.out.mono ?_
 rintro e w5 ⟨rfl,M5,h5,hw5,hm5⟩
 obtain⟨d5,n5,e5⟩:=Y
 dsimp only at h5 hw5 HG hcnt HF5 ⊢
 obtain⟨h6,hw6⟩:=HD.out.logged h5 hw5 hm5
 have HD6:=Lib.hid h6
 have HW6:=Lib.hid hw6
 have HM6:=Lib.hid hm5
 have HCN:=Lib.hid (count_any B X.lg M5 d5 n5 w5 h5)
 obtain⟨y0,y1,y2,y3⟩:=h6.cells
 dsimp only at y1 y2
 clear h5 hw5 hm5 h6 hw6 HAD y0 y3
 go_wp2_with fail
 refine HCN.out.mono ?_
 rintro e w6 ⟨rfl,rfl⟩
 clear HCN y1
 by_cases hn5:n5=s.count
 ·rw[if_pos hn5]at HG
  have hnb:((n5:Int)==(s.count:Int))=true:=by rw[hn5];exact beq_self_eq_true _
  have HS5:Hid (({ s with d:=d5,count:=n5 }:S.Sto)={ s with d:=d5 }):=Lib.hid (by rw[hn5])
  rw[HS5.out]at HD6 HW6
  go_wp2
  go_ret
  exact⟨by rw[HG.out]<;>rfl,{ X with M:=M5 },by rw[HG.out];exact HD6.out,by rw[HG.out];exact HW6.out,rfl,HM6.out,rfl⟩
 ·rw[if_neg hn5]at HG
  have hnb:((n5:Int)==(s.count:Int))=false:=beq_eq_false_iff_ne.2 (by omega)
  have hn51:n5=s.count+1:=by omega
  obtain⟨s5,hs5⟩:∃ s5:S.Sto,s5={ s with d:=d5,count:=n5 }:=⟨_,rfl⟩
  have h5t:s5.tab=s.tab:=by rw[hs5]
  have HT5:=Lib.hid (show ({ s with d:=d5,count:=n5,tab:=D.del s.tab id }:S.Sto)={ s5 with tab:=D.del s.tab id } by rw[hs5])
  have h5u:s5.used.length=s.used.length:=by rw[hs5]
  have h5c:s5.count=n5:=by rw[hs5]
  have HF5d:Hid (D.Fit (m+2) s5.d):=Lib.hid (by rw[hs5];exact HF5.out)
  rw[← hs5]at HD6 HW6
  rw[HT5.out]at HG
  clear hs5 HF5 HT5
  go_wp2_with (at_delete;refine wpList_delete_own _ rfl _ _ 106 9 rfl 3 (string_keyed strT_ul) tbT_ul S.intR X.tb s5.tab.length (S.datT s5.tab) rfl HD6.out.tab (.string id) (D.key id) rfl (nmKey id (by simp only[maxLen];omega)) ?_;intro w7 hown7 hturn7;have HOW7:=Lib.hid (tab_deleted hown7);have HGR7:=Lib.hid hturn7.grown;clear hown7 hturn7)
  clear y2
  have HT7:Hid (D.del s5.tab id=D.del s.tab id):=Lib.hid (by rw[h5t])
  rw[HT7.out]at HOW7
  obtain⟨h7,hw7⟩:=HD6.out.tabbed HOW7.out HGR7.out
  have HW7:=Lib.hid (HW6.out.trans hw7)
  have HFR:=Lib.hid (free_any B { X with M:=M5 } { s5 with tab:=D.del s.tab id } no (m+2) w7 h7 HF5d.out (by omega) (by show no < s5.used.length;omega) (by omega))
  have HF8:Hid (D.Fit (m+3) (({ s5 with tab:=D.del s.tab id }:S.Sto).free no).d):=Lib.hid (S.free_fit (s:={ s5 with tab:=D.del s.tab id }) HF5d.out no)
  obtain⟨s8,hs8⟩:∃ s8,(({ s5 with tab:=D.del s.tab id }:S.Sto).free no)=s8:=⟨_,rfl⟩
  have h8t:s8.tab=D.del s.tab id:=by rw[← hs8];rfl
  have h8c:s8.count=n5:=by rw[← hs8];exact h5c
  rw[hs8]at HFR HF8 HG
  clear hs8 h7 hw7 HOW7 HGR7 HD6 HW6 HF5d HT7
  go_wp2_with fail
  refine HFR.out.mono ?_
  rintro e w8 ⟨rfl,X8,hs8,hw8,hst8,hd8,hlg8⟩
  have HTI:=Lib.hid (tidy_any B X8 s8 (m+3) w8 hs8 HF8.out (by omega) (by rw[h8t];exact HU.out) (by rw[h8t];omega) (by rw[h8t];exact HZ.out) (by omega))
  have HW8:=Lib.hid (HW7.out.trans hw8)
  have HX8:Hid (X8.st=X.st∧X8.M.d=X.M.d∧X8.lg=X.lg):=Lib.hid ⟨hst8,hd8.trans HM6.out,hlg8⟩
  dsimp only at hst8
  rw[hst8]at HTI
  clear hs8 hw8 hst8 hd8 hlg8 HFR HW7
  go_wp2_with fail
  refine HTI.out.mono ?_
  rintro e w9 ⟨rfl,X9,hs9,hw9,hst9,hd9,hlg9⟩
  have HS9:=Lib.hid hs9
  have HW9:=Lib.hid (HW8.out.trans hw9)
  have HX9:Hid (X9.st=X.st∧X9.M.d=X.M.d∧X9.lg=X.lg):=Lib.hid ⟨hst9.trans HX8.out.1,hd9.trans HX8.out.2.1,hlg9.trans HX8.out.2.2⟩
  clear hs9 hw9 hst9 hd9 hlg9 HTI HW8
  go_wp2
  go_ret
  exact⟨by rw[HG.out]<;>rfl,X9,by rw[HG.out];exact HS9.out,by rw[HG.out];exact HW9.out,HX9.out.1,HX9.out.2.1,HX9.out.2.2⟩
theorem sameTexts_any (A A2:Option Addr) (n c c2:Nat) (l:List ByteArray) (w:World) (hl:l.length=n) (hn:n≤1099511627776) (hx:Rd w A n 1 (scells l)) (hy:Rd w A2 n 1 (scells l)):Calls Tryz.prog 17 #[.slice A n c,.slice A2 n c2] w (RetB w true):=by
 subst hl
 have HX:=Lib.hid hx
 have HY:=Lib.hid hy
 clear hx hy
 go_enter Tryz.func17,Tryz.ntmps17
 go_wp2_with fail
 go_loopw [5] (fun i wr=>∃ k:Nat,k≤l.length∧i=.int .i64 k∧Below w.heap.size w wr) (fun i _=>l.length - (intOf i).toNat)
 case atStart=>exact⟨0,Nat.zero_le _,rfl,Below.refl _ _⟩
 case round =>
  obtain⟨k,hk,rfl,hb⟩:=hrel
  have HB:=Lib.hid hb
  obtain⟨wo,rfl⟩:∃ wo:World,wo=wr:=⟨_,rfl⟩
  by_cases hlt:k < l.length
  ·obtain⟨b,o,rfl,hb1,y0⟩:=(HX.out.below hb).str hlt rfl
   obtain⟨b2,o2,rfl,hb2,y1⟩:=(HY.out.below hb).str hlt rfl
   generalize l[k]'hlt=nm at *
   have hne:(nm.data.toList != nm.data.toList)=false:=by simp
   clear hb
   go_upto_region 6 with fail
   go_region
   go_wp2
   go_roundw
   case rel=>exact⟨k+1,by omega,by go_num,HB.out.drew⟩
   case measure=>simp [intOf];omega
  ·have hke:k=l.length:=by omega
   subst hke
   go_wp2
   go_ret
   exact⟨rfl,HB.out⟩
end Go.Proofs.YthjeglnkgdpijaaGreatDoor
