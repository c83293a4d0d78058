/- The walk of the store's sound; maps to nothing in memory. Conditions: what the disk's steps ask; at most 4096 numbers. The log and an entry's file on a disk that may lose its power: done as without faults, or stopped in between, and what is left then. No program here. -/
import Derived.Test.YtkempjcphpnocaaGreatDoorZ22
namespace Go.Proofs.YtkempjcphpnocaaGreatDoor
open Go Go.RowKit Go.Maps
set_option maxRecDepth 100000 in
set_option maxHeartbeats 4000000 in
theorem ssound_any (B:Nat) (X:SM) (s:S.Sto) (id:ByteArray) (no m:Nat) (w:World) (h:StAt B X s w) (hf:D.Fit m s.d) (hm:m≤268435456) (hu:s.used.length≤4096) (ht:Tabs w) :
  Calls Tryz.prog 31 #[.pointer (some ⟨X.st,0,none⟩),.string id,.int .i64 no] w (RetB w (S.sound s.d s.used.length (id,no))):=by
 obtain⟨y0,y1,y2,y3⟩:=h.cells
 by_cases hlt:no < s.used.length
 rotate_left
 ·have hG:S.sound s.d s.used.length (id,no)=false:=by unfold S.sound;rw[decide_eq_false hlt];rfl
  have hi:(no:Int)≥s.used.length:=by omega
  rw[hG]
  clear h hf hG
  go_enter Tryz.func31,Tryz.ntmps31
  go_wp2
  go_ret
  exact⟨rfl,Below.refl _ _⟩
 have HRD:=Lib.hid (sread_any B X s no m w h hf hm (by omega) ht)
 have hS:S.sound s.d s.used.length (id,no)=match S.read s.d no with | some E=>decide (S.idOf E=id) | none=>false:=by
  unfold S.sound
  rw[decide_eq_true hlt,Bool.true_and]
  rfl
 have hlens:∀ E,S.read s.d no=some E→E.k.size≤1073741824∧E.v.size≤1073741824:=fun E hE=>by
  unfold S.read at hE
  split at hE
  ·cases hE
  ·obtain⟨_,_,_,l1,l2⟩:=O.dec_lens hE
   have:(s.d.read (S.path no)).1.length≤1073741824:=by
    unfold D.Dsk.read
    split
    ·exact Nat.zero_le _
    split
    ·exact Nat.zero_le _
    split
    ·exact Nat.zero_le _
    ·exact hf.size _
   omega
 rw[hS]
 have hi:¬ (no:Int)≥s.used.length:=by omega
 clear hS h hf
 generalize S.read s.d no=R at *
 go_enter Tryz.func31,Tryz.ntmps31
 go_wp2_with fail
 refine HRD.out.mono ?_
 rintro e w1 ⟨A,c,Xb,dd,rfl,hr1,hr2,hb1⟩
 have HB1:=Lib.hid hb1
 clear hr1 hr2 hb1 HRD y0 y1 y2 y3
 cases R with
 | none =>
  have HB2:=Lib.hid (below_then HB1.out.size HB1.out ((Below.refl w1.heap.size w1).alloc (Nat.le_refl _) (.cells #[.string O.Ent.zero.k,.string O.Ent.zero.v,.int .i64 O.Ent.zero.s,.string O.Ent.zero.r,.int .i64 O.Ent.zero.m,.slice A O.Ent.zero.fs.length c,.slice Xb O.Ent.zero.body.length dd,.int .i64 O.Ent.zero.asked,.int .i64 O.Ent.zero.got] 28)))
  dsimp only[Option.getD,Option.isSome]
  unfold entV
  go_wp2
  go_ret
  exact⟨rfl,HB2.out⟩
 | some E =>
  obtain⟨lk,lv⟩:=hlens E rfl
  have hbe:Below w1.heap.size w1 (w1.alloc (.cells #[.string E.k,.string E.v,.int .i64 E.s,.string E.r,.int .i64 E.m,.slice A E.fs.length c,.slice Xb E.body.length dd,.int .i64 E.asked,.int .i64 E.got] 28)):=(Below.refl _ _).alloc (Nat.le_refl _) _
  have HB2:=Lib.hid (below_then HB1.out.size HB1.out hbe)
  have HI:=Lib.hid (id_any E.k E.v (w1.alloc (.cells #[.string E.k,.string E.v,.int .i64 E.s,.string E.r,.int .i64 E.m,.slice A E.fs.length c,.slice Xb E.body.length dd,.int .i64 E.asked,.int .i64 E.got] 28)) lk lv)
  clear hlens hbe
  dsimp only[Option.getD,Option.isSome]
  unfold entV
  go_wp2_with fail
  refine HI.out.mono ?_
  rintro e w2 ⟨rfl,hb2⟩
  have HB3:=Lib.hid (below_then HB2.out.size HB2.out hb2)
  have HID:Hid (((E.k++⟨#[10]⟩++E.v).toList==id.toList)=decide (S.idOf E=id)):=Lib.hid (beq_bytes _ _)
  clear hb2 HI
  generalize E.k++⟨#[10]⟩++E.v=z at HID ⊢
  go_wp2
  go_ret
  exact⟨ret_bool HID.out,HB3.out⟩
namespace D
def uent (p:ByteArray × Nat):Lit × DataW Unit:=(key p.1,.agg [])
def datU (l:NM):DataW Unit:=.map (l.map uent)
theorem insert_mapU (nm:ByteArray) (no:Nat):∀ l:NM,DataW.insert (uent (nm,no)) (l.map uent)=(ins l nm no).map uent
 | []=>rfl
 | p::r=>by
  have e:(uent (nm,no)).1.before (uent p).1=ltB nm p.1:=ltB_before _ _
  rw[List.map_cons]
  unfold DataW.insert ins
  rw[e]
  split
  ·rfl
  ·rw[List.map_cons,insert_mapU nm no r]
theorem datU_del (l:NM) (nm:ByteArray):(datU l).del (key nm)=datU (del l nm):=by
 unfold datU DataW.del D.del
 dsimp only
 congr 1
 rw[List.filter_map]
 congr 1
 apply List.filter_congr
 intro p _
 show (!((uent p).1.sameKey (key nm)))=_
 unfold uent
 dsimp only
 rw[same_key]
 simp
theorem datU_put (l:NM) (nm:ByteArray) (no:Nat):(datU l).put (key nm) (.agg [])=datU (put l nm no):=by
 have h:=datU_del l nm
 unfold datU DataW.del at h
 dsimp only at h
 have h2:(l.map uent).filter (fun p=>!p.1.sameKey (key nm))=(del l nm).map uent:=by injection h
 unfold datU DataW.put
 dsimp only
 rw[h2]
 exact congrArg DataW.map (insert_mapU nm no (del l nm))
theorem datU_has (l:NM) (nm:ByteArray):Maps.has (datU l) (key nm)=(find l nm).isSome:=by
 unfold datU
 rw[Maps.has_eq,Bool.eq_iff_iff,List.any_eq_true]
 constructor
 ·rintro⟨p,hp,hk⟩
  obtain⟨q,hq,rfl⟩:=List.mem_map.1 hp
  have:q.1=nm:=by
   have:(key q.1).sameKey (key nm)=true:=hk
   rw[same_key]at this
   exact of_decide_eq_true this
  cases hf:find l nm with
  | some _=>rfl
  | none=>exact absurd this (find_none hf q hq)
 ·intro h
  obtain⟨no,hno⟩:=Option.isSome_iff_exists.1 h
  exact⟨_,List.mem_map_of_mem (find_mem hno),by show (key nm).sameKey (key nm)=true;rw[same_key];simp⟩
end D
abbrev unitE:=unitElem (H:=Unit)
theorem unit_ok {b n:Nat} {w:World} {l:D.NM} (h:w.ownsMap Tryz.prog 9 unitE b n (D.datU l)) (nm:ByteArray) (hs:nm.size≤maxLen) :
  (Instr.lookup 90 (.map (some b)) (.string nm) true).run Tryz.prog w=.ok (.tuple #[.agg #[],.bool (D.find l nm).isSome]) w:=by
 obtain⟨v,ps,hr,hv⟩:=h.look_ok (string_keyed strT_ul) unT_ul (zeroUnit w) (zd:=.agg []) (zp:=[]) unitElem_mk (nmKey nm hs)
 obtain⟨rfl,_⟩:=unitElem_inv hv
 rw[D.datU_has]at hr
 exact hr
theorem unit_tight {b n:Nat} {w:World} {l:D.NM} (h:w.ownsMap Tryz.prog 9 unitE b n (D.datU l)):w.ownsMap Tryz.prog 9 unitE b l.length (D.datU l):=by
 obtain⟨es,cl,hb,F,hs,hD⟩:=h
 refine⟨es,cl,hb,F,?_,hD⟩
 have h1:=congrArg Maps.size hD
 unfold D.datU at h1
 rw[Maps.size_eq,Maps.size_eq,length_sorted]at h1
 simp at h1
 omega
theorem StAt.other {B kb:Nat} {X:SM} {s:S.Sto} {w w':World} (h:StAt B X s w) (hM:MapB w kb) (h1:kb≠X.M.mN) (h2:kb≠X.M.mS) (h3:kb≠X.tb) (hg:w.grownBy w' (some kb)):StAt B X s w':=by
 have hw:Went (fun k=>k=kb) w (fun k=>k=kb) w':=Went.grown hg (fun k e=>(by simpa using e.symm)) (fun k hk=>.inl hk)
 have hb:∀ {k t},Tag w k t→k≠kb:=fun ht=>ht.map hM
 obtain⟨⟨a1,a2,a3,a4,a5,a6,a7,a8,a9,a10⟩,b2,b3⟩:=h.log
 exact⟨⟨⟨hw.blk a1 (hb a1.tag),hw.map a2 (fun e=>h1 e.symm),hw.map a3 (fun e=>h2 e.symm),a4,hw.row a5 (fun k hk=>hb (a5.tag hk)),
  a6.imp (fun c v hc=>hc.kept hg (fun k t e ht=>by cases e;exact absurd rfl (hb ht))),hw.row a7 (fun k hk=>hb (a7.tag hk)),
  fun no hn=>⟨hw.blk (a8 no hn).blk (hb (a8 no hn).blk.tag),hw.row (a8 no hn).row (fun k hk=>hb ((a8 no hn).row.tag hk)),(a8 no hn).ge⟩,a9,a10⟩,hw.blk b2 (hb b2.tag),b3⟩,hw.blk h.blk (hb h.blk.tag),hw.map h.tab (fun e=>h3 e.symm),h.ne,hw.row h.used (fun k hk=>hb (h.used.tag hk)),h.ge⟩
namespace S
theorem tabOf_len (rs:List R.Rc):(tabOf rs).length≤rs.length:=by
 have:∀ (rs:List R.Rc) (t:D.NM),(rs.foldl tstep t).length≤t.length+rs.length:=by
  intro rs
  induction rs with
  | nil=>intro t;exact Nat.le_refl _
  | cons r rs ih =>
   intro t
   have h1:=ih (tstep t r)
   have h2:(tstep t r).length≤t.length+1:=by
    unfold tstep
    split
    ·exact D.length_put _ _ _
    ·have:=D.length_del t r.id;omega
   rw[List.foldl_cons,List.length_cons]
   omega
 have h:=this rs []
 rw[List.length_nil,Nat.zero_add]at h
 exact h
theorem tabOf_up (rs:List R.Rc):D.Up (tabOf rs):=by
 have:∀ (rs:List R.Rc) (t:D.NM),D.Up t→D.Up (rs.foldl tstep t):=by
  intro rs
  induction rs with
  | nil=>exact fun _ h=>h
  | cons r rs ih =>
   intro t ht
   refine ih _ ?_
   unfold tstep
   split
   ·exact D.up_put ht _ _
   ·exact D.up_del ht _
 exact this rs [] List.Pairwise.nil
theorem tabOf_id {rs:List R.Rc} {z:Nat} (h:∀ r∈rs,r.id.size≤z):∀ p∈tabOf rs,p.1.size≤z:=by
 have:∀ (rs:List R.Rc) (t:D.NM),(∀ r∈rs,r.id.size≤z)→(∀ p∈t,p.1.size≤z)→∀ p∈rs.foldl tstep t,p.1.size≤z:=by
  intro rs
  induction rs with
  | nil=>exact fun _ _ h=>h
  | cons r rs ih =>
   intro t hr ht
   refine ih _ (fun x hx=>hr x (List.mem_cons_of_mem _ hx)) (fun p hp=>?_)
   unfold tstep at hp
   split at hp
   ·rcases D.mem_put.1 hp with rfl | hp
    ·exact hr r (by simp)
    ·exact ht p hp.1
   ·exact ht p (D.mem_del.1 hp).1
 exact this rs [] h (fun _ h=>by cases h)
theorem tabOf_next {rs:List R.Rc} {j:Nat} (h:j < rs.length):tabOf (rs.take (j+1))=tstep (tabOf (rs.take j)) rs[j]:=by
 rw[List.take_succ_eq_append_getElem h,tabOf_snoc]
def mid (f:ByteArray × Nat→Bool) (t:D.NM) (j:Nat):D.NM:=(t.take j).filter f++t.drop j
theorem mid_sub (f:ByteArray × Nat→Bool) (t:D.NM) (j:Nat):(mid f t j).Sublist t:=by
 have h:=List.Sublist.append (List.filter_sublist (p:=f) (l:=t.take j)) (List.Sublist.refl (t.drop j))
 rw[List.take_append_drop]at h
 exact h
theorem mid_up {f:ByteArray × Nat→Bool} {t:D.NM} (h:D.Up t) (j:Nat):D.Up (mid f t j):=List.Pairwise.sublist (mid_sub f t j) h
theorem mid_all (f:ByteArray × Nat→Bool) (t:D.NM):mid f t t.length=t.filter f:=by
 unfold mid
 rw[List.take_length,List.drop_length,List.append_nil]
theorem mid_keep {f:ByteArray × Nat→Bool} {t:D.NM} {j:Nat} (h:j < t.length) (hf:f t[j]=true):mid f t (j+1)=mid f t j:=by
 unfold mid
 rw[List.take_succ_eq_append_getElem h,List.filter_append,List.drop_eq_getElem_cons h]
 simp [hf]
theorem mid_drop {f:ByteArray × Nat→Bool} {t:D.NM} {j:Nat} (hu:D.Up t) (h:j < t.length) (hf:f t[j]=false):mid f t (j+1)=D.del (mid f t j) t[j].1:=by
 have e1:mid f t j=(t.take j).filter f++t[j]::t.drop (j+1):=by unfold mid;rw[List.drop_eq_getElem_cons h]
 have e2:mid f t (j+1)=(t.take j).filter f++t.drop (j+1):=by
  unfold mid
  rw[List.take_succ_eq_append_getElem h,List.filter_append]
  simp [hf]
 have hm:=mid_up (f:=f) hu j
 rw[e1]at hm
 rw[e1,e2]
 obtain⟨h1,h2,h3⟩:=List.pairwise_append.1 hm
 obtain⟨h4,_⟩:=List.pairwise_cons.1 h2
 have ne:∀ {a b:ByteArray},D.ltB a b=true→a≠b:=fun h9 e=>by rw[e,D.lt_irrefl]at h9;cases h9
 unfold D.del
 rw[List.filter_append,List.filter_cons]
 have g1:((t.take j).filter f).filter (fun p=>decide (p.1≠t[j].1))=(t.take j).filter f:=List.filter_eq_self.2 (fun p hp=>decide_eq_true (ne (h3 p hp _ List.mem_cons_self)))
 have g2:(t.drop (j+1)).filter (fun p=>decide (p.1≠t[j].1))=t.drop (j+1):=List.filter_eq_self.2 (fun p hp=>decide_eq_true (fun e=>ne (h4 p hp) e.symm))
 rw[g1,g2]
 simp
theorem mid_find {f:ByteArray × Nat→Bool} {t:D.NM} {j:Nat} (hu:D.Up t) (h:j < t.length):D.find (mid f t j) t[j].1=some t[j].2:=by
 refine D.mem_find (mid_up hu j) ?_
 unfold mid
 rw[List.drop_eq_getElem_cons h]
 exact List.mem_append.2 (.inr List.mem_cons_self)
theorem filter_next {f:ByteArray × Nat→Bool} {t:D.NM} {j:Nat} (h:j < t.length):(t.take (j+1)).filter f=(t.take j).filter f++if f t[j]=true then [t[j]] else []:=by
 rw[List.take_succ_eq_append_getElem h,List.filter_append]
 congr 1
 rw[List.filter_cons]
 rfl
def keeps (t:D.NM):D.NM:=t.foldl (fun k p=>D.put k (path p.2) 0) []
theorem keeps_snoc (t:D.NM) (p:ByteArray × Nat):keeps (t++[p])=D.put (keeps t) (path p.2) 0:=by
 unfold keeps
 rw[List.foldl_append]
 rfl
theorem keeps_len:∀ (t:D.NM),(keeps t).length≤t.length:=by
 have:∀ (t k:D.NM),(t.foldl (fun k p=>D.put k (path p.2) 0) k).length≤k.length+t.length:=by
  intro t
  induction t with
  | nil=>intro k;exact Nat.le_refl _
  | cons p t ih =>
   intro k
   have h1:=ih (D.put k (path p.2) 0)
   have h2:=D.length_put k (path p.2) 0
   rw[List.foldl_cons,List.length_cons]
   omega
 intro t
 have:=this t []
 simpa [keeps] using this
theorem keeps_has (nm:ByteArray):∀ (t:D.NM),(D.find (keeps t) nm).isSome=t.any fun p=>decide (path p.2=nm):=by
 have:∀ (t k:D.NM),(D.find (t.foldl (fun k p=>D.put k (path p.2) 0) k) nm).isSome=((D.find k nm).isSome||t.any fun p=>decide (path p.2=nm)):=by
  intro t
  induction t with
  | nil=>intro k;simp
  | cons p t ih =>
   intro k
   rw[List.foldl_cons,ih,D.find_put,List.any_cons]
   by_cases h:nm=path p.2
   ·rw[if_pos h,decide_eq_true h.symm]
    simp
   ·rw[if_neg h,decide_eq_false (fun e=>h e.symm),Bool.false_or]
 intro t
 exact this t []
def swept (t:D.NM) (l:List ByteArray) (d:D.Dsk):D.Dsk:=l.foldl (fun d nm=>if (t.all fun p=>decide (path p.2≠nm))&&isO nm then (d.remove nm).1 else d) d
theorem swept_next (t:D.NM) {l:List ByteArray} {j:Nat} (h:j < l.length) (d:D.Dsk):swept t (l.take (j+1)) d=if (t.all fun p=>decide (path p.2≠l[j]))&&isO l[j] then ((swept t (l.take j) d).remove l[j]).1 else swept t (l.take j) d:=by
 unfold swept
 rw[List.take_succ_eq_append_getElem h,List.foldl_append]
 rfl
theorem swept_fit {t:D.NM}:∀ (l:List ByteArray) {m:Nat} {d:D.Dsk},D.Fit m d→D.Fit (m+l.length) (swept t l d)
 | [],_,_,h=>h
 | nm::l,m,d,h=>by
  have h2:D.Fit (m+1) (if (t.all fun p=>decide (path p.2≠nm))&&isO nm then (d.remove nm).1 else d):=by
   split
   ·exact h.remove nm
   ·exact h.mono (Nat.le_succ m)
  have:=swept_fit (t:=t) l h2
  rw[List.length_cons,show m+(l.length+1)=m+1+l.length by omega]
  exact this
theorem all_any (t:D.NM) (nm:ByteArray):(t.all fun p=>decide (path p.2≠nm))=!(t.any fun p=>decide (path p.2=nm)):=by
 induction t with
 | nil=>rfl
 | cons p t ih =>
  rw[List.all_cons,List.any_cons,ih]
  by_cases h:path p.2=nm<;>simp [h]
end S
end Go.Proofs.YtkempjcphpnocaaGreatDoor
namespace Go.Proofs.YtkempjcphpnocaaGreatDoor
namespace S
open D (cont Clm Cl Quiet)
section
variable {c:D.Dsk} {p:ByteArray} {u:Nat} {π:Int}
def Stop (π:Int) (x:D.Dsk) (P:(ByteArray→Option (List UInt8))→Prop):Prop:=∃ c':D.Dsk,x=c'.pw π∧(c'.pw π).down=true∧c'.power=-1∧∀ k keep,P (D.leftOf (c'.left k keep))
theorem lay_stops (h:Cl none u c) (hg:D.good p=true) (hc:cont c p=none) (b:List UInt8) (hr:u+b.length≤1073741824) (π:Int) :
  ((lay (c.pw π) p b).2.2≠0∧Stop π (lay (c.pw π) p b).1 (fun F=>∀ x,x≠p→Quiet c x→F x=cont c x)) ∨
  (lay (c.pw π) p b=((lay c p b).1.pw π,(lay c p b).2)∧(lay c p b).1.pend=[]):=by
 have h0:¬ has c.list p=true:=fun hm=>by
  rw[has_iff,h.calm.mem,hc]at hm
  cases hm
 obtain⟨e1,c1,k1⟩:=h.create hg hc
 have q1:=h.create_pend hg hc
 obtain⟨e2,c2,k2⟩:=c1.append hg (c:=[]) (by rw[k1,if_pos rfl]) b hr
 have q2:=c1.append_pend hg (c:=[]) (by rw[k1,if_pos rfl]) b hr
 obtain⟨e3,c3,k3⟩:=c2.sync hg (c:=[]++b) (by rw[k2,if_pos rfl]) (.inr rfl)
 have q3:=c2.sync_pend hg (c:=[]++b) (by rw[k2,if_pos rfl])
 obtain⟨e4,c4,k4⟩:=c3.syncNames
 have q4:=c3.syncNames_pend
 have hpw:=h.calm.power
 have hq1:∀ x,x≠p→Quiet c x→∀ g∈c.pend++[.put p c.data.length],¬ g.hits x:=fun x hx hq g hgm=>by
  rcases List.mem_append.1 hgm with hm | hm
  ·exact hq g hm
  ·rw[List.mem_singleton.1 hm]
   exact fun e=>hx e.symm
 have hl:lay c p b=(c.create p |>.1.append p b |>.1.sync p |>.1.syncNames |>.1,true,0):=by
  unfold lay
  rw[if_neg h0]
  dsimp only
  rw[if_neg (by decide),if_neg (by rw[e1];decide),if_neg (by rw[e2];decide),if_neg (by rw[e3];decide),e4]
 have hnl:¬ has (c.pw π).list p=true:=fun hm=>by
  cases hd:(c.pw π).down with
  | true=>rw[D.list_down hd]at hm;cases hm
  | false=>rw[D.list_at hpw hd]at hm;exact h0 hm
 unfold lay
 rw[if_neg hnl]
 dsimp only
 rw[if_neg (show ¬ (0:Int)≠0 by decide),D.create_at hpw]
 by_cases d1:(c.pw π).down=true
 ·rw[if_pos d1,if_pos (show (93:Int)≠0 by decide)]
  exact .inl ⟨show (93:Int)≠0 by decide,c,rfl,d1,hpw,fun k keep x _ hq=>D.left_quiet h (by simp) hq k keep⟩
 rw[if_neg d1]
 unfold D.lift
 dsimp only
 rw[if_neg (by rw[e1];decide),D.append_at c1.calm.power]
 by_cases d2:((c.create p).1.pw π).down=true
 ·rw[if_pos d2,if_pos (show (93:Int)≠0 by decide)]
  exact .inl ⟨show (93:Int)≠0 by decide,_,rfl,d2,c1.calm.power,fun k keep x hx hq=>(D.left_quiet c1 (by simp) (by unfold Quiet;rw[q1];exact hq1 x hx hq) k keep).trans (by rw[k1,if_neg hx])⟩
 rw[if_neg d2]
 unfold D.lift
 dsimp only
 rw[if_neg (by rw[e2];decide),D.sync_at c2.calm.power]
 by_cases d3:(((c.create p).1.append p b).1.pw π).down=true
 ·rw[if_pos d3,if_pos (show (93:Int)≠0 by decide)]
  exact .inl ⟨show (93:Int)≠0 by decide,_,rfl,d3,c2.calm.power,fun k keep x hx hq=>(D.left_quiet c2 (fun e=>hx (Option.some.inj e).symm) (by unfold Quiet;rw[q2,q1];exact hq1 x hx hq) k keep).trans (by rw[k2,if_neg hx,k1,if_neg hx])⟩
 rw[if_neg d3]
 unfold D.lift
 dsimp only
 rw[if_neg (by rw[e3];decide),D.syncNames_at c3.calm.power]
 by_cases d4:((((c.create p).1.append p b).1.sync p).1.pw π).down=true
 ·rw[if_pos d4]
  exact .inl ⟨by show (93:Int)≠0;decide,_,rfl,d4,c3.calm.power,fun k keep x hx hq=>(D.left_quiet c3 (by simp) (by unfold Quiet;rw[q3,q2,q1];exact hq1 x hx hq) k keep).trans (by rw[k3,k2,if_neg hx,k1,if_neg hx])⟩
 rw[if_neg d4]
 unfold D.lift
 dsimp only
 refine .inr ⟨?_,?_⟩
 ·rw[e4]
  unfold lay at hl
  rw[hl]
 ·unfold lay at hl
  rw[hl]
  exact q4
theorem add_stops (h:Cl none u c) {b0:List UInt8} (hc:cont c logN=some b0) (hq:Quiet c logN) (count:Nat) (op no:Int) (id:ByteArray) (hr:R.code ⟨count,op,no,id⟩=0) (hu:u+4111≤1073741824) (π:Int) :
  ((add (c.pw π) count op no id).2=(count,93)∧Stop π (add (c.pw π) count op no id).1 (fun F=>F logN=some b0∧∀ x,x≠logN→Quiet c x→F x=cont c x)) ∨
  ((add (c.pw π) count op no id).2=(count+1,93)∧Stop π (add (c.pw π) count op no id).1 (fun F=>(∃ m,F logN=some (b0++(R.enc ⟨count,op,no,id⟩).take m))∧∀ x,x≠logN→Quiet c x→F x=cont c x)) ∨
  (add (c.pw π) count op no id=((add c count op no id).1.pw π,(add c count op no id).2)∧(add c count op no id).1.pend=c.pend):=by
 have hl:=R.enc_len _ hr
 have hi:id.size≤4096:=(R.code_facts hr).2.2.2.2.2
 dsimp only at hl
 obtain⟨e2,c2,k2⟩:=h.append log_good hc (R.enc ⟨count,op,no,id⟩) (by omega)
 have q2:=h.append_pend log_good hc (R.enc ⟨count,op,no,id⟩) (by omega)
 have ha:=D.left_append h log_good hc hq (R.enc ⟨count,op,no,id⟩) (by omega)
 obtain⟨e3,c3,k3⟩:=c2.sync log_good (c:=b0++R.enc ⟨count,op,no,id⟩) (by rw[k2,if_pos rfl]) (.inr rfl)
 have q3:=c2.sync_pend log_good (c:=b0++R.enc ⟨count,op,no,id⟩) (by rw[k2,if_pos rfl])
 have hl:add c count op no id=(((c.append logN (R.enc ⟨count,op,no,id⟩)).1.sync logN).1,count+1,0):=by
  unfold add
  rw[if_neg (by rw[hr];decide),if_neg (by rw[e2];decide),e3]
 rw[hl]
 unfold add
 rw[if_neg (by rw[hr];decide),D.append_at h.calm.power]
 by_cases d1:(c.pw π).down=true
 ·rw[if_pos d1,if_pos (show (93:Int)≠0 by decide)]
  exact .inl ⟨rfl,c,rfl,d1,h.calm.power,fun k keep=>⟨(D.left_quiet h (by simp) hq k keep).trans hc,fun x _ hx=>D.left_quiet h (by simp) hx k keep⟩⟩
 rw[if_neg d1]
 unfold D.lift
 dsimp only
 rw[if_neg (by rw[e2];decide),D.sync_at c2.calm.power]
 by_cases d2:((c.append logN (R.enc ⟨count,op,no,id⟩)).1.pw π).down=true
 ·rw[if_pos d2]
  exact .inr (.inl ⟨rfl,_,rfl,d2,c2.calm.power,fun k keep=>⟨ha k keep,fun x hx hxq=>(D.left_quiet c2 (fun e=>hx (Option.some.inj e).symm) (by unfold Quiet;rw[q2];exact hxq) k keep).trans (by rw[k2,if_neg hx])⟩⟩)
 rw[if_neg d2]
 unfold D.lift
 dsimp only
 exact .inr (.inr ⟨by rw[e3],by rw[q3,q2]⟩)
theorem rewrite_down {d:D.Dsk} (h:d.down=true) (count:Nat) (list:List R.Rc):(rewrite d count list).1=d:=by
 unfold rewrite
 by_cases hc:(R.encAll list 0 []).2≠0
 ·rw[if_pos hc]
 ·rw[if_neg hc]
  have hs:steps d (moves (R.encAll list 0 []).1)=(d,0,93):=by
   simp [steps,moves,D.create_down h]
  rw[hs]
  rfl
set_option maxHeartbeats 1000000 in
theorem rewrite_stops (h:Cl none u c) {b0:List UInt8} (hc:cont c logN=some b0) (hn:cont c newN=none) (hq:Quiet c logN) (count:Nat) (list:List R.Rc) (hg:∀ r∈R.renum 0 list,R.code r=0) (hu:u+4111 * list.length≤1073741824) (π:Int) :
  ((rewrite (c.pw π) count list).2.2≠0∧Stop π (rewrite (c.pw π) count list).1 (fun F=>(F logN=some b0∨F logN=some (R.encs (R.renum 0 list)))∧∀ x,x≠logN→x≠newN→Quiet c x→F x=cont c x)) ∨
  (rewrite (c.pw π) count list=((rewrite c count list).1.pw π,(rewrite c count list).2)∧(rewrite c count list).1.pend=[]):=by
 have hea:=R.encAll_renum list 0 [] hg
 rw[List.nil_append]at hea
 have hlen:=(R.len_encs _ hg).2
 rw[R.renum_len]at hlen
 unfold rewrite
 rw[hea,if_neg (by show ¬ (0:Int)≠0;decide)]
 dsimp only
 generalize R.encs (R.renum 0 list)=b at *
 obtain⟨e1,c1,k1⟩:=h.create new_good hn
 have q1:=h.create_pend new_good hn
 obtain⟨e2,c2,k2⟩:=c1.append new_good (c:=[]) (by rw[k1,if_pos rfl]) b (by omega)
 have q2:=c1.append_pend new_good (c:=[]) (by rw[k1,if_pos rfl]) b (by omega)
 obtain⟨e3,c3,k3⟩:=c2.sync new_good (c:=[]++b) (by rw[k2,if_pos rfl]) (.inr rfl)
 have q3:=c2.sync_pend new_good (c:=[]++b) (by rw[k2,if_pos rfl])
 have hnc:cont (((c.create newN).1.append newN b).1.sync newN).1 newN=some ([]++b):=by rw[k3,k2,if_pos rfl]
 obtain⟨e4,c4,k4⟩:=c3.rename new_good log_good new_log hnc
 obtain⟨e5,c5,k5⟩:=c4.syncNames
 have q5:=c4.syncNames_pend
 have hs:steps c (moves b)=(((((c.create newN).1.append newN b).1.sync newN).1.rename newN logN).1,4,0):=by
  simp [steps,moves,e1,e2,e3,e4]
 rw[hs]
 dsimp only
 rw[if_pos rfl]
 have hq1:∀ x,x≠newN→Quiet c x→∀ g∈c.pend++[.put newN c.data.length],¬ g.hits x:=fun x hx hq g hgm=>by
  rcases List.mem_append.1 hgm with hm | hm
  ·exact hq g hm
  ·rw[List.mem_singleton.1 hm]
   exact fun e=>hx e.symm
 have hln:logN≠newN:=fun e=>new_log e.symm
 obtain⟨nf,hnf,_⟩:=D.cont_some hnc
 have hre:=c3.calm.rename_eq new_good log_good new_log hnf
 generalize hD1:(c.create newN).1=D1 at *
 generalize hD2:(D1.append newN b).1=D2 at *
 generalize hD3:(D2.sync newN).1=D3 at *
 generalize hD4:(D3.rename newN logN).1=D4 at *
 have s1:∀ k keep,(D.leftOf (D1.left k keep) logN=some b0∨D.leftOf (D1.left k keep) logN=some b)∧∀ x,x≠logN→x≠newN→Quiet c x→D.leftOf (D1.left k keep) x=cont c x:=fun k keep =>
  ⟨.inl ((D.left_quiet c1 (by simp) (by unfold Quiet;rw[q1];exact hq1 _ hln hq) k keep).trans (by rw[k1,if_neg hln,hc])),fun x _ hx hxq=>(D.left_quiet c1 (by simp) (by unfold Quiet;rw[q1];exact hq1 x hx hxq) k keep).trans (by rw[k1,if_neg hx])⟩
 have s2:∀ k keep,(D.leftOf (D2.left k keep) logN=some b0∨D.leftOf (D2.left k keep) logN=some b)∧∀ x,x≠logN→x≠newN→Quiet c x→D.leftOf (D2.left k keep) x=cont c x:=fun k keep =>
  ⟨.inl ((D.left_quiet c2 (fun e=>hln (Option.some.inj e).symm) (by unfold Quiet;rw[q2,q1];exact hq1 _ hln hq) k keep).trans (by rw[k2,if_neg hln,k1,if_neg hln,hc])),fun x _ hx hxq=>(D.left_quiet c2 (fun e=>hx (Option.some.inj e).symm) (by unfold Quiet;rw[q2,q1];exact hq1 x hx hxq) k keep).trans (by rw[k2,if_neg hx,k1,if_neg hx])⟩
 have s3:∀ k keep,(D.leftOf (D3.left k keep) logN=some b0)∧∀ x,x≠logN→x≠newN→Quiet c x→D.leftOf (D3.left k keep) x=cont c x:=fun k keep =>
  ⟨(D.left_quiet c3 (by simp) (by unfold Quiet;rw[q3,q2,q1];exact hq1 _ hln hq) k keep).trans (by rw[k3,k2,if_neg hln,k1,if_neg hln,hc]),fun x _ hx hxq=>(D.left_quiet c3 (by simp) (by unfold Quiet;rw[q3,q2,q1];exact hq1 x hx hxq) k keep).trans (by rw[k3,k2,if_neg hx,k1,if_neg hx])⟩
 have s4:∀ k keep,(D.leftOf (D4.left k keep) logN=some b0∨D.leftOf (D4.left k keep) logN=some b) ∧
   ∀ x,x≠logN→x≠newN→Quiet c x→D.leftOf (D4.left k keep) x=cont c x:=fun k keep=>by
  refine⟨?_,fun x hx hx2 hxq=>(D.left_quiet c4 (by simp) (fun g hgm=>?_) k keep).trans (by rw[k4,if_neg hx,if_neg hx2,k3,k2,if_neg hx2,k1,if_neg hx2])⟩
  ·have ok4:=c4.calm.ok
   have h4:D4=(D.tick D3).alter (.ren newN logN nf):=by rw[← hD4,hre]
   have hl4:D4.left k keep=D3.left k keep∨D4.namesLeft k=D4.now:=by
    rw[h4]at ok4 ⊢
    exact D.left_alter ok4 k keep
   rcases hl4 with e | e
   ·rw[e]
    exact .inl (s3 k keep).1
   ·right
    rw[D.leftOf_left,e]
    have:=k4 logN
    rw[if_pos rfl,List.nil_append]at this
    obtain⟨no,f1,f2⟩:=D.cont_some this
    rw[f1]
    show some _=_
    rcases c4.hard (logN,no) (D.find_mem f1) with e9 | e9
    ·cases e9
    ·rw[← f2]
     exact congrArg some (D.take_firm e9)
  ·have h4:D4.pend=D3.pend++[.ren newN logN nf]:=by rw[← hD4,hre]<;>rfl
   rw[h4,q3,q2,q1]at hgm
   rcases List.mem_append.1 hgm with hm | hm
   ·exact hq1 x hx2 hxq g hm
   ·rw[List.mem_singleton.1 hm]
    rintro (e | e)
    ·exact hx2 e.symm
    ·exact hx e.symm
 have f1:¬ (c.pw π).down=true→(c.pw π).create newN=(D1.pw π,0):=fun d=>by
  rw[D.create_at h.calm.power,if_neg d]
  unfold D.lift
  rw[hD1,e1]
 have f2:¬ (D1.pw π).down=true→(D1.pw π).append newN b=(D2.pw π,0):=fun d=>by
  rw[D.append_at c1.calm.power,if_neg d]
  unfold D.lift
  rw[hD2,e2]
 have f3:¬ (D2.pw π).down=true→(D2.pw π).sync newN=(D3.pw π,0):=fun d=>by
  rw[D.sync_at c2.calm.power,if_neg d]
  unfold D.lift
  rw[hD3,e3]
 have f4:¬ (D3.pw π).down=true→(D3.pw π).rename newN logN=(D4.pw π,0):=fun d=>by
  rw[D.rename_at c3.calm.power,if_neg d]
  unfold D.lift
  rw[hD4,e4]
 clear hs
 by_cases d1:(c.pw π).down=true
 ·have hs:steps (c.pw π) (moves b)=(c.pw π,0,93):=by simp [steps,moves,D.create_down d1]
  rw[hs]
  exact .inl ⟨show (93:Int)≠0 by decide,c,rfl,d1,h.calm.power,fun k keep=>⟨.inl ((D.left_quiet h (by simp) hq k keep).trans hc),fun x _ _ hx=>D.left_quiet h (by simp) hx k keep⟩⟩
 have g1:=f1 d1
 by_cases d2:(D1.pw π).down=true
 ·have hs:steps (c.pw π) (moves b)=(D1.pw π,1,93):=by simp [steps,moves,g1,D.append_down d2]
  rw[hs]
  exact .inl ⟨show (93:Int)≠0 by decide,D1,by show ((D1.pw π).remove newN).1=_;rw[D.remove_down d2],d2,c1.calm.power,s1⟩
 have g2:=f2 d2
 by_cases d3:(D2.pw π).down=true
 ·have hs:steps (c.pw π) (moves b)=(D2.pw π,2,93):=by simp [steps,moves,g1,g2,D.sync_down d3]
  rw[hs]
  exact .inl ⟨show (93:Int)≠0 by decide,D2,by show ((D2.pw π).remove newN).1=_;rw[D.remove_down d3],d3,c2.calm.power,s2⟩
 have g3:=f3 d3
 by_cases d4:(D3.pw π).down=true
 ·have hs:steps (c.pw π) (moves b)=(D3.pw π,3,93):=by simp [steps,moves,g1,g2,g3,D.rename_down d4]
  rw[hs]
  exact .inl ⟨show (93:Int)≠0 by decide,D3,by show ((D3.pw π).remove newN).1=_;rw[D.remove_down d4],d4,c3.calm.power,fun k keep=>⟨.inl (s3 k keep).1,(s3 k keep).2⟩⟩
 have g4:=f4 d4
 have hs:steps (c.pw π) (moves b)=(D4.pw π,4,0):=by simp [steps,moves,g1,g2,g3,g4]
 rw[hs]
 dsimp only
 rw[if_pos rfl,D.syncNames_at c4.calm.power]
 by_cases d5:(D4.pw π).down=true
 ·rw[if_pos d5]
  exact .inl ⟨show (93:Int)≠0 by decide,D4,rfl,d5,c4.calm.power,s4⟩
 ·rw[if_neg d5]
  exact .inr ⟨rfl,q5⟩
end
end S
end Go.Proofs.YtkempjcphpnocaaGreatDoor
