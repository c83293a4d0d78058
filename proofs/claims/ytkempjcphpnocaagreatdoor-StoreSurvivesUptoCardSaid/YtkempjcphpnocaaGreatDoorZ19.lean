/- What a script's tries tell of a store without faults; what is left of its disk makes a disk again. No program here but rows' cells. The walks of rec.Decode and of Replay at no bytes. No condition. The walk of the log's Open over a disk without a log, where its three first steps answer OK. Conditions: what the disk's steps ask. A disk that may lose its power: each step is done as without faults, or the disk stands still; what a loss of power leaves under a name. No program here. -/
import Derived.Test.YtkempjcphpnocaaGreatDoorKeepS
import Derived.Test.YtkempjcphpnocaaGreatDoorNewF
import Derived.RangeFuncBox
import Derived.RangeFuncNested
import Derived.RangeFuncLeaves
import Derived.OwnWalkIn
import Derived.TacticsInMore
import Derived.LoopIn
namespace Go.Proofs.YtkempjcphpnocaaGreatDoor
namespace T
def wantR (id:ByteArray):List TP→Option O.Ent
 | []=>none
 | t::r=>if t.id=id then (if t.drop then none else some t.p.E) else wantR id r
structure Tells (l:List TP) (s:S.Sto):Prop where
 done:∀ t∈l,t.done=true
 get:∀ id,s.get id=wantR id l.reverse
theorem mustR_want (id:ByteArray):∀ l:List TP,(∀ t∈l,t.done=true)→mustR id l=(wantR id l).isSome
 | [],_=>rfl
 | t::r,h=>by
  unfold mustR wantR
  by_cases hi:t.id=id
  ·rw[if_pos hi,if_pos hi,h t (by simp)]
   cases t.drop<;>rfl
  ·rw[if_neg hi,if_neg hi]
   exact mustR_want id r (fun x hx=>h x (List.mem_cons_of_mem _ hx))
theorem laidR_want {id:ByteArray} {E:O.Ent}:∀ l:List TP,wantR id l=some E→laidR id E l
 | [],h=>by cases h
 | t::r,h=>by
  unfold wantR at h
  unfold laidR
  by_cases hi:t.id=id
  ·rw[if_pos hi]at h ⊢
   cases hd:t.drop with
   | true =>
    rw[hd]at h
    cases h
   | false =>
    rw[hd]at h
    exact⟨rfl,Option.some.inj h⟩
  ·rw[if_neg hi]at h ⊢
   exact laidR_want r h
section
variable {l:List TP} {s s':S.Sto} {id:ByteArray} {E:O.Ent}
theorem Tells.must (h:Tells l s) (id:ByteArray):must l id=(s.get id).isSome:=by
 unfold T.must
 rw[mustR_want id _ (fun t ht=>h.done t (List.mem_reverse.1 ht)),h.get]
theorem Tells.laid (h:Tells l s) (hg:s.get id=some E):laid l id E:=laidR_want _ ((h.get id).symm.trans hg)
theorem Tells.nil (h:∀ id,s.get id=none):Tells [] s:=⟨(fun _ h=>by cases h),h⟩
theorem Tells.snoc (h:Tells l s) (t:TP) (hd:t.done=true) (hg:∀ x,s'.get x=if x=t.id then (if t.drop then none else some t.p.E) else s.get x):Tells (l++[t]) s' :=
 ⟨fun x hx=>by
  rcases List.mem_append.1 hx with hx | hx
  ·exact h.done x hx
  ·rw[List.mem_singleton.1 hx];exact hd,fun x=>by
  rw[hg,List.reverse_append,List.reverse_singleton,List.singleton_append]
  unfold wantR
  by_cases hx:x=t.id
  ·rw[if_pos hx,if_pos hx.symm]
  ·rw[if_neg hx,if_neg (fun e=>hx e.symm)]
   exact h.get x⟩
end
end T
theorem nodup_len:∀ (n:Nat) (l:List Nat),l.Nodup→(∀ x∈l,x < n)→l.length≤n
 | 0,l,_,h=>by
  cases l with
  | nil=>exact Nat.le_refl _
  | cons x _=>exact absurd (h x (by simp)) (Nat.not_lt_zero _)
 | n+1,l,hn,h=>by
  have h1:=nodup_len n (l.erase n) (hn.erase n) (fun x hx=>by
   have h2:=(List.Nodup.mem_erase_iff hn).1 hx
   have:=h x h2.2
   have:=h2.1
   omega)
  rw[List.length_erase]at h1
  split at h1<;>omega
theorem pair_ne {l:D.NM} (hu:D.Up l) (ho:∀ p∈l,∀ q∈l,p.2=q.2→p=q):(l.map (·.2)).Nodup:=by
 induction l with
 | nil=>exact List.nodup_nil
 | cons p r ih =>
  obtain⟨h1,h2⟩:=List.pairwise_cons.1 hu
  rw[List.map_cons,List.nodup_cons]
  refine⟨fun hm=>?_,ih h2 (fun a ha b hb=>ho a (List.mem_cons_of_mem _ ha) b (List.mem_cons_of_mem _ hb))⟩
  obtain⟨q,hq,e⟩:=List.mem_map.1 hm
  have h3:=h1 q hq
  have h4:=ho p (by simp) q (List.mem_cons_of_mem _ hq) e.symm
  rw[← h4,D.lt_irrefl]at h3
  cases h3
theorem S.Keeps.many {n i u:Nat} {s:S.Sto} (h:S.Keeps n i u s):s.tab.length≤n:=by
 have:=nodup_len n (s.tab.map (·.2)) (pair_ne h.up h.one) (fun x hx=>by
  obtain⟨p,hp,rfl⟩:=List.mem_map.1 hx
  exact (h.tab p hp).1)
 rwa [List.length_map]at this
namespace D
theorem del_all {l:NM} {nm:ByteArray} (h:∀ p∈l,p.1≠nm):del l nm=l:=by
 unfold del
 rw[List.filter_eq_self]
 intro p hp
 exact decide_eq_true (h p hp)
theorem del_ge {nm:ByteArray}:∀ {l:NM},Up l→l.length≤(del l nm).length+1
 | [],_=>Nat.zero_le _
 | p::r,h=>by
  obtain⟨h1,h2⟩:=List.pairwise_cons.1 h
  by_cases hp:p.1=nm
  ·have e:del (p::r) nm=r:=by
    have:del (p::r) nm=del r nm:=by
     unfold del
     rw[List.filter_cons,if_neg (by simp [hp])]
    rw[this]
    refine del_all fun q hq e=>?_
    have:=h1 q hq
    rw[hp,e,lt_irrefl]at this
    cases this
   rw[e,List.length_cons]
   exact Nat.le_refl _
  ·have e:del (p::r) nm=p::del r nm:=by
    unfold del
    rw[List.filter_cons,if_pos (by simp [hp])]
   have:=del_ge (nm:=nm) h2
   rw[e,List.length_cons,List.length_cons]
   omega
theorem put_ge {l:NM} (h:Up l) (nm:ByteArray) (no:Nat):l.length≤(put l nm no).length:=by
 unfold put
 rw[length_ins]
 exact del_ge h
theorem app_ge {l:NM} (h:Up l) (c:Chg):l.length≤(c.app l).length+1:=by
 cases c with
 | put nm no=>exact Nat.le_succ_of_le (put_ge h nm no)
 | del nm=>exact del_ge h
 | ren a b no=>exact Nat.le_trans (del_ge (nm:=a) h) (Nat.succ_le_succ (put_ge (up_del h a) b no))
theorem safe_len {s:Dsk} (h:s.Ok):s.safe.length≤s.now.length+s.pend.length:=by
 have key:∀ (cs:List Chg) (l:NM),Up l→l.length≤(cs.foldl Chg.app l).length+cs.length:=by
  intro cs
  induction cs with
  | nil=>intro l _;exact Nat.le_refl _
  | cons c cs ih =>
   intro l hl
   have h1:=ih (c.app l) (up_app hl c)
   have h2:=app_ge hl c
   rw[List.foldl_cons,List.length_cons]
   omega
 have:=key s.pend s.safe h.upS
 rw[h.fold]
 exact this
theorem good_lt {x:ByteArray} (h:good x=true):ltB ⟨#[]⟩ x=true:=by
 rcases lt_or (a:=(⟨#[]⟩:ByteArray)) (b:=x) (fun e=>by subst e;exact absurd h (by decide)) with h1 | h1
 ·exact h1
 ·unfold ltB at h1
  have:=of_decide_eq_true h1
  exact absurd this (by
   show ¬ L x < []
   exact List.not_lt_nil _)
end D
namespace S
theorem Keeps.few {n i u:Nat} {s:Sto} {d:D.Dsk} (h:Keeps n i u s) (hi:i≤100) (hd:D.Cl none u d) (hk:∀ x,D.cont d x=D.cont s.d x) :
  (R.replay ((if has d.list newN then d.remove newN else (d,0)).1.read logN).1).1.length≤524288:=by
 obtain⟨rs,g1,g2,g3,g4⟩:=h.log
 have hnew:has d.list newN=false:=by
  cases hh:has d.list newN with
  | false=>rfl
  | true =>
   rw[has_iff,hd.calm.mem,hk,h.new]at hh
   cases hh
 have hrd:d.read logN=(R.encs rs,0):=by rw[hd.calm.read log_good,hk,g1]
 rw[hnew,if_neg (by decide),hrd,R.replay_encs g2]
 have:=h.count
 show rs.length≤_
 omega
end S
end Go.Proofs.YtkempjcphpnocaaGreatDoor
namespace Go.Proofs.YtkempjcphpnocaaGreatDoor
open Go Go.RowKit Go.Maps
def recV (r:R.Rc):Value:=.agg #[.int .i64 r.seq,.int .i64 r.op,.int .i64 r.no,.string r.id]
set_option maxHeartbeats 1000000 in
theorem rdec0_any (A:Option Addr) (c:Nat) (w:World):Calls Tryz.prog 120 #[.slice A 0 c] w (fun e w'=>e=.returned (.tuple #[recV R.Rc.zero,.int .i64 0,.int .i64 0])∧Below w.heap.size w w'):=by
 have HK:=Lib.hid (Blk.new w #[.int .i64 0,.int .i64 0,.int .i64 0,.string ⟨#[]⟩] 89)
 have HB:=Lib.hid ((Below.refl w.heap.size w).alloc (Nat.le_refl _) (.cells #[.int .i64 0,.int .i64 0,.int .i64 0,.string ⟨#[]⟩] 89))
 go_enter Tryz.func120,Tryz.ntmps120
 go_wp2
 obtain⟨z0,z1,z2,z3⟩:=HK.out.cells4
 (try simp only[Exit.inBlock,Exit.then])
 refine bodyPost_ret (v:=.tuple #[recV R.Rc.zero,.int .i64 0,.int .i64 0]) (by simp [results,Tryz.results120,go_sem,z0,z1,z2,z3,recV,R.Rc.zero]) rfl ?_
 exact⟨rfl,HB.out⟩
set_option maxHeartbeats 1000000 in
theorem recs0_any (l bx:Nat) (c:Nat) (A:Option Addr) (hA:A=none→c=0) (w:World) (hc:w.cell? ⟨bx,0,none⟩=some (.slice A 0 c)) :
  Calls Tryz.prog 119 #[.func (.yield l) #[] #[],.pointer (some ⟨bx,0,none⟩)] w (fun e w'=>(∃ v,e=.returned v)∧w.grownBy w' none):=by
 have HC:=Lib.hid (fun A c u=>rdec0_any A c u)
 by_cases h0:c=0
 ·subst h0
  go_enter Tryz.func119,Tryz.ntmps119
  go_wp2
  go_loopw [3,4] (fun a b wr=>a=.int .i64 0∧b=.int .i64 0∧wr=w) (fun _ _ _=>0)
  case atStart=>exact⟨rfl,rfl,rfl⟩
  case round =>
   obtain⟨rfl,rfl,rfl⟩:=hrel
   go_wp2_with fail
   refine (HC.out _ _ _).mono ?_
   rintro e w1 ⟨rfl,hb⟩
   have hg:wr.grownBy w1 none:=⟨hb.os,hb.tape,hb.output,hb.size,fun k hk _=>hb.block k hk⟩
   have HG:=Lib.hid (hg.trans (World.grownBy_alloc w1 (.cells #[.int .i64 0,.int .i64 0,.int .i64 0,.string ⟨#[]⟩] 89) none))
   have HK:=Lib.hid (Blk.new w1 #[.int .i64 0,.int .i64 0,.int .i64 0,.string ⟨#[]⟩] 89)
   clear hb hg HC
   unfold recV R.Rc.zero
   go_wp2
   refine bodyPost_ret (results_none rfl _ _ _) rfl ?_
   exact⟨⟨_,rfl⟩,HG.out⟩
 ·obtain⟨⟨b,o,f⟩,rfl⟩:∃ a,A=some a:=by
   cases A with
   | none=>exact absurd (hA rfl) h0
   | some a=>exact⟨a,rfl⟩
  have hcp:0 < c:=by omega
  go_enter Tryz.func119,Tryz.ntmps119
  go_wp2
  go_loopw [3,4] (fun a b wr=>a=.int .i64 0∧b=.int .i64 0∧wr=w) (fun _ _ _=>0)
  case atStart=>exact⟨rfl,rfl,rfl⟩
  case round =>
   obtain⟨rfl,rfl,rfl⟩:=hrel
   go_wp2_with fail
   refine (HC.out _ _ _).mono ?_
   rintro e w1 ⟨rfl,hb⟩
   have hg:wr.grownBy w1 none:=⟨hb.os,hb.tape,hb.output,hb.size,fun k hk _=>hb.block k hk⟩
   have HG:=Lib.hid (hg.trans (World.grownBy_alloc w1 (.cells #[.int .i64 0,.int .i64 0,.int .i64 0,.string ⟨#[]⟩] 89) none))
   have HK:=Lib.hid (Blk.new w1 #[.int .i64 0,.int .i64 0,.int .i64 0,.string ⟨#[]⟩] 89)
   clear hb hg HC
   unfold recV R.Rc.zero
   go_wp2
   refine bodyPost_ret (results_none rfl _ _ _) rfl ?_
   exact⟨⟨_,rfl⟩,HG.out⟩
set_option maxHeartbeats 1000000 in
theorem srecords_any (A:Option Addr) (n c:Nat) (w:World) :
  Calls Tryz.prog 97 #[.slice A n c] w (fun e w'=>e=.returned (.func (.func 119) #[] #[.pointer (some ⟨w.heap.size,0,none⟩)])∧w'=w.alloc (.cells #[.slice A n c] 26)):=by
 go_enter Tryz.func97,Tryz.ntmps97
 go_wp2
 go_ret
 exact⟨rfl,rfl⟩
theorem recs0_stops (n bx n₀:Nat) (A:Option Addr) (c:Nat) (hA:A=none→c=0) (w:World) (hB:bx < w.heap.size) (hc:w.cell? ⟨bx,0,none⟩=some (.slice A 0 c)) :
  SeqStopsK Fence.wide n Tryz.prog 119 #[.pointer (some ⟨bx,0,none⟩)] (fun x:Empty=>x.elim) (Below n₀) (fun ys=>ys=[]) (fun _=>False) 0 w:=fun l J Jx W hW hJ _ _ h0 =>
 callsIn_wide.2 ((recs0_any l bx c A hA W ((hW.cell (p:=⟨bx,0,none⟩) hB).trans hc)).mono fun e w' h=>⟨h.1,.inl ⟨[],rfl,hJ [] W w' none h0 h.2 (fun r hr=>by cases hr)⟩⟩)
set_option maxRecDepth 100000 in
set_option maxHeartbeats 2000000 in
theorem replay0_any (A:Option Addr) (c:Nat) (hA:A=none→c=0) (w:World) :
  Calls Tryz.prog 64 #[.slice A 0 c] w (fun e w'=>e=.returned (.tuple #[.slice none 0 0,.int .i64 0])∧Below w.heap.size w w'):=by
 refine (callsIn_wide (n:=9)).1 ?_
 refine callsIn_of_wp_marks Tryz.func64 rfl trivial ?_ rfl
 simp only[Tryz.ntmps64,List.size_toArray,List.length_cons,List.length_nil,Nat.reduceAdd,Nat.reduceSub,Array.replicate_succ,Array.replicate_zero,List.push_toArray,List.append_toArray,List.nil_append,List.cons_append]
 gi_wp2_with fail
 refine⟨trivial,(callsIn_wide.2 (srecords_any _ _ _ _)).mono ?_⟩
 rintro e w' ⟨rfl,rfl⟩
 gi_wp2_with fail
 have bO:Boxed ((w.alloc (.cells #[.slice none 0 0] 81)).alloc (.cells #[.int .i64 0] 3)) w.heap.size 81 (.slice none 0 0):=(Boxed.new w 81 (.slice none 0 0)).alloc _
 have bN:Boxed ((w.alloc (.cells #[.slice none 0 0] 81)).alloc (.cells #[.int .i64 0] 3)) (w.heap.size+1) 3 (.int .i64 0):=by
  have:=Boxed.new (w.alloc (.cells #[.slice none 0 0] 81)) 3 (.int .i64 0)
  rwa [World.size_alloc]at this
 have bX:Boxed (((w.alloc (.cells #[.slice none 0 0] 81)).alloc (.cells #[.int .i64 0] 3)).alloc (.cells #[.slice A 0 c] 26)) (w.heap.size+2) 26 (.slice A 0 c):=by
  have:=Boxed.new ((w.alloc (.cells #[.slice none 0 0] 81)).alloc (.cells #[.int .i64 0] 3)) 26 (.slice A 0 c)
  rwa [World.size_alloc,World.size_alloc]at this
 have hB0:Below w.heap.size w (((w.alloc (.cells #[.slice none 0 0] 81)).alloc (.cells #[.int .i64 0] 3)).alloc (.cells #[.slice A 0 c] 26)):=(((Below.refl _ w).alloc (Nat.le_refl _) _).alloc (by simp only[World.size_alloc];omega) _).alloc (by simp only[World.size_alloc];omega) _
 have bO1:=bO.alloc (.cells #[.slice A 0 c] 26)
 have bN1:=bN.alloc (.cells #[.slice A 0 c] 26)
 clear bO bN
 refine wpIn_rangeFunc_ownG rfl (by decide) (gf:=119) (lb:=#[.pointer (some ⟨w.heap.size+2,0,none⟩)]) rfl trivial (enters_of Tryz.func119 (by kernel_rfl) rfl)
  (recs0_stops 8 (w.heap.size+2) w.heap.size A c hA _ (by simp) bX.cell) belowK_t (belowK_b (by simp only[World.size_alloc];omega)) (Below.refl _ _) (fun x=>x.elim)
  (fun _ W=>(Boxed W w.heap.size 81 (.slice none 0 0)∧Boxed W (w.heap.size+1) 3 (.int .i64 0))∧Below w.heap.size w W)
  (fun _ _ _=>False)
  (OwnFrom.and (OwnFrom.and (Own.from (boxed_own w.heap.size 81 (fun _=>.slice none 0 0)) _) (Own.from (boxed_own (w.heap.size+1) 3 (fun _=>.int .i64 0)) _)) (ownFrom_below (Nat.le_refl _) (by simp only[World.size_alloc];omega)))
  (fun _ _ _ _ _ hs _ _=>hs)
  ⟨⟨bO1,bN1⟩,hB0⟩
  (fun x=>x.elim) (fun _ x=>x.elim) (fun _ _ x=>x.elim) ?done ?stop
 case done =>
  rintro D ys W hD rfl ⟨⟨hO,hN⟩,hB⟩ hK
  have hc:=hO.cell
  have hn:=hN.cell
  gi_wp2_with fail
  refine wpIn_wide.2 ?_
  go_region
  all_goals gi_wp2
  have hK2:W.drew.heap[D]?=some (.deferred (some [])):=hK
  refine⟨by simp,.inl ⟨_,_,rfl,run_takeDeferred hK2,?_⟩⟩
  refine⟨_,results_tmp2 rfl _ _ _,rfl,hB.drew.trans (belowK_b (w:=w) (Nat.le_refl _) W.drew D _ _ (by simp only[World.size_alloc]at hD;omega) hK2 rfl rfl)⟩
 case stop =>
  rintro D c pre W _ _ h _
  exact h.elim
end Go.Proofs.YtkempjcphpnocaaGreatDoor
namespace Go.Proofs.YtkempjcphpnocaaGreatDoor
open Go Go.RowKit Go.Maps
section
variable (B l:Nat) (M:DM) (d:D.Dsk) (count m bx:Nat) (w:World)
set_option maxHeartbeats 1000000 in
theorem op1_any (h:LgAt B l M d count w) (hf:D.Fit m d) (hm:m≤134217728) (hb:Blk w bx #[.pointer (some ⟨M.d,0,none⟩)] 30) :
  Calls Tryz.prog 59 #[.pointer (some ⟨bx,0,none⟩)] w (RetLog B l M d w ((d.create S.logN).1,count,(d.create S.logN).2)):=by
 have HC:=Lib.hid (create_any B M d S.logN w h.disk (hf.sml (by omega)) hf.ok log_small.1)
 have HD:=Lib.hid h
 have z0:=hb.cells1
 clear h hb
 go_enter Tryz.func59,Tryz.ntmps59
 go_wp2_with fail
 refine HC.out.mono ?_
 rintro e w4 hr4
 have h4:=RetStep.log HD.out hr4
 obtain⟨rfl,h5⟩:=h4
 clear hr4 HC z0
 go_wp2
 go_ret
 exact⟨rfl,h5⟩
set_option maxHeartbeats 1000000 in
theorem op2_any (h:LgAt B l M d count w) (hf:D.Fit m d) (hm:m≤134217728) (hb:Blk w bx #[.pointer (some ⟨M.d,0,none⟩)] 30) :
  Calls Tryz.prog 61 #[.pointer (some ⟨bx,0,none⟩)] w (RetLog B l M d w ((d.sync S.logN).1,count,(d.sync S.logN).2)):=by
 have HC:=Lib.hid (syncS_any B M d S.logN w h.disk (hf.sml (by omega)) hf.ok log_small.1)
 have HD:=Lib.hid h
 have z0:=hb.cells1
 clear h hb
 go_enter Tryz.func61,Tryz.ntmps61
 go_wp2_with fail
 refine HC.out.mono ?_
 rintro e w4 hr4
 have h4:=RetStep.log HD.out hr4
 obtain⟨rfl,h5⟩:=h4
 clear hr4 HC z0
 go_wp2
 go_ret
 exact⟨rfl,h5⟩
end
theorem Row.capNone {w:World} {base size n c:Nat} {e:TypeId} {A:Option Addr} {xs:List Value} (h:Row w base e size A n c xs):A=none→c=0:=by
 intro hA
 rcases h with ⟨_,hr⟩ | ⟨_,h,_⟩
 ·rcases hr with ⟨hv,_⟩ | ⟨g,cap,cur,hv,_⟩
  ·injection hv
  ·injection hv with h1 h2 h3
   rw[hA]at h1
   cases h1
 ·exact h
def RetOpen (B:Nat) (M:DM) (d:D.Dsk) (w:World) (d3:D.Dsk) (e:Ending) (w':World):Prop :=
 ∃ l M',e=.returned (.tuple #[.pointer (some ⟨l,0,none⟩),.slice none 0 0,.int .i64 0])∧LgAt B l M' d3 0 w'∧Went (M.foot d) w (lgFoot l M' d3) w'∧M'.d=M.d
set_option maxRecDepth 100000 in
set_option maxHeartbeats 4000000 in
theorem logOpen0_any (B:Nat) (M:DM) (d d3:D.Dsk) (m:Nat) (w:World) (h:DkAt B M d w) (hf:D.Fit m d) (hm:m≤134217000) (hnew:S.has d.list S.newN=false) (hrd:d.read S.logN=([],90)) (hst:S.steps d S.firsts=(d3,3,0)) :
  Calls Tryz.prog 30 #[.pointer (some ⟨M.d,0,none⟩)] w (RetOpen B M d w d3):=by
 have HD:=Lib.hid h
 have HF:=Lib.hid hf
 have hln:d.now.length≤1073741824:=Nat.le_trans hf.now (by omega)
 have HLI:=Lib.hid (fun (u:World) (hu:Below w.heap.size w u)=>dlist_any B M d u (h.below hu) hf.ok hln)
 have HRE:=Lib.hid (fun (u:World) (hu:Below w.heap.size w u)=>read_any B M d S.logN u (h.below hu) (hf.sml (by omega)) hf.ok log_small.1)
 rw[hrd]at HRE
 have HNW:=Lib.hid hnew
 have HST:=Lib.hid hst
 have hll:d.list.length≤1099511627776:=by
  have:d.list.length≤d.now.length:=by unfold D.Dsk.list;split<;>simp
  omega
 clear h hf hnew hrd hst
 go_enter Tryz.func30,Tryz.ntmps30
 go_upto_region 2 with fail
 obtain⟨W1,hW1⟩:∃ W1,(w.alloc (.cells #[.pointer (some ⟨M.d,0,none⟩)] 30)).alloc (.cells #[.pointer (some ⟨M.d,0,none⟩),.int .i64 0] 118)=W1:=⟨_,rfl⟩
 have hs1:(w.alloc (.cells #[.pointer (some ⟨M.d,0,none⟩)] 30)).heap.size=w.heap.size+1:=World.size_alloc ..
 have HZ1:Hid (W1.heap.size=w.heap.size+2):=Lib.hid (by rw[← hW1,World.size_alloc,hs1])
 have hb0:Below w.heap.size w (w.alloc (.cells #[.pointer (some ⟨M.d,0,none⟩)] 30)):=(Below.refl _ _).alloc (Nat.le_refl _) _
 have HB1:Hid (Below w.heap.size w W1):=Lib.hid (by rw[← hW1];exact hb0.alloc (by rw[hs1];omega) _)
 have HBX:Hid (Blk W1 w.heap.size #[.pointer (some ⟨M.d,0,none⟩)] 30):=Lib.hid (by rw[← hW1];exact (Blk.new w _ _).alloc _)
 have HBL:Hid (Blk W1 (w.heap.size+1) #[.pointer (some ⟨M.d,0,none⟩),.int .i64 0] 118):=Lib.hid (by
  have:=Blk.new (w.alloc (.cells #[.pointer (some ⟨M.d,0,none⟩)] 30)) #[.pointer (some ⟨M.d,0,none⟩),.int .i64 0] 118
  rw[← hW1]
  rwa [hs1]at this)
 rw[hW1]
 clear hb0
 have z0:=HBX.out.cells1
 go_wp2_with fail
 refine (HLI.out _ HB1.out).mono ?_
 rintro e w2 ⟨A,c,rfl,hr2,hb2⟩
 have HB2:=Lib.hid (below_then HB1.out.size HB1.out hb2)
 have HCT:=Lib.hid (hasName_any A _ c d.list S.newN w2 rfl hll hr2.rd)
 rw[HNW.out]at HCT
 clear HLI hr2 HNW
 go_wp2_with fail
 refine HCT.out.mono ?_
 rintro e w2' ⟨rfl,rfl⟩
 have HBX2:=Lib.hid (HBX.out.below hb2)
 have HBL2:=Lib.hid (HBL.out.below hb2)
 have HZ2:Hid (w.heap.size+2≤w2.heap.size):=Lib.hid (by have:=hb2.size;have:=HZ1.out;omega)
 have z0:=HBX2.out.cells1
 clear hb2 HB1 HBX HBL HCT HZ1 hW1
 go_wp2_with fail
 refine (HRE.out _ HB2.out).mono ?_
 rintro e w3 ⟨A3,c3,rfl,hr3,hb3⟩
 have HB3:=Lib.hid (below_then HB2.out.size HB2.out hb3)
 have HBX3:=Lib.hid (HBX2.out.below hb3)
 have HBL3:=Lib.hid (HBL2.out.below hb3)
 have HZ3:Hid (w.heap.size+2≤w3.heap.size):=Lib.hid (by have:=hb3.size;have:=HZ2.out;omega)
 have HRP:=Lib.hid (fun u=>replay0_any A3 c3 hr3.capNone u)
 clear hb3 hr3 HRE HB2 HBX2 HBL2 HZ2 z0
 have z0:=HBX3.out.cells1
 have hbe:Below w3.heap.size w3 (w3.alloc (.cells #[.func (.func 59) #[] #[.pointer (some ⟨w.heap.size,0,none⟩)],.func (.func 61) #[] #[.pointer (some ⟨w.heap.size,0,none⟩)],.func (.func 63) #[.pointer (some ⟨M.d,0,none⟩)] #[]] 123)):=(Below.refl _ _).alloc (Nat.le_refl _) _
 have HB4:=Lib.hid (below_then HB3.out.size HB3.out hbe)
 have HL4:=Lib.hid (show LgAt B (w.heap.size+1) M d 0 (w3.alloc (.cells #[.func (.func 59) #[] #[.pointer (some ⟨w.heap.size,0,none⟩)],.func (.func 61) #[] #[.pointer (some ⟨w.heap.size,0,none⟩)],.func (.func 63) #[.pointer (some ⟨M.d,0,none⟩)] #[]] 123)) from⟨HD.out.below HB4.out,HBL3.out.below hbe,by have:=HD.out.base;omega⟩)
 have HW4:Hid (Went (M.foot d) w (lgFoot (w.heap.size+1) M d) (w3.alloc (.cells #[.func (.func 59) #[] #[.pointer (some ⟨w.heap.size,0,none⟩)],.func (.func 61) #[] #[.pointer (some ⟨w.heap.size,0,none⟩)],.func (.func 63) #[.pointer (some ⟨M.d,0,none⟩)] #[]] 123))):=Lib.hid ((Went.below HB4.out (M.foot d)).wide (fun _ h=>h) (fun k hk=>by
  rcases hk with hk | hk
  ·exact .inl hk
  ·exact .inr (.inr (by omega))))
 have HBX4:=Lib.hid (HBX3.out.below hbe)
 have hx4:Rd (w3.alloc (.cells #[.func (.func 59) #[] #[.pointer (some ⟨w.heap.size,0,none⟩)],.func (.func 61) #[] #[.pointer (some ⟨w.heap.size,0,none⟩)],.func (.func 63) #[.pointer (some ⟨M.d,0,none⟩)] #[]] 123)) (some ⟨w3.heap.size,0,none⟩) 3 1 (#[.func (.func 59) #[] #[.pointer (some ⟨w.heap.size,0,none⟩)],.func (.func 61) #[] #[.pointer (some ⟨w.heap.size,0,none⟩)],.func (.func 63) #[.pointer (some ⟨M.d,0,none⟩)] #[]]:Array Value).toList:=Rd.newRow w3 123 #[.func (.func 59) #[] #[.pointer (some ⟨w.heap.size,0,none⟩)],.func (.func 61) #[] #[.pointer (some ⟨w.heap.size,0,none⟩)],.func (.func 63) #[.pointer (some ⟨M.d,0,none⟩)] #[]] 3 1 rfl
 have hofx:∀ q,w.heap.size≤q→q≠w.heap.size+1→¬ lgFoot (w.heap.size+1) M d q:=fun q hq hne hf=>by
  rcases hf with hf | hf
  ·have:=HD.out.lt hf;omega
  ·exact hne hf
 have HOF:=Lib.hid (hofx w.heap.size (Nat.le_refl _) (by omega))
 have hA4:∀ a,(some ⟨w3.heap.size,0,none⟩:Option Addr)=some a→¬ lgFoot (w.heap.size+1) M d a.block:=fun a ha=>(by cases ha;exact hofx w3.heap.size (by have:=HZ3.out;omega) (by have:=HZ3.out;omega))
 have HFI:=Lib.hid (first3_any B (w.heap.size+1) M d 0 m w.heap.size (some ⟨w3.heap.size,0,none⟩) 3 (fun d=>d.create S.logN) (fun d=>d.sync S.logN) (fun d=>d.syncNames) (w3.alloc (.cells #[.func (.func 59) #[] #[.pointer (some ⟨w.heap.size,0,none⟩)],.func (.func 61) #[] #[.pointer (some ⟨w.heap.size,0,none⟩)],.func (.func 63) #[.pointer (some ⟨M.d,0,none⟩)] #[]] 123)) HL4.out HF.out
  (fun _ _ h=>h.create _) (fun _ _ h=>h.sync _) (fun _ _ h=>h.syncNames) hx4 hA4
  (fun M1 d1 u hl hw hm hf=>op1_any B (w.heap.size+1) M1 d1 0 (m+0) w.heap.size u hl hf (by omega) (by rw[hm];exact hw.blk HBX4.out HOF.out))
  (fun M1 d1 u hl hw hm hf=>op2_any B (w.heap.size+1) M1 d1 0 (m+1) w.heap.size u hl hf (by omega) (by rw[hm];exact hw.blk HBX4.out HOF.out))
  (fun M1 d1 u hl hw hm hf=>by rw[← hm];exact (syncNames_any B M1 d1 u hl.disk (hf.sml (by omega))).mono fun _ _ h=>RetStep.log hl h))
 have HST2:Hid (S.steps d [fun d=>d.create S.logN,fun d=>d.sync S.logN,fun d=>d.syncNames]=(d3,3,0)):=HST
 rw[HST2.out]at HFI
 clear hbe hx4 hofx hA4 HOF HBX4 HL4 HBL3 HST HST2
 go_wp2_with fail
 refine HFI.out.mono ?_
 rintro e w5 ⟨rfl,M5,hl5,hw5,hm5⟩
 have HL5:=Lib.hid hl5
 have HW5:=Lib.hid (HW4.out.trans hw5)
 have HM5:=Lib.hid hm5
 clear hl5 hw5 hm5 HFI HW4 z0
 go_wp2_with fail
 refine (HRP.out _).mono ?_
 rintro e w6 ⟨rfl,hb6⟩
 have hl6:=HL5.out.below hb6
 obtain⟨hl7,hw7⟩:=hl6.counted 0
 have HL7:=Lib.hid hl7
 have HW7:=Lib.hid ((HW5.out.trans (Went.below hb6 _)).trans hw7)
 obtain⟨y0,y1⟩:=hl6.cells
 have f1:=hl6.blk.free 1
 clear hb6 hl6 hl7 hw7 HRP HW5 y0
 go_wp2
 (try simp only[Exit.inBlock,Exit.then])
 refine bodyPost_ret (results_tmp3 rfl _ _ _) rfl ?_
 exact⟨w.heap.size+1,M5,rfl,HL7.out,HW7.out,HM5.out⟩
end Go.Proofs.YtkempjcphpnocaaGreatDoor
namespace Go.Proofs.YtkempjcphpnocaaGreatDoor
namespace D
def Dsk.pw (d:Dsk) (p:Int):Dsk:={ d with power:=p }
section
variable {d:Dsk} {nm:ByteArray} {c:List UInt8} {ex:Option ByteArray} {u:Nat}
theorem pw_down (d:Dsk):(d.pw (-1)).down=false:=rfl
theorem begin_down (h:d.down=true) (ns:List ByteArray):d.begin ns=(d,93):=by
 unfold Dsk.begin
 rw[h]
 rfl
theorem begin_pw (h:d.down=false) (ns:List ByteArray):d.begin ns=(((d.pw (-1)).begin ns).1.pw d.power,((d.pw (-1)).begin ns).2):=by
 unfold Dsk.begin
 rw[h,pw_down]
 rfl
theorem create_down (h:d.down=true) (nm:ByteArray):d.create nm=(d,93):=by
 unfold Dsk.create
 rw[begin_down h]
 rfl
theorem on_down (h:d.down=true) (nm:ByteArray) (more:List ByteArray) (f:Dsk→Nat→Dsk × Int):d.on nm more f=(d,93):=by
 unfold Dsk.on
 rw[begin_down h]
 rfl
theorem append_down (h:d.down=true) (nm:ByteArray) (b:List UInt8):d.append nm b=(d,93):=on_down h _ _ _
theorem sync_down (h:d.down=true) (nm:ByteArray):d.sync nm=(d,93):=on_down h _ _ _
theorem remove_down (h:d.down=true) (nm:ByteArray):d.remove nm=(d,93):=on_down h _ _ _
theorem rename_down (h:d.down=true) (a b:ByteArray):d.rename a b=(d,93):=on_down h _ _ _
theorem syncNames_down (h:d.down=true):d.syncNames=(d,93):=by
 unfold Dsk.syncNames
 rw[begin_down h]
 rfl
def Same (d:Dsk) (x y:Dsk × Int):Prop:=x=(y.1.pw d.power,y.2)
theorem create_pw (h:d.down=false) (nm:ByteArray):Same d (d.create nm) ((d.pw (-1)).create nm):=by
 unfold Same Dsk.create
 rw[begin_pw h]
 generalize (d.pw (-1)).begin [nm]=z
 obtain⟨s1,e⟩:=z
 dsimp only
 by_cases he:e≠0
 ·rw[if_pos he,if_pos he]
 ·rw[if_neg he,if_neg he]
  by_cases hf:(find s1.now nm).isSome=true
  ·rw[if_pos (show (find (s1.pw d.power).now nm).isSome=true from hf),if_pos hf]
  ·rw[if_neg (show ¬ (find (s1.pw d.power).now nm).isSome=true from hf),if_neg hf]
   rfl
theorem on_pw (h:d.down=false) (nm:ByteArray) (more:List ByteArray) (f:Dsk→Nat→Dsk × Int) (hf:∀ (s:Dsk) no,f (s.pw d.power) no=((f s no).1.pw d.power,(f s no).2)):Same d (d.on nm more f) ((d.pw (-1)).on nm more f):=by
 unfold Same Dsk.on
 rw[begin_pw h]
 generalize (d.pw (-1)).begin (more++[nm])=z
 obtain⟨s1,e⟩:=z
 dsimp only
 by_cases he:e≠0
 ·rw[if_pos he,if_pos he]
 ·rw[if_neg he,if_neg he]
  show (match find s1.now nm with | none=>(s1.pw d.power,(90:Int)) | some no=>f (s1.pw d.power) no)=_
  cases hq:find s1.now nm with
  | none=>rfl
  | some no=>exact hf s1 no
theorem append_pw (h:d.down=false) (nm:ByteArray) (b:List UInt8):Same d (d.append nm b) ((d.pw (-1)).append nm b):=on_pw h _ _ _ (fun s no=>by
 by_cases hr:0 < b.length∧s.room < (s.used:Int)+b.length
 ·show (if 0 < b.length∧s.room < (s.used:Int)+b.length then (s.pw d.power,(92:Int)) else _)=((if 0 < b.length∧s.room < (s.used:Int)+b.length then (s,(92:Int)) else _).1.pw d.power,(if 0 < b.length∧s.room < (s.used:Int)+b.length then (s,(92:Int)) else _).2)
  rw[if_pos hr,if_pos hr]
 ·show (if 0 < b.length∧s.room < (s.used:Int)+b.length then (s.pw d.power,(92:Int)) else _)=((if 0 < b.length∧s.room < (s.used:Int)+b.length then (s,(92:Int)) else _).1.pw d.power,(if 0 < b.length∧s.room < (s.used:Int)+b.length then (s,(92:Int)) else _).2)
  rw[if_neg hr,if_neg hr]
  rfl)
theorem sync_pw (h:d.down=false) (nm:ByteArray):Same d (d.sync nm) ((d.pw (-1)).sync nm):=on_pw h _ _ _ (fun _ _=>rfl)
theorem remove_pw (h:d.down=false) (nm:ByteArray):Same d (d.remove nm) ((d.pw (-1)).remove nm):=on_pw h _ _ _ (fun _ _=>rfl)
theorem rename_pw (h:d.down=false) (a b:ByteArray):Same d (d.rename a b) ((d.pw (-1)).rename a b):=on_pw h _ _ _ (fun s no=>by
 by_cases hr:a=b
 ·rw[if_pos hr,if_pos hr]
 ·rw[if_neg hr,if_neg hr]
  rfl)
theorem syncNames_pw (h:d.down=false):Same d d.syncNames (d.pw (-1)).syncNames:=by
 unfold Same Dsk.syncNames
 rw[begin_pw h]
 generalize (d.pw (-1)).begin []=z
 obtain⟨s1,e⟩:=z
 dsimp only
 by_cases he:e≠0
 ·rw[if_pos he,if_pos he]
 ·rw[if_neg he,if_neg he]
  rfl
theorem pw_back (h:d.power=-1) (p:Int):(d.pw p).pw (-1)=d:=by
 unfold Dsk.pw
 rw[← h]
def lift (p:Int) (x:Dsk × Int):Dsk × Int:=(x.1.pw p,x.2)
theorem at_of {p:Int} {x y:Dsk × Int} (h1:(d.pw p).down=true→x=(d.pw p,93)) (h2:(d.pw p).down=false→Same (d.pw p) x y):x=if (d.pw p).down=true then (d.pw p,93) else lift p y:=by
 by_cases h:(d.pw p).down=true
 ·rw[if_pos h,h1 h]
 ·rw[if_neg h]
  exact h2 (by simpa using h)
theorem create_at (h:d.power=-1) (p:Int) (nm:ByteArray):(d.pw p).create nm=if (d.pw p).down=true then (d.pw p,93) else lift p (d.create nm) :=
 at_of (fun hd=>create_down hd nm) (fun hd=>by have:=create_pw hd nm;rwa [pw_back h]at this)
theorem append_at (h:d.power=-1) (p:Int) (nm:ByteArray) (b:List UInt8):(d.pw p).append nm b=if (d.pw p).down=true then (d.pw p,93) else lift p (d.append nm b) :=
 at_of (fun hd=>append_down hd nm b) (fun hd=>by have:=append_pw hd nm b;rwa [pw_back h]at this)
theorem sync_at (h:d.power=-1) (p:Int) (nm:ByteArray):(d.pw p).sync nm=if (d.pw p).down=true then (d.pw p,93) else lift p (d.sync nm) :=
 at_of (fun hd=>sync_down hd nm) (fun hd=>by have:=sync_pw hd nm;rwa [pw_back h]at this)
theorem remove_at (h:d.power=-1) (p:Int) (nm:ByteArray):(d.pw p).remove nm=if (d.pw p).down=true then (d.pw p,93) else lift p (d.remove nm) :=
 at_of (fun hd=>remove_down hd nm) (fun hd=>by have:=remove_pw hd nm;rwa [pw_back h]at this)
theorem rename_at (h:d.power=-1) (p:Int) (a b:ByteArray):(d.pw p).rename a b=if (d.pw p).down=true then (d.pw p,93) else lift p (d.rename a b) :=
 at_of (fun hd=>rename_down hd a b) (fun hd=>by have:=rename_pw hd a b;rwa [pw_back h]at this)
theorem syncNames_at (h:d.power=-1) (p:Int):(d.pw p).syncNames=if (d.pw p).down=true then (d.pw p,93) else lift p d.syncNames :=
 at_of (fun hd=>syncNames_down hd) (fun hd=>by have:=syncNames_pw hd;rwa [pw_back h]at this)
theorem list_at (h:d.power=-1) {p:Int} (hu:(d.pw p).down=false):(d.pw p).list=d.list:=by
 unfold Dsk.list
 rw[hu,show d.down=false by unfold Dsk.down;rw[h];rfl]
 rfl
theorem list_down (h:d.down=true):d.list=[]:=by
 unfold Dsk.list
 rw[h]
 rfl
theorem Cl.create_pend (h:Cl ex u d) (hg:good nm=true) (hn:cont d nm=none):(d.create nm).1.pend=d.pend++[.put nm d.data.length]:=by
 rw[h.calm.create_eq hg hn];rfl
theorem Cl.append_pend (h:Cl none u d) (hg:good nm=true) (hc:cont d nm=some c) (b:List UInt8) (hr:u+b.length≤1073741824):(d.append nm b).1.pend=d.pend:=by
 obtain⟨no,hf,_⟩:=cont_some hc
 have hu:=h.used
 have hro:=h.room
 rw[h.calm.append_eq hg hf b (by rw[hro];omega)]
 rfl
theorem Cl.sync_pend (h:Cl ex u d) (hg:good nm=true) (hc:cont d nm=some c):(d.sync nm).1.pend=d.pend:=by
 obtain⟨no,hf,_⟩:=cont_some hc
 rw[h.calm.sync_eq hg hf]
 rfl
theorem Cl.syncNames_pend (h:Cl ex u d):d.syncNames.1.pend=[]:=by rw[h.calm.syncNames_eq]
theorem Cl.remove_pend (h:Cl ex u d) (hg:good nm=true) (hc:cont d nm=some c):(d.remove nm).1.pend=d.pend++[.del nm]:=by
 obtain⟨no,hf,_⟩:=cont_some hc
 rw[h.calm.remove_eq hg hf]
 rfl
end
def leftOf (l:List (ByteArray × List UInt8)) (x:ByteArray):Option (List UInt8):=(l.find? fun p=>decide (p.1=x)).map (·.2)
def Chg.hits (x:ByteArray):Chg→Prop
 | .put nm _=>nm=x
 | .del nm=>nm=x
 | .ren a b _=>a=x∨b=x
def Quiet (d:Dsk) (x:ByteArray):Prop:=∀ g∈d.pend,¬ g.hits x
theorem leftOf_left (d:Dsk) (k:Int) (keep:List Int) (x:ByteArray):leftOf (d.left k keep) x=(find (d.namesLeft k) x).map fun no=>(d.data.getD no []).take (d.keepN keep no) :=
 map_find (fun no=>(d.data.getD no []).take (d.keepN keep no)) x (d.namesLeft k)
theorem find_app {l:NM} {g:Chg} {x:ByteArray} (h:¬ g.hits x):find (g.app l) x=find l x:=by
 cases g with
 | put nm no=>show find (put l nm no) x=_;rw[find_put,if_neg (fun e=>h e.symm)]
 | del nm=>show find (del l nm) x=_;rw[find_del,if_neg (fun e=>h e.symm)]
 | ren a b no=>show find (put (del l a) b no) x=_;rw[find_put,if_neg (fun e=>h (.inr e.symm)),find_del,if_neg (fun e=>h (.inl e.symm))]
theorem find_fold {x:ByteArray}:∀ (cs:List Chg) (l:NM),(∀ g∈cs,¬ g.hits x)→find (cs.foldl Chg.app l) x=find l x
 | [],_,_=>rfl
 | g::r,l,h=>by
  rw[List.foldl_cons,find_fold r _ (fun y hy=>h y (List.mem_cons_of_mem _ hy)),find_app (h g (by simp))]
theorem quiet_find {d:Dsk} (ok:d.Ok) {x:ByteArray} (h:Quiet d x) (k:Int):find (d.namesLeft k) x=find d.now x:=by
 unfold Dsk.namesLeft
 rw[find_fold _ _ (fun g hg=>h g (List.mem_of_mem_take hg)),ok.fold,find_fold _ _ h]
theorem take_firm {d:Dsk} {no:Nat} {keep:List Int} (h:d.firm.getD no 0=d.size no):(d.data.getD no []).take (d.keepN keep no)=d.data.getD no []:=by
 apply List.take_of_length_le
 unfold Dsk.keepN
 rw[h]
 exact Nat.le_add_right _ _
theorem left_quiet {d:Dsk} {ex:Option ByteArray} {u:Nat} (h:Cl ex u d) {x:ByteArray} (hx:ex≠some x) (hq:Quiet d x) (k:Int) (keep:List Int):leftOf (d.left k keep) x=cont d x:=by
 rw[leftOf_left,quiet_find h.calm.ok hq]
 unfold cont
 cases hf:find d.now x with
 | none=>rfl
 | some no =>
  rcases h.hard (x,no) (find_mem hf) with e | e
  ·exact absurd e hx
  ·exact congrArg some (take_firm (d:=d) (no:=no) e)
theorem left_append {d:Dsk} {u:Nat} (h:Cl none u d) {nm:ByteArray} {c:List UInt8} (hg:good nm=true) (hc:cont d nm=some c) (hq:Quiet d nm) (b:List UInt8) (hr:u+b.length≤1073741824) (k:Int) (keep:List Int) :
  ∃ m,leftOf ((d.append nm b).1.left k keep) nm=some (c++b.take m):=by
 obtain⟨no,hf,hd⟩:=cont_some hc
 have hu:=h.used
 have hro:=h.room
 have hfi:d.firm.getD no 0=c.length:=by
  rcases h.hard (nm,no) (find_mem hf) with e | e
  ·cases e
  ·rw[← hd]
   exact e
 have hno:=h.calm.ok.inN _ (find_mem hf)
 have he:=h.calm.append_eq hg hf b (by rw[hro];omega)
 obtain⟨D2,e⟩:∃ D2,(d.append nm b).1=D2:=⟨_,rfl⟩
 have e1:D2.data=d.data.set no (d.data.getD no []++b):=by rw[← e,he]<;>rfl
 have e2:D2.firm=d.firm:=by rw[← e,he]<;>rfl
 have e3:D2.namesLeft k=d.namesLeft k:=by rw[← e,he]<;>rfl
 have e4:D2.data.getD no []=c++b:=by
  rw[e1,hd]
  simp [List.getD,hno]
 have hk:c.length≤D2.keepN keep no:=by
  unfold Dsk.keepN
  rw[e2,hfi]
  exact Nat.le_add_right _ _
 rw[e,leftOf_left,e3,quiet_find h.calm.ok hq,hf]
 refine⟨D2.keepN keep no - c.length,?_⟩
 show some ((D2.data.getD no []).take (D2.keepN keep no))=_
 rw[e4,List.take_append,List.take_of_length_le hk]
theorem left_alter {d:Dsk} {g:Chg} (ok:(d.alter g).Ok) (k:Int) (keep:List Int):(d.alter g).left k keep=d.left k keep∨(d.alter g).namesLeft k=(d.alter g).now:=by
 by_cases hk:k.toNat≤d.pend.length
 ·left
  unfold Dsk.left
  have:(d.alter g).namesLeft k=d.namesLeft k:=by
   unfold Dsk.namesLeft
   show ((d.pend++[g]).take k.toNat).foldl Chg.app d.safe=_
   rw[List.take_append_of_le_length hk]
  rw[this]
  rfl
 ·right
  unfold Dsk.namesLeft
  rw[List.take_of_length_le (by show (d.pend++[g]).length≤_;rw[List.length_append,List.length_singleton];omega),← ok.fold]
end D
end Go.Proofs.YtkempjcphpnocaaGreatDoor
