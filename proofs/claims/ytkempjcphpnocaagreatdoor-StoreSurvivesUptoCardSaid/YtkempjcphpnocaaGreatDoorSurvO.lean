/- A store's opening on a disk that may lose its power: done as without faults, or stopped in between; what is left shows the same throughout. No program here. -/
import Derived.Test.YtkempjcphpnocaaGreatDoorSurvT
import Derived.Test.YtkempjcphpnocaaGreatDoorOpG
namespace Go.Proofs.YtkempjcphpnocaaGreatDoor
namespace D
section
variable {c:Dsk} {u:Nat} {ex:Option ByteArray}
theorem Cl.tick (h:Cl ex u c):Cl ex u (D.tick c):=⟨h.calm.tick,h.hard,h.used,h.room⟩
theorem Cl.gone (h:Cl ex u c) (nm:ByteArray):Cl ex u (c.remove nm).1∧(∀ x,x≠nm→cont (c.remove nm).1 x=cont c x)∧∀ g∈(c.remove nm).1.pend,g∈c.pend∨g=.del nm:=by
 by_cases hg:good nm=true
 ·cases hc:cont c nm with
  | none =>
   have e:c.remove nm=(D.tick c,90):=h.calm.onNone (more:=[]) (all_one hg) _ (cont_none hc)
   rw[e]
   exact⟨h.tick,fun _ _=>rfl,fun g hg=>.inl hg⟩
  | some b =>
   obtain⟨_,c1,k1⟩:=h.remove hg hc
   refine⟨c1,fun x hx=>by rw[k1,if_neg hx],fun g hgm=>?_⟩
   rw[h.remove_pend hg hc]at hgm
   rcases List.mem_append.1 hgm with hm | hm
   ·exact .inl hm
   ·exact .inr (List.mem_singleton.1 hm)
 ·have e:c.remove nm=(D.tick c,95):=by
   unfold Dsk.remove Dsk.on Dsk.begin
   rw[h.calm.up,h.calm.fails]
   simp [hg,D.tick,h.calm.fails]
  rw[e]
  exact⟨h.tick,fun _ _=>rfl,fun g hg=>.inl hg⟩
theorem read_at {p:Int} (hp:c.power=-1) (hu:(c.pw p).down=false) (nm:ByteArray):(c.pw p).read nm=c.read nm:=by
 unfold Dsk.read
 rw[hu,show c.down=false by unfold Dsk.down;rw[hp];rfl]
 rfl
theorem read_down (h:c.down=true) (nm:ByteArray):c.read nm=([],93):=by
 unfold Dsk.read
 rw[h]
 rfl
theorem left_made {x:ByteArray} {no:Nat} {p0:List Chg} (hp:c.pend=p0++[.put x no]) (hq:∀ g∈p0,¬ g.hits x) (hs:find c.safe x=none) (hd:c.data.getD no []=[]) (k:Int) (keep:List Int):(leftOf (c.left k keep) x).getD []=[]:=by
 rw[leftOf_left]
 unfold Dsk.namesLeft
 rw[hp]
 by_cases hk:k.toNat≤p0.length
 ·rw[List.take_append_of_le_length hk,find_fold _ _ (fun g hg=>hq g (List.mem_of_mem_take hg)),hs]
  rfl
 ·rw[List.take_of_length_le (by rw[List.length_append,List.length_singleton];omega),List.foldl_append]
  show ((find (put _ x no) x).map _).getD []=[]
  rw[find_put,if_pos rfl]
  show (c.data.getD no []).take _=[]
  rw[hd,List.take_nil]
end
theorem find_filter {l:NM} (hu:Up l) (f:ByteArray × Nat→Bool) (x:ByteArray):find (l.filter f) x=(find l x).bind fun no=>if f (x,no)=true then some no else none:=by
 have hu2:Up (l.filter f):=List.Pairwise.sublist List.filter_sublist hu
 cases hf:find l x with
 | none =>
  cases hg:find (l.filter f) x with
  | none=>rfl
  | some m=>exact absurd rfl (find_none hf _ (List.mem_filter.1 (find_mem hg)).1)
 | some no =>
  show _=if f (x,no)=true then some no else none
  by_cases hb:f (x,no)=true
  ·rw[if_pos hb]
   exact mem_find hu2 (List.mem_filter.2 ⟨find_mem hf,hb⟩)
  ·rw[if_neg hb]
   cases hg:find (l.filter f) x with
   | none=>rfl
   | some m =>
    obtain⟨h1,h2⟩:=List.mem_filter.1 (find_mem hg)
    have h3:=mem_find hu h1
    change find l x=some m at h3
    rw[hf]at h3
    rw[Option.some.inj h3]at hb
    exact absurd h2 hb
end D
theorem R.renum_self:∀ {l:List R.Rc} {k:Nat},R.Seqd k l→R.renum k l=l
 | [],_,_=>rfl
 | r::t,k,h=>by
  rw[R.renum,R.renum_self h.2]
  congr 1
  have:=h.1
  obtain⟨a,b,c,d⟩:=r
  change a=(k:Int) at this
  rw[← this]
namespace S
open D (cont Clm Cl Quiet)
structure Raw (n u:Nat) (c:D.Dsk) (V:ByteArray→Option O.Ent):Prop where
 cl:Cl none u c
 pend:c.pend=[]
 le:n≤4096
 few:(R.replay ((cont c logN).getD [])).1.length≤100
 val:∀ id,view n (cont c) id=V id
section
variable {n u:Nat} {c:D.Dsk} {t:D.NM} {V:ByteArray→Option O.Ent} {F:ByteArray→Option (List UInt8)}
theorem Raw.sees (h:Raw n u c V) (hl:(R.replay ((F logN).getD [])).1=(R.replay ((cont c logN).getD [])).1) (hf:∀ m,m < 4096→F (path m)=cont c (path m)):Sees n V F :=
 ⟨by rw[hl];exact h.few,fun id=>(view_same hl (fun _ _ hn=>hf _ (Nat.lt_of_lt_of_le hn h.le)) id).trans (h.val id)⟩
theorem logOpen_down {d:D.Dsk} (h:d.down=true):logOpen d=(d,0,[],93):=by
 unfold logOpen
 rw[D.list_down h,show (if has [] newN=true then d.remove newN else (d,0))=(d,0) from rfl]
 dsimp only
 rw[if_neg (show ¬ (0:Int)≠0 by decide),D.read_down h]
 rfl
set_option maxHeartbeats 1000000 in
theorem Raw.log_ways (h:Raw n u c V) (hu:u≤1000000000) (π:Int) :
  ((logOpen (c.pw π)).2.2.2≠0∧Stop π (logOpen (c.pw π)).1 (Sees n V)) ∨
  (∃ c1 rs,logOpen (c.pw π)=(c1.pw π,rs.length,rs,0)∧Held n (u+411100) c1 V∧rs=(R.replay ((cont c1 logN).getD [])).1):=by
 have hpw:=h.cl.calm.power
 have hq:∀ x,Quiet c x:=fun x g hg=>by rw[h.pend]at hg;cases hg
 by_cases hd:(c.pw π).down=true
 ·rw[logOpen_down hd]
  exact .inl ⟨show (93:Int)≠0 by decide,c,rfl,hd,hpw,fun k keep=>h.sees (by rw[D.left_quiet h.cl (by simp) (hq _) k keep]) (fun m _=>D.left_quiet h.cl (by simp) (hq _) k keep)⟩
 have hdf:(c.pw π).down=false:=by simpa using hd
 obtain⟨c0,e0,hc0,hn0,k0,q0⟩:∃ c0:D.Dsk,(if has (c.pw π).list newN=true then (c.pw π).remove newN else (c.pw π,0))=(c0.pw π,0)∧Cl none u c0∧cont c0 newN=none∧(∀ x,x≠newN→cont c0 x=cont c x)∧∀ x,x≠newN→Quiet c0 x:=by
  rw[D.list_at hpw hdf]
  by_cases hn:has c.list newN=true
  ·rw[if_pos hn,D.remove_at hpw,if_neg hd]
   rw[has_iff,h.cl.calm.mem]at hn
   obtain⟨b,hb⟩:=Option.isSome_iff_exists.1 hn
   obtain⟨e1,c1,k1⟩:=h.cl.remove new_good hb
   refine⟨(c.remove newN).1,by unfold D.lift;rw[e1],c1,by rw[k1,if_pos rfl],fun x hx=>by rw[k1,if_neg hx],fun x hx g hg=>?_⟩
   rw[h.cl.remove_pend new_good hb,h.pend,List.nil_append,List.mem_singleton]at hg
   subst hg
   exact fun e=>hx e.symm
  ·rw[if_neg hn]
   refine⟨c,rfl,h.cl,?_,fun _ _=>rfl,fun x _=>hq x⟩
   cases hb:cont c newN with
   | none=>rfl
   | some b=>exact absurd (has_iff.2 ((h.cl.calm.mem _).2 (by rw[hb];rfl))) hn
 have hln:logN≠newN:=fun e=>new_log e.symm
 have k0l:=k0 logN hln
 have k0p:∀ m,m < 4096→cont c0 (path m)=cont c (path m):=fun m hm=>k0 _ (path_new hm)
 have hR:∀ F:ByteArray→Option (List UInt8),(R.replay ((F logN).getD [])).1=(R.replay ((cont c0 logN).getD [])).1→(∀ m,m < 4096→F (path m)=cont c0 (path m))→Sees n V F:=fun F f1 f2=>h.sees (by rw[f1,k0l]) (fun m hm=>(f2 m hm).trans (k0p m hm))
 have hv0:∀ id,view n (cont c0) id=V id:=(hR (cont c0) rfl (fun _ _=>rfl)).2
 have hfew:(R.replay ((cont c0 logN).getD [])).1.length≤100:=by rw[k0l];exact h.few
 unfold logOpen
 rw[e0]
 dsimp only
 rw[if_neg (show ¬ (0:Int)≠0 by decide)]
 by_cases hd0:(c0.pw π).down=true
 ·rw[D.read_down hd0]
  dsimp only
  rw[if_neg (show ¬ (93:Int)=90 by decide),if_pos (show (93:Int)≠0 by decide)]
  exact .inl ⟨show (93:Int)≠0 by decide,c0,rfl,hd0,hc0.calm.power,fun k keep=>hR _ (by rw[D.left_quiet hc0 (by simp) (q0 _ hln) k keep]) (fun m hm=>D.left_quiet hc0 (by simp) (q0 _ (path_new hm)) k keep)⟩
 rw[D.read_at hc0.calm.power (by simpa using hd0),hc0.calm.read log_good]
 cases hb:cont c0 logN with
 | none =>
  dsimp only
  rw[if_pos rfl]
  obtain⟨e1,c1,k1⟩:=hc0.create log_good hb
  have q1:=hc0.create_pend log_good hb
  obtain⟨e2,c2,k2⟩:=c1.sync log_good (c:=[]) (by rw[k1,if_pos rfl]) (.inl rfl)
  have q2:=c1.sync_pend log_good (c:=[]) (by rw[k1,if_pos rfl])
  obtain⟨e3,c3,k3⟩:=c2.syncNames
  have q3:=c2.syncNames_pend
  have hsafe:D.find c0.safe logN=none:=by
   have h1:=hc0.calm.ok.fold
   have h2:=D.cont_none hb
   rw[h1,D.find_fold _ _ (q0 _ hln)]at h2
   exact h2
  have x1:(c0.create logN).1.safe=c0.safe∧(c0.create logN).1.data.getD c0.data.length []=[]:=by
   rw[hc0.calm.create_eq log_good hb]
   refine⟨rfl,?_⟩
   show (c0.data++[([]:List UInt8)]).getD c0.data.length []=[]
   simp [List.getD]
  obtain⟨nf,hnf,_⟩:=D.cont_some (show cont (c0.create logN).1 logN=some [] by rw[k1,if_pos rfl])
  have x2:((c0.create logN).1.sync logN).1.safe=(c0.create logN).1.safe∧((c0.create logN).1.sync logN).1.data=(c0.create logN).1.data:=by
   rw[c1.calm.sync_eq log_good hnf]
   exact⟨rfl,rfl⟩
  have hkp:∀ m,m < 4096→path m≠logN:=fun m hm=>path_log hm
  have hqp:∀ (d:D.Dsk),d.pend=c0.pend++[.put logN c0.data.length]→∀ m,m < 4096→Quiet d (path m):=fun d hp m hm g hg=>by
   rw[hp]at hg
   rcases List.mem_append.1 hg with hg | hg
   ·exact q0 _ (path_new hm) g hg
   ·rw[List.mem_singleton.1 hg]
    exact fun e=>path_log hm e.symm
  have hz:∀ F:ByteArray→Option (List UInt8),(F logN).getD []=[]→(R.replay ((F logN).getD [])).1=(R.replay ((cont c0 logN).getD [])).1:=fun F f=>by rw[f,hb];rfl
  generalize hD1:(c0.create logN).1=D1 at *
  generalize hD2:(D1.sync logN).1=D2 at *
  generalize hD3:D2.syncNames.1=D3 at *
  have f1:(c0.pw π).create logN=(D1.pw π,0):=by
   rw[D.create_at hc0.calm.power,if_neg hd0]
   unfold D.lift
   rw[hD1,e1]
  by_cases d1:(D1.pw π).down=true
  ·have hs:steps (c0.pw π) firsts=(D1.pw π,1,93):=by simp [steps,firsts,f1,D.sync_down d1]
   rw[hs]
   dsimp only
   rw[if_pos (show (93:Int)≠0 by decide)]
   exact .inl ⟨show (93:Int)≠0 by decide,D1,rfl,d1,c1.calm.power,fun k keep=>hR _ (hz _ (D.left_made q1 (q0 _ hln) (by rw[x1.1];exact hsafe) x1.2 k keep)) (fun m hm=>(D.left_quiet c1 (by simp) (hqp D1 q1 m hm) k keep).trans (by rw[k1,if_neg (hkp m hm)]))⟩
  have f2:(D1.pw π).sync logN=(D2.pw π,0):=by
   rw[D.sync_at c1.calm.power,if_neg d1]
   unfold D.lift
   rw[hD2,e2]
  by_cases d2:(D2.pw π).down=true
  ·have hs:steps (c0.pw π) firsts=(D2.pw π,2,93):=by simp [steps,firsts,f1,f2,D.syncNames_down d2]
   rw[hs]
   dsimp only
   rw[if_pos (show (93:Int)≠0 by decide)]
   exact .inl ⟨show (93:Int)≠0 by decide,D2,rfl,d2,c2.calm.power,fun k keep=>hR _ (hz _ (D.left_made (q2.trans q1) (q0 _ hln) (by rw[x2.1,x1.1];exact hsafe) (by rw[x2.2];exact x1.2) k keep)) (fun m hm=>(D.left_quiet c2 (by simp) (hqp D2 (q2.trans q1) m hm) k keep).trans (by rw[k2,k1,if_neg (hkp m hm)]))⟩
  have f3:(D2.pw π).syncNames=(D3.pw π,0):=by
   rw[D.syncNames_at c2.calm.power,if_neg d2]
   unfold D.lift
   rw[hD3,e3]
  have hs:steps (c0.pw π) firsts=(D3.pw π,3,0):=by simp [steps,firsts,f1,f2,f3]
  rw[hs]
  dsimp only
  rw[if_neg (show ¬ (0:Int)≠0 by decide),if_neg (by show ¬ _ < 0;exact Nat.not_lt_zero _)]
  have hl3:cont D3 logN=some []:=by rw[k3,k2,k1,if_pos rfl]
  have hqq:∀ x,Quiet D3 x:=fun x g hg=>by rw[q3]at hg;cases hg
  have hs3:=hR (cont D3) (by rw[hl3,hb];rfl) (fun m hm=>by rw[k3,k2,k1,if_neg (hkp m hm)])
  exact .inr ⟨D3,[],rfl,⟨c3.mono (by omega),by rw[k3,k2,k1,if_neg new_log,hn0],hqq _,h.le,⟨_,hl3⟩,hs3.1,fun _ _ _=>hqq _,hs3.2⟩,by rw[hl3];rfl⟩
 | some b =>
  dsimp only
  rw[if_neg (show ¬ (0:Int)=90 by decide)]
  dsimp only
  rw[if_neg (show ¬ (0:Int)≠0 by decide)]
  have hgd:=R.replay_good b
  have hb1:(R.replay ((cont c0 logN).getD [])).1=(R.replay b).1:=by rw[hb];rfl
  rw[hb1]at hfew
  by_cases hlt:(R.replay b).2 < b.length
  ·rw[if_pos hlt]
   have hself:=R.renum_self hgd.seq
   have henc:∀ F:ByteArray→Option (List UInt8),F logN=some (R.encs (R.replay b).1)→(R.replay ((F logN).getD [])).1=(R.replay ((cont c0 logN).getD [])).1:=fun F f=>by
    rw[f,hb]
    show (R.replay (R.encs _)).1=_
    rw[R.replay_encs hgd]
    rfl
   rcases rewrite_stops hc0 hb hn0 (q0 _ hln) 0 (R.replay b).1 (by rw[hself];exact hgd.code) (by omega) π with ⟨hne,hst⟩ | ⟨r1,r2⟩
   ·rw[if_pos hne]
    refine .inl ⟨hne,stop_mono hst fun F f=>hR F ?_ (fun m hm=>f.2 _ (path_log hm) (path_new hm) (q0 _ (path_new hm)))⟩
    rcases f.1 with f1 | f1
    ·rw[f1,hb]
    ·exact henc F (by rw[f1,hself])
   ·obtain⟨w1,w2,w3⟩:=rewrite_cl hc0 hb hn0 0 (R.replay b).1 (by rw[hself];exact hgd.code) (by omega)
    rw[hself]at w3
    rw[if_neg (by rw[r1];show ¬ (rewrite c0 0 (R.replay b).1).2.2≠0;rw[w1];exact fun h=>h rfl),r1]
    have hl3:cont (rewrite c0 0 (R.replay b).1).1 logN=some (R.encs (R.replay b).1):=by rw[w3,if_pos rfl]
    have hqq:∀ x,Quiet (rewrite c0 0 (R.replay b).1).1 x:=fun x g hg=>by rw[r2]at hg;cases hg
    have hs3:=hR (cont (rewrite c0 0 (R.replay b).1).1) (henc _ hl3) (fun m hm=>by rw[w3,if_neg (path_log hm)])
    exact .inr ⟨_,_,rfl,⟨w2.mono (by omega),by rw[w3,if_neg new_log,hn0],hqq _,h.le,⟨_,hl3⟩,hs3.1,fun _ _ _=>hqq _,hs3.2⟩,by rw[hl3];show _=(R.replay (R.encs _)).1;rw[R.replay_encs hgd]⟩
  ·rw[if_neg hlt]
   exact .inr ⟨c0,_,rfl,⟨hc0.mono (by omega),hn0,q0 _ hln,h.le,⟨_,hb⟩,by rw[hb1];exact hfew,fun p _ hn=>q0 _ (path_new (Nat.lt_of_lt_of_le hn h.le)),hv0⟩,hb1.symm⟩
theorem read_cont (h:Cl none u c) {no:Nat} (hn:no < 4096):read c no=(cont c (path no)).bind O.dec:=by
 unfold read
 rw[h.calm.read (path_good hn)]
 cases cont c (path no)<;>rfl
theorem Held.tab (h:Held n u c V):Tab n c ((tabOf (R.replay ((cont c logN).getD [])).1).filter (sound c n)) V:=by
 have hup:=tabOf_up (R.replay ((cont c logN).getD [])).1
 have hlen:=tabOf_len (R.replay ((cont c logN).getD [])).1
 have hid:=tabOf_id (R.replay_id ((cont c logN).getD []))
 have hfew:=h.few
 have hv:=h.val
 have hso:∀ p,sound c n p=true→p.2 < n∧∃ E,(cont c (path p.2)).bind O.dec=some E∧idOf E=p.1:=fun p hp=>by
  unfold sound at hp
  rw[Bool.and_eq_true,decide_eq_true_eq]at hp
  obtain⟨h1,h2⟩:=hp
  rw[read_cont h.cl (Nat.lt_of_lt_of_le h1 h.le)]at h2
  refine⟨h1,?_⟩
  cases hx:(cont c (path p.2)).bind O.dec with
  | none=>rw[hx]at h2;cases h2
  | some E=>rw[hx]at h2;exact⟨E,rfl,of_decide_eq_true h2⟩
 unfold view at hv
 obtain⟨t0,ht0⟩:∃ t0,tabOf (R.replay ((cont c logN).getD [])).1=t0:=⟨_,rfl⟩
 rw[ht0]at hup hlen hid ⊢
 simp only[ht0]at hv
 refine⟨List.Pairwise.sublist List.filter_sublist hup,fun p hp=>?_,?_,fun p hp=>?_,fun id=>?_⟩
 ·rw[ht0]
  exact (List.mem_filter.1 hp).1
 ·exact Nat.le_trans (List.length_filter_le _ _) (by omega)
 ·obtain⟨h1,h2⟩:=List.mem_filter.1 hp
  exact⟨(hso p h2).1,hid p h1,(hso p h2).2⟩
 ·rw[← hv id,D.find_filter hup]
  cases D.find t0 id with
  | none=>rfl
  | some no =>
   show (if no < n then ((cont c (path no)).bind O.dec).bind _ else none)=(if sound c n (id,no)=true then some no else none).bind _
   by_cases hs:sound c n (id,no)=true
   ·obtain⟨h1,E,h2,h3⟩:=hso _ hs
    change no < n at h1
    change (cont c (path no)).bind O.dec=some E at h2
    change idOf E=id at h3
    rw[if_pos hs,if_pos h1,h2]
    show (if idOf E=id then some E else none)=(cont c (path no)).bind O.dec
    rw[if_pos h3,h2]
   ·rw[if_neg hs]
    show _=none
    by_cases h1:no < n
    ·rw[if_pos h1]
     unfold sound at hs
     dsimp only at hs
     rw[read_cont h.cl (Nat.lt_of_lt_of_le h1 h.le)]at hs
     cases hx:(cont c (path no)).bind O.dec with
     | none=>rfl
     | some E =>
      rw[hx]at hs
      show (if idOf E=id then some E else none)=none
      rw[if_neg (fun e=>hs (by simp [h1,e]))]
    ·rw[if_neg h1]
theorem sweep_ways (t:D.NM) (π:Int):∀ (l:List ByteArray) {c:D.Dsk},Cl none u c→∃ c3:D.Dsk,l.foldl (fun d nm=>if (t.all fun p=>decide (path p.2≠nm))&&isO nm then (d.remove nm).1 else d) (c.pw π)=c3.pw π∧Cl none u c3∧∀ x,(isO x=false∨∃ p∈t,x=path p.2)→cont c3 x=cont c x∧(Quiet c x→Quiet c3 x)
 | [],c,h=>⟨c,rfl,h,fun _ _=>⟨rfl,id⟩⟩
 | nm::r,c,h=>by
  rw[List.foldl_cons]
  by_cases hc:((t.all fun p=>decide (path p.2≠nm))&&isO nm)=true
  ·rw[if_pos hc,D.remove_at h.calm.power]
   by_cases hd:(c.pw π).down=true
   ·rw[if_pos hd]
    exact sweep_ways t π r h
   ·rw[if_neg hd]
    obtain⟨g1,g2,g3⟩:=h.gone nm
    obtain⟨c3,e3,h3,k3⟩:=sweep_ways t π r g1
    refine⟨c3,e3,h3,fun x hx=>?_⟩
    rw[Bool.and_eq_true]at hc
    have hne:x≠nm:=by
     rintro rfl
     rcases hx with hx | ⟨p,hp,e⟩
     ·rw[hx]at hc;exact absurd hc.2 (by decide)
     ·have:=List.all_eq_true.1 hc.1 p hp
      simp [e]at this
    obtain⟨a1,a2⟩:=k3 x hx
    refine⟨a1.trans (g2 x hne),fun hq=>a2 fun g hg=>?_⟩
    rcases g3 g hg with hg | rfl
    ·exact hq g hg
    ·exact fun e=>hne e.symm
  ·rw[if_neg hc]
   exact sweep_ways t π r h
theorem sweep_down {d:D.Dsk} (h:d.down=true) (t:D.NM):sweep d t=d:=by
 unfold sweep
 rw[D.list_down h]
 rfl
set_option maxHeartbeats 1000000 in
theorem Raw.open_ways (h:Raw n u c V) (hu:u≤900000000) (π:Int) :
  Stop π (open_ (c.pw π) n).1 (Sees n V)∨∃ s:Sto,open_ (c.pw π) n=(s.d.pw π,some (s.pw π),0)∧Held n (u+1300000) s.d V∧Tab n s.d s.tab V:=by
 rw[open_eq _ h.le]
 rcases h.log_ways (by omega) π with ⟨h1,h2⟩ | ⟨c1,rs,h1,hH,hrs⟩
 ·rw[if_pos h1]
  exact .inl h2
 rw[h1,if_neg (show ¬ (0:Int)≠0 by decide)]
 by_cases hd:(c1.pw π).down=true
 ·left
  have hst:Stop π (c1.pw π) (Sees n V):=⟨c1,rfl,hd,hH.cl.calm.power,hH.left⟩
  have hm:(mended (c1.pw π,rs.length,rs,0) n).1.d=c1.pw π:=by
   unfold mended
   split
   ·exact rewrite_down (d:=c1.pw π) hd _ _
   ·rfl
  split
  ·show Stop π (mended (c1.pw π,rs.length,rs,0) n).1.d _
   rw[hm]
   exact hst
  ·have hsw:sweep (mended (c1.pw π,rs.length,rs,0) n).1.d (told (c1.pw π,rs.length,rs,0) n).tab=c1.pw π:=by rw[hm,sweep_down hd]
   show Stop π (Sto.tidy { (mended (c1.pw π,rs.length,rs,0) n).1 with d:=sweep _ _ }).d _
   rw[tidy_down (by show (sweep _ _).down=true;rw[hsw];exact hd)]
   show Stop π (sweep _ _) _
   rw[hsw]
   exact hst
 have hdf:(c1.pw π).down=false:=by simpa using hd
 have hsd:sound (c1.pw π) n=sound c1 n:=by
  funext p
  unfold sound read
  rw[D.read_at hH.cl.calm.power hdf]
 have hT:=hH.tab
 rw[← hrs]at hT
 have hfl:=List.length_filter_le (sound c1 n) (tabOf rs)
 obtain⟨t,ht⟩:∃ t,(tabOf rs).filter (sound c1 n)=t:=⟨_,rfl⟩
 rw[ht]at hT hfl
 have htold:told (c1.pw π,rs.length,rs,0) n=⟨c1.pw π,rs.length,t,marks n t⟩:=by
  unfold told
  dsimp only
  rw[hsd,ht]
 rw[htold]
 have hkey:(∃ x,mended (c1.pw π,rs.length,rs,0) n=x∧x.2≠0∧Stop π x.1.d (Sees n V))∨∃ c2 cnt,mended (c1.pw π,rs.length,rs,0) n=((⟨c2.pw π,cnt,t,marks n t⟩:Sto),0)∧Held n (u+822200) c2 V∧Tab n c2 t V∧tabOf (R.replay ((cont c2 logN).getD [])).1=t:=by
  unfold mended
  rw[htold]
  dsimp only
  by_cases hlt:t.length < (tabOf rs).length
  ·rw[if_pos hlt]
   unfold Sto.rewrite
   dsimp only
   rcases hH.rewrite hT (by omega) rs.length π with ⟨w1,w2⟩ | ⟨w1,w2,w3,w4,w5⟩
   ·exact .inl ⟨_,rfl,w1,w2⟩
   ·rw[w1]
    refine .inr ⟨_,_,rfl,⟨w4.cl.mono (by omega),w4.new,w4.qlog,w4.le,w4.log,w4.few,w4.qt,w4.val⟩,w5,?_⟩
    obtain⟨b0,hb0⟩:=hH.log
    have hrl:(records t).length=t.length:=by unfold records;rw[List.length_map]
    have hl:=hT.len
    have hg:=records_good (t:=t) (fun p hp=>⟨Nat.lt_of_lt_of_le (hT.ent p hp).1 h.le,(hT.ent p hp).2.1⟩) (by omega)
    obtain⟨_,_,e3⟩:=rewrite_cl hH.cl hb0 hH.new rs.length (records t) hg.code (by rw[hrl];omega)
    rw[e3,if_pos rfl]
    show tabOf (R.replay (R.encs _)).1=_
    rw[R.replay_encs hg]
    exact tab_records hT.up
  ·rw[if_neg hlt]
   have hte:t=tabOf rs:=by
    have hsub:t.Sublist (tabOf rs):=by rw[← ht];exact List.filter_sublist
    exact hsub.eq_of_length (by omega)
   exact .inr ⟨c1,_,rfl,⟨hH.cl.mono (by omega),hH.new,hH.qlog,hH.le,hH.log,hH.few,hH.qt,hH.val⟩,hT,by rw[← hrs];exact hte.symm⟩
 rcases hkey with ⟨x,x1,x2,x3⟩ | ⟨c2,cnt,x1,hH2,hT2,htb⟩
 ·rw[x1,if_pos x2]
  exact .inl x3
 rw[x1,if_neg (show ¬ (0:Int)≠0 by decide)]
 dsimp only
 obtain⟨c3,e3,h3,k3⟩:∃ c3:D.Dsk,sweep (c2.pw π) t=c3.pw π∧Cl none (u+822200) c3∧∀ x,(isO x=false∨∃ p∈t,x=path p.2)→cont c3 x=cont c2 x∧(Quiet c2 x→Quiet c3 x):=sweep_ways t π _ hH2.cl
 rw[e3]
 obtain⟨l1,l2⟩:=k3 logN (.inl (by decide))
 obtain⟨l3,_⟩:=k3 newN (.inl (by decide))
 have kp:∀ p∈t,cont c3 (path p.2)=cont c2 (path p.2)∧(Quiet c2 (path p.2)→Quiet c3 (path p.2)):=fun p hp=>k3 _ (.inr ⟨p,hp,rfl⟩)
 have hH3:Held n (u+822200) c3 V:=by
  refine⟨h3,l3.trans hH2.new,l2 hH2.qlog,h.le,by rw[l1];exact hH2.log,by rw[l1];exact hH2.few,fun p hp hn=>?_,fun id=>(view_same (by rw[l1]) (fun p hp _=>?_) id).trans (hH2.val id)⟩
  ·rw[l1]at hp
   exact (kp p (by rw[← htb];exact hp)).2 (hH2.qt p hp hn)
  ·exact (kp p (by rw[← htb];exact hp)).1
 have hT3:Tab n c3 t V:=by
  refine⟨hT2.up,by rw[l1];exact hT2.sub,hT2.len,fun p hp=>by rw[(kp p hp).1];exact hT2.ent p hp,fun id=>?_⟩
  rw[hT2.val]
  cases hfi:D.find t id with
  | none=>rfl
  | some no =>
   show (cont c2 (path no)).bind O.dec=(cont c3 (path no)).bind O.dec
   rw[(kp _ (D.find_mem hfi)).1]
 rcases hH3.tidy_ways (s:=⟨c3,cnt,t,marks n t⟩) hT3 (by omega) π with hS | ⟨w1,_,w3,w4⟩
 ·exact .inl hS
 ·refine .inr ⟨(⟨c3,cnt,t,marks n t⟩:Sto).tidy,?_,⟨w3.cl.mono (by omega),w3.new,w3.qlog,w3.le,w3.log,w3.few,w3.qt,w3.val⟩,by rw[tidy_tab];exact w4⟩
  change (⟨c3.pw π,cnt,t,marks n t⟩:Sto).tidy=_ at w1
  rw[w1]
  rfl
theorem Raw.opened (h:Raw n u c V) (hu:u≤900000000):∃ s:Sto,open_ c n=(s.d,some s,0)∧D.Up s.tab∧s.tab.length≤100∧(∀ p∈s.tab,p.2 < 4096∧p.1.size≤4096)∧(∀ id,s.get id=V id)∧∀ id∈s.ids,(V id).isSome=true:=by
 have hpw:=h.cl.calm.power
 have e:c.pw (-1)=c:=by
  unfold D.Dsk.pw
  rw[← hpw]
 rcases h.open_ways hu (-1) with ⟨c',_,hd,_⟩ | ⟨s,h1,h2,h3⟩
 ·rw[D.pw_down]at hd
  cases hd
 ·have e2:s.d.pw (-1)=s.d:=by
   unfold D.Dsk.pw
   rw[← h2.cl.calm.power]
  have e3:s.pw (-1)=s:=by
   unfold Sto.pw
   rw[e2]
  rw[e,e2,e3]at h1
  have h4:∀ p∈s.tab,p.2 < 4096:=fun p hp=>Nat.lt_of_lt_of_le (h3.ent p hp).1 h.le
  refine⟨s,h1,h3.up,h3.len,fun p hp=>⟨h4 p hp,(h3.ent p hp).2.1⟩,fun id=>?_,fun id hid=>?_⟩
  ·rw[h3.val]
   unfold Sto.get
   cases hf:D.find s.tab id with
   | none=>rfl
   | some no=>exact read_cont h2.cl (h4 _ (D.find_mem hf))
  ·unfold Sto.ids at hid
   obtain⟨p,hp,rfl⟩:=List.mem_map.1 hid
   obtain⟨_,_,E,h5,_⟩:=h3.ent p hp
   rw[h3.val,D.mem_find h3.up hp]
   show ((cont s.d (path p.2)).bind O.dec).isSome=true
   rw[h5]
   rfl
end
end S
end Go.Proofs.YtkempjcphpnocaaGreatDoor
