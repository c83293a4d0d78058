/- A store's steps on a disk that may lose its power: done as without faults, or stopped in between, and what a store opened over what is left shows then. No program here. -/
import Derived.Test.YtkempjcphpnocaaGreatDoorZ23
namespace Go.Proofs.YtkempjcphpnocaaGreatDoor
namespace S
open D (cont Clm Cl Quiet)
def Sto.pw (s:Sto) (p:Int):Sto:={ s with d:=s.d.pw p }
def Sees (n:Nat) (V:ByteArray→Option O.Ent) (F:ByteArray→Option (List UInt8)):Prop:=(R.replay ((F logN).getD [])).1.length≤100∧∀ id,view n F id=V id
structure Held (n u:Nat) (c:D.Dsk) (V:ByteArray→Option O.Ent):Prop where
 cl:Cl none u c
 new:cont c newN=none
 qlog:Quiet c logN
 le:n≤4096
 log:∃ b,cont c logN=some b
 few:(R.replay ((cont c logN).getD [])).1.length≤100
 qt:∀ p∈tabOf (R.replay ((cont c logN).getD [])).1,p.2 < n→Quiet c (path p.2)
 val:∀ id,view n (cont c) id=V id
structure Tab (n:Nat) (c:D.Dsk) (t:D.NM) (V:ByteArray→Option O.Ent):Prop where
 up:D.Up t
 sub:∀ p∈t,p∈tabOf (R.replay ((cont c logN).getD [])).1
 len:t.length≤100
 ent:∀ p∈t,p.2 < n∧p.1.size≤4096∧∃ E,(cont c (path p.2)).bind O.dec=some E∧idOf E=p.1
 val:∀ id,V id=(D.find t id).bind fun no=>(cont c (path no)).bind O.dec
section
variable {n i u:Nat} {s:Sto} {c:D.Dsk} {t:D.NM} {V W:ByteArray→Option O.Ent} {F G:ByteArray→Option (List UInt8)}
theorem view_same (hl:(R.replay ((F logN).getD [])).1=(R.replay ((G logN).getD [])).1) (hf:∀ p∈tabOf (R.replay ((G logN).getD [])).1,p.2 < n→F (path p.2)=G (path p.2)) (id:ByteArray):view n F id=view n G id:=by
 unfold view
 rw[hl]
 cases hfi:D.find (tabOf (R.replay ((G logN).getD [])).1) id with
 | none=>rfl
 | some no =>
  show (if no < n then ((F (path no)).bind O.dec).bind _ else none)=(if no < n then ((G (path no)).bind O.dec).bind _ else none)
  by_cases hn:no < n
  ·rw[if_pos hn,if_pos hn,hf _ (D.find_mem hfi) hn]
  ·rw[if_neg hn,if_neg hn]
theorem Held.sees (h:Held n u c V) (hl:F logN=cont c logN) (hf:∀ p∈tabOf (R.replay ((cont c logN).getD [])).1,p.2 < n→F (path p.2)=cont c (path p.2)):Sees n V F :=
 ⟨by rw[hl];exact h.few,fun id=>(view_same (by rw[hl]) hf id).trans (h.val id)⟩
theorem Held.left (h:Held n u c V) (k:Int) (keep:List Int):Sees n V (D.leftOf (c.left k keep)) :=
 h.sees (D.left_quiet h.cl (by simp) h.qlog k keep) (fun p hp hn=>D.left_quiet h.cl (by simp) (h.qt p hp hn) k keep)
theorem Tab.sees (h:Tab n c t V) (hl:tabOf (R.replay ((F logN).getD [])).1=t) (hk:(R.replay ((F logN).getD [])).1.length≤100) (hf:∀ p∈t,F (path p.2)=cont c (path p.2)):Sees n V F:=by
 refine⟨hk,fun id=>?_⟩
 unfold view
 rw[hl,h.val]
 cases hfi:D.find t id with
 | none=>rfl
 | some no =>
  obtain⟨h1,_,E,h2,h3⟩:=h.ent _ (D.find_mem hfi)
  have h5:=hf _ (D.find_mem hfi)
  change F (path no)=cont c (path no) at h5
  change (cont c (path no)).bind O.dec=some E at h2
  change idOf E=id at h3
  show (if no < n then ((F (path no)).bind O.dec).bind _ else none)=(cont c (path no)).bind O.dec
  rw[if_pos h1,h5,h2]
  show (if idOf E=id then some E else none)=some E
  exact if_pos h3
theorem stop_mono {π:Int} {x:D.Dsk} {P Q:(ByteArray→Option (List UInt8))→Prop} (h:Stop π x P) (hi:∀ F,P F→Q F):Stop π x Q:=by
 obtain⟨c',h1,h2,h3,h4⟩:=h
 exact⟨c',h1,h2,h3,fun k keep=>hi _ (h4 k keep)⟩
theorem Held.rewrite (h:Held n u c V) (ht:Tab n c t V) (hu:u≤1000000000) (count:Nat) (π:Int) :
  ((S.rewrite (c.pw π) count (records t)).2.2≠0∧Stop π (S.rewrite (c.pw π) count (records t)).1 (Sees n V)) ∨
  (S.rewrite (c.pw π) count (records t)=((S.rewrite c count (records t)).1.pw π,t.length,0)∧(S.rewrite c count (records t)).2=(t.length,0)∧(S.rewrite c count (records t)).1.pend=[]∧Held n (u+411100) (S.rewrite c count (records t)).1 V∧Tab n (S.rewrite c count (records t)).1 t V):=by
 obtain⟨b0,hb0⟩:=h.log
 have hlen:=ht.len
 have h4:∀ p∈t,p.2 < 4096:=fun p hp=>Nat.lt_of_lt_of_le (ht.ent p hp).1 h.le
 have hrl:(records t).length=t.length:=by unfold records;rw[List.length_map]
 have hg:=records_good (t:=t) (fun p hp=>⟨h4 p hp,(ht.ent p hp).2.1⟩) (by omega)
 have hq:∀ p∈t,Quiet c (path p.2):=fun p hp=>h.qt p (ht.sub p hp) (ht.ent p hp).1
 have hnew:∀ F:ByteArray→Option (List UInt8),F logN=some (R.encs (R.renum 0 (records t)))→(∀ p∈t,F (path p.2)=cont c (path p.2))→tabOf (R.replay ((F logN).getD [])).1=t∧(R.replay ((F logN).getD [])).1.length≤100∧Sees n V F:=fun F f1 f2=>by
  have e1:tabOf (R.replay ((F logN).getD [])).1=t:=by
   rw[f1]
   show tabOf (R.replay (R.encs _)).1=_
   rw[R.replay_encs hg]
   exact tab_records ht.up
  have e2:(R.replay ((F logN).getD [])).1.length≤100:=by
   rw[f1]
   show (R.replay (R.encs _)).1.length≤100
   rw[R.replay_encs hg,R.renum_len,hrl]
   exact hlen
  exact⟨e1,e2,ht.sees e1 e2 f2⟩
 rcases rewrite_stops h.cl hb0 h.new h.qlog count (records t) hg.code (by rw[hrl];omega) π with ⟨hne,hst⟩ | ⟨r1,r2⟩
 ·refine .inl ⟨hne,?_⟩
  obtain⟨c',s1,s2,s3,s4⟩:=hst
  refine⟨c',s1,s2,s3,fun k keep=>?_⟩
  obtain⟨f1,f2⟩:=s4 k keep
  have f3:∀ p:ByteArray × Nat,p.2 < n→Quiet c (path p.2)→D.leftOf (c'.left k keep) (path p.2)=cont c (path p.2):=fun p hp hx=>f2 _ (path_log (Nat.lt_of_lt_of_le hp h.le)) (path_new (Nat.lt_of_lt_of_le hp h.le)) hx
  rcases f1 with f1 | f1
  ·exact h.sees (f1.trans hb0.symm) (fun p hp hn=>f3 p hn (h.qt p hp hn))
  ·exact (hnew _ f1 (fun p hp=>f3 p (ht.ent p hp).1 (hq p hp))).2.2
 ·obtain⟨e1,e2,e3⟩:=rewrite_cl h.cl hb0 h.new count (records t) hg.code (by rw[hrl];omega)
  rw[hrl]at e1 e2
  have k1:cont (S.rewrite c count (records t)).1 logN=some (R.encs (R.renum 0 (records t))):=by rw[e3,if_pos rfl]
  have k2:∀ p∈t,cont (S.rewrite c count (records t)).1 (path p.2)=cont c (path p.2):=fun p hp=>by rw[e3,if_neg (path_log (h4 p hp))]
  obtain⟨m1,m2,m3,m4⟩:=hnew _ k1 k2
  have hqq:∀ x,Quiet (S.rewrite c count (records t)).1 x:=fun x g hg=>by rw[r2]at hg;cases hg
  refine .inr ⟨by rw[r1,e1],e1,r2,⟨e2.mono (by omega),by rw[e3,if_neg new_log,h.new],hqq _,h.le,⟨_,k1⟩,m2,fun _ _ _=>hqq _,m4⟩,ht.up,fun p hp=>by rw[m1];exact hp,hlen,fun p hp=>?_,fun id=>?_⟩
  ·rw[k2 p hp]
   exact ht.ent p hp
  ·rw[ht.val]
   cases hfi:D.find t id with
   | none=>rfl
   | some no =>
    show (cont c (path no)).bind O.dec=(cont _ (path no)).bind O.dec
    rw[k2 _ (D.find_mem hfi)]
theorem tidy_down {s:Sto} (h:s.d.down=true):s.tidy.d=s.d:=by
 unfold Sto.tidy
 split
 ·rfl
 ·exact rewrite_down h _ _
theorem Held.tidy_ways (h:Held n u s.d V) (ht:Tab n s.d s.tab V) (hu:u≤1000000000) (π:Int) :
  Stop π (s.pw π).tidy.d (Sees n V)∨((s.pw π).tidy=s.tidy.pw π∧(s.tidy.d.pend=[]∨s.tidy.d.pend=s.d.pend)∧Held n (u+411100) s.tidy.d V∧Tab n s.tidy.d s.tab V):=by
 by_cases hc:s.count≤2 * s.tab.length+16
 ·have e:s.tidy=s:=if_pos hc
  have e2:(s.pw π).tidy=s.pw π:=if_pos hc
  rw[e,e2]
  exact .inr ⟨rfl,.inr rfl,⟨h.cl.mono (by omega),h.new,h.qlog,h.le,h.log,h.few,h.qt,h.val⟩,ht⟩
 have e:s.tidy=s.rewrite.1:=if_neg hc
 have e2:(s.pw π).tidy=(s.pw π).rewrite.1:=if_neg hc
 rcases h.rewrite ht hu s.count π with ⟨_,h1⟩ | ⟨h1,h2,h3,h4,h5⟩
 ·left
  rw[e2]
  exact h1
 ·right
  rw[e,e2]
  refine⟨?_,.inl h3,h4,h5⟩
  show ({ s.pw π with d:=(S.rewrite (s.d.pw π) s.count (records s.tab)).1,count:=(S.rewrite (s.d.pw π) s.count (records s.tab)).2.1 }:Sto)=({ s with d:=(S.rewrite s.d s.count (records s.tab)).1,count:=(S.rewrite s.d s.count (records s.tab)).2.1 }:Sto).pw π
  rw[h1,h2]
  rfl
def Backs (s:Sto):Prop:=∀ g∈s.d.pend,∃ m,g=.del (path m)∧m < 4096∧∀ p∈s.tab,p.2≠m
theorem Backs.log (h:Backs s):Quiet s.d logN:=fun g hg=>by
 obtain⟨m,rfl,h1,_⟩:=h g hg
 exact fun e=>path_log h1 e
theorem Backs.tab (h:Backs s) (hk:Keeps n i u s) {p:ByteArray × Nat} (hp:p∈s.tab):Quiet s.d (path p.2):=fun g hg=>by
 obtain⟨m,rfl,h1,h2⟩:=h g hg
 exact fun e=>h2 p hp (path_inj h1 (hk.no4 hp) e).symm
theorem Keeps.tabs (h:Keeps n i u s) (hi:i≤100):Tab n s.d s.tab s.get:=by
 obtain⟨rs,g1,g2,g3,g4⟩:=h.log
 have e:tabOf (R.replay ((cont s.d logN).getD [])).1=s.tab:=by
  rw[g1]
  show tabOf (R.replay (R.encs rs)).1=_
  rw[R.replay_encs g2,g4]
 refine⟨h.up,fun p hp=>by rw[e];exact hp,Nat.le_trans h.len hi,fun p hp=>?_,fun id=>?_⟩
 ·obtain⟨t1,t2,E,t3,t4,t5⟩:=h.tab p hp
  exact⟨t1,t2,E,by rw[t3];exact dec_encB t4,t5⟩
 ·rw[h.get]
  cases D.find s.tab id<;>rfl
theorem Keeps.told (h:Keeps n i u s) (hi:i≤100) (hl:F logN=cont s.d logN):tabOf (R.replay ((F logN).getD [])).1=s.tab∧(R.replay ((F logN).getD [])).1.length≤100:=by
 obtain⟨rs,g1,g2,g3,g4⟩:=h.log
 rw[hl,g1]
 show tabOf (R.replay (R.encs rs)).1=_∧(R.replay (R.encs rs)).1.length≤100
 rw[R.replay_encs g2]
 have:=h.count
 exact⟨g4,by show rs.length≤100;omega⟩
theorem Keeps.held (h:Keeps n i u s) (hi:i≤100) (hb:Backs s):Held n u s.d s.get:=by
 obtain⟨e1,e2⟩:=h.told hi (F:=cont s.d) rfl
 obtain⟨rs,g1,_⟩:=h.log
 exact⟨h.cl,h.new,hb.log,h.le,⟨_,g1⟩,e2,fun p hp _=>hb.tab h (by rwa [e1]at hp),((h.tabs hi).sees e1 e2 (fun _ _=>rfl)).2⟩
theorem freed_down {s:Sto} (h:s.d.down=true) (id:ByteArray):(s.freed id).d=s.d:=by
 unfold Sto.freed
 split
 ·exact congrArg Prod.fst (D.remove_down h _)
 ·rfl
def upd (V:ByteArray→Option O.Ent) (id:ByteArray) (o:Option O.Ent) (x:ByteArray):Option O.Ent:=if x=id then o else V x
theorem sees_upd {id:ByteArray} {o:Option O.Ent} (h:Sees n W F) (hw:∀ x,W x=if x=id then o else V x):Sees n (upd V id o) F:=⟨h.1,fun x=>(h.2 x).trans (hw x)⟩
theorem Keeps.put_ways (h:Keeps n i u s) (hb:Backs s) (hi:i+1≤100) (hu:u+110000≤1000000000) (E:O.Ent) (π:Int) :
  (((s.pw π).put E).2≠0∧((s.pw π).put E).1=s.pw π) ∨
  (((s.pw π).put E).2≠0∧Stop π ((s.pw π).put E).1.d (fun F=>Sees n s.get F∨Sees n (upd s.get (idOf E) (some E)) F)) ∨
  (((s.pw π).put E).2=0∧Stop π ((s.pw π).put E).1.d (Sees n (upd s.get (idOf E) (some E)))) ∨
  (((s.pw π).put E).2=0∧((s.pw π).put E).1=(s.put E).1.pw π∧(s.put E).2=0∧Backs (s.put E).1):=by
 unfold Sto.put
 by_cases h0:encE E≠0
 ·rw[if_pos h0]
  exact .inl ⟨h0,rfl⟩
 rw[if_neg h0,if_neg h0]
 by_cases h1:4096 < (idOf E).size
 ·rw[if_pos h1]
  exact .inl ⟨by show (101:Int)≠0;decide,rfl⟩
 rw[if_neg h1,if_neg h1]
 show _∨_∨_∨_
 cases hf:s.used.findIdx? (fun x=>decide (x=false)) with
 | none =>
  have hf2:(s.pw π).used.findIdx? (fun x=>decide (x=false))=none:=hf
  rw[hf2]
  exact .inl ⟨by show (130:Int)≠0;decide,rfl⟩
 | some no =>
  have hf2:(s.pw π).used.findIdx? (fun x=>decide (x=false))=some no:=hf
  rw[hf2]
  dsimp only
  rw[List.findIdx?_eq_some_iff_getElem]at hf
  obtain⟨hnl,hnf,_⟩:=hf
  have hul:s.used.length=n:=by rw[h.used,marks_len]
  have hnv:s.used.getD no false=false:=by
   simp [List.getD,hnl]at hnf ⊢
   exact hnf
  have hE:encE E=0:=by omega
  have hno:no < n:=by omega
  have hfr:∀ p∈s.tab,p.2≠no:=fun p hp e=>by
   have:=(marks_at n s.tab no).2 ⟨hno,p,hp,e⟩
   rw[← h.used,hnv]at this
   cases this
  have hn4:no < 4096:=Nat.lt_of_lt_of_le hno h.le
  have hbl:=encB_len hE
  obtain⟨rs,g1,g2,g3,g4⟩:=h.log
  have hHo:=h.held (by omega) hb
  have hold:∀ F:ByteArray→Option (List UInt8),F logN=some (R.encs rs)→(∀ p∈s.tab,F (path p.2)=cont s.d (path p.2))→Sees n s.get F:=fun F f1 f2=>by
   obtain⟨q1,q2⟩:=h.told (by omega) (f1.trans g1.symm)
   exact (h.tabs (by omega)).sees q1 q2 f2
  obtain⟨d1,d2,us,l1,a1,c1,k1,k2,e2,hK,kx,hG⟩:=h.enter0 hi hu hE (by omega) hno hfr
  have hcode:R.code ⟨s.count,1,no,idOf E⟩=0:=R.code_ok (.inl rfl) (by have:=h.count;omega) (by omega) (by omega)
  obtain⟨_,cl,kl⟩:=lay_cl h.cl (path_good hn4) (h.free_no hno hfr) (encB E) (by omega)
  have hpn:∀ p∈s.tab,path p.2≠path no:=fun p hp e=>hfr p hp (path_inj (h.no4 hp) hn4 e)
  have hcalm:s.entered no (idOf E) (lay s.d (path no) (encB E))=((⟨d2,s.count+1,D.put s.tab (idOf E) no,us⟩:Sto).tidy,0):=by
   unfold Sto.entered
   rw[l1]
   dsimp only
   rw[if_pos rfl,a1]
   dsimp only
   rw[if_neg (by omega),e2]
  rw[hcalm]
  have hlog:R.encs (rs++[⟨s.count,1,no,idOf E⟩])=R.encs rs++R.enc ⟨s.count,1,no,idOf E⟩:=by unfold R.encs;simp
  obtain⟨dl,hdl⟩:∃ dl,(lay s.d (path no) (encB E)).1=dl:=⟨_,rfl⟩
  rw[hdl]at a1 cl kl
  have hll:cont dl logN=some (R.encs rs):=by rw[kl,if_neg (fun e=>path_log hn4 e.symm),g1]
  obtain⟨_,_,ka⟩:=add_cl cl hll s.count 1 no (idOf E) hcode (by omega)
  rw[a1]at ka
  dsimp only at ka
  have hnold:∀ old,D.find s.tab (idOf E)=some old→∀ p∈D.put s.tab (idOf E) no,p.2≠old:=fun old ho p hp e=>by
   rcases D.mem_put.1 hp with rfl | ⟨hp,hne⟩
   ·exact hfr _ (D.find_mem ho) e.symm
   ·exact hne (congrArg Prod.fst (h.one p hp _ (D.find_mem ho) e))
  have hp4:∀ p∈D.put s.tab (idOf E) no,p.2 < 4096:=fun p hp=>hK.no4 hp
  have kx2:∀ p∈D.put s.tab (idOf E) no,cont d2 (path p.2)=cont dl (path p.2):=fun p hp=>by
   rw[kx _ (fun old ho e=>hnold old ho p hp (path_inj (hp4 p hp) (h.no4 (D.find_mem ho)) e)),ka,if_neg (path_log (hp4 p hp))]
  have kl2:cont d2 logN=some (R.encs rs++R.enc ⟨s.count,1,no,idOf E⟩):=by
   rw[kx _ (fun old ho e=>path_log (h.no4 (D.find_mem ho)) e.symm),ka,if_pos rfl]
  have kt2:∀ p∈D.put s.tab (idOf E) no,cont d2 (path p.2)=cont d1 (path p.2):=fun p hp=>kx _ (fun old ho e=>hnold old ho p hp (path_inj (hp4 p hp) (h.no4 (D.find_mem ho)) e))
  have hnew:∀ F:ByteArray→Option (List UInt8),F logN=cont d2 logN→(∀ p∈D.put s.tab (idOf E) no,F (path p.2)=cont d2 (path p.2))→Sees n (upd s.get (idOf E) (some E)) F:=fun F f1 f2=>by
   obtain⟨q1,q2⟩:=hK.told hi f1
   exact sees_upd ((hK.tabs hi).sees q1 q2 f2) hG
  unfold Sto.entered
  rcases lay_stops h.cl (path_good hn4) (h.free_no hno hfr) (encB E) (by omega) π with ⟨hne,hst⟩ | ⟨hl,hlp⟩
  ·-- stopped in the laying
   have hx:(s.pw π).d=s.d.pw π:=rfl
   rw[hx]
   generalize lay (s.d.pw π) (path no) (encB E)=x at *
   dsimp only
   rw[if_neg hne]
   dsimp only
   have hxe:(if x.2.1=true then (x.1.remove (path no)).1 else x.1)=x.1:=by
    obtain⟨c',h1,h2,_⟩:=hst
    split
    ·rw[D.remove_down (by rw[h1];exact h2)]
    ·rfl
   rw[if_pos rfl]
   dsimp only
   rw[hxe]
   exact .inr (.inl ⟨hne,stop_mono hst fun F f=>.inl (hold F ((f _ (fun e=>path_log hn4 e.symm) hb.log).trans g1) (fun p hp=>f _ (hpn p hp) (hb.tab h hp)))⟩)
  rw[hdl]at hl hlp
  have hq:∀ x,Quiet dl x:=fun x g hg=>by rw[hlp]at hg;cases hg
  have hx:(s.pw π).d=s.d.pw π:=rfl
  have hkl:∀ p∈s.tab,cont dl (path p.2)=cont s.d (path p.2):=fun p hp=>by rw[kl,if_neg (hpn p hp)]
  rw[hx,hl,l1]
  dsimp only
  rw[if_pos rfl,show (s.pw π).count=s.count from rfl]
  rcases add_stops cl hll (hq _) s.count 1 no (idOf E) hcode (by omega) π with ⟨y1,y2⟩ | ⟨y1,y2⟩ | ⟨y1,y2⟩
  ·-- no record yet
   generalize add (dl.pw π) s.count 1 no (idOf E)=y at *
   rw[y1]
   dsimp only
   rw[if_pos rfl,if_pos rfl]
   refine .inr (.inl ⟨show (93:Int)≠0 by decide,?_⟩)
   have hr:(y.1.remove (path no)).1=y.1:=by
    obtain⟨c',h1,h2,_⟩:=y2
    rw[D.remove_down (by rw[h1];exact h2)]
   show Stop π (y.1.remove (path no)).1 _
   rw[hr]
   exact stop_mono y2 fun F f=>.inl (hold F f.1 (fun p hp=>(f.2 _ (path_log (h.no4 hp)) (hq _)).trans (hkl p hp)))
  ·-- a part of the record
   generalize add (dl.pw π) s.count 1 no (idOf E)=y at *
   rw[y1]
   dsimp only
   rw[if_neg (by omega)]
   refine .inr (.inl ⟨show (93:Int)≠0 by decide,?_⟩)
   have hyd:y.1.down=true:=by
    obtain⟨c',h1,h2,_⟩:=y2
    rw[h1]
    exact h2
   have hr:((({ s.pw π with d:=y.1,count:=s.count+1 }:Sto).freed (idOf E)).took no (idOf E)).tidy.d=y.1:=by
    have e1:=freed_down (s:=({ s.pw π with d:=y.1,count:=s.count+1 }:Sto)) hyd (idOf E)
    refine (tidy_down ?_).trans e1
    show (({ s.pw π with d:=y.1,count:=s.count+1 }:Sto).freed (idOf E)).d.down=true
    rw[e1]
    exact hyd
   show Stop π ((({ s.pw π with d:=y.1,count:=s.count+1 }:Sto).freed (idOf E)).took no (idOf E)).tidy.d _
   rw[hr]
   refine stop_mono y2 fun F f=>?_
   obtain⟨⟨m,f1⟩,f2⟩:=f
   by_cases hm:m < (R.enc ⟨s.count,1,no,idOf E⟩).length
   ·left
    have ht1:(R.replay ((F logN).getD [])).1=rs:=by
     rw[f1]
     exact R.replay_torn g2 hcode hm
    exact (h.tabs (by omega)).sees (by rw[ht1,g4]) (by rw[ht1,g3];have:=h.count;omega) (fun p hp=>(f2 _ (path_log (h.no4 hp)) (hq _)).trans (hkl p hp))
   ·right
    refine hnew F (by rw[f1,List.take_of_length_le (by omega),kl2]) (fun p hp=>(f2 _ (path_log (hp4 p hp)) (hq _)).trans (kx2 p hp).symm)
  ·-- the record is safe
   rw[y1,a1]
   dsimp only
   rw[if_neg (by omega)]
   rw[a1,hlp]at y2
   change d1.pend=[]at y2
   have hq1:∀ x,Quiet d1 x:=fun x g hg=>by rw[y2]at hg;cases hg
   have hst1:(d1.pw π).down=true→Stop π (d1.pw π) (Sees n (upd s.get (idOf E) (some E))):=fun hd=>by
    refine⟨d1,rfl,hd,c1.calm.power,fun k keep=>hnew _ ((D.left_quiet c1 (by simp) (hq1 _) k keep).trans (kx _ (fun old ho e=>path_log (h.no4 (D.find_mem ho)) e.symm)).symm) (fun p hp=>(D.left_quiet c1 (by simp) (hq1 _) k keep).trans (kt2 p hp).symm)⟩
   have hkey:∃ x,(({ s.pw π with d:=d1.pw π,count:=s.count+1 }:Sto).freed (idOf E)).took no (idOf E)=(⟨x,s.count+1,D.put s.tab (idOf E) no,us⟩:Sto)∧((x=d1.pw π∧(d1.pw π).down=true)∨x=d2.pw π)∧∀ g∈d2.pend,∃ old,D.find s.tab (idOf E)=some old∧g=.del (path old):=by
    have ed:=congrArg Sto.d e2
    have eu:=congrArg Sto.used e2
    unfold Sto.freed at ed eu ⊢
    dsimp only at ed eu ⊢
    show ∃ x,Sto.took (match D.find s.tab (idOf E) with | some old=>_ | none=>_) _ _=_∧_
    cases ho:D.find s.tab (idOf E) with
    | none =>
     rw[ho]at ed eu
     change d1=d2 at ed
     change s.used.set no true=us at eu
     refine⟨d1.pw π,?_,.inr (by rw[ed]),fun g hg=>by rw[← ed,y2]at hg;cases hg⟩
     rw[← eu]
     rfl
    | some old =>
     rw[ho]at ed eu
     change (d1.remove (path old)).1=d2 at ed
     change (s.used.set old false).set no true=us at eu
     have hold4:=h.no4 (D.find_mem ho)
     refine⟨((d1.pw π).remove (path old)).1,?_,?_,fun g hg=>?_⟩
     ·rw[← eu]
      rfl
     ·rw[D.remove_at c1.calm.power]
      by_cases hd:(d1.pw π).down=true
      ·rw[if_pos hd]
       exact .inl ⟨rfl,hd⟩
      ·rw[if_neg hd]
       exact .inr (by rw[← ed];rfl)
     ·obtain⟨_,_,E2,t3,_⟩:=h.tab _ (D.find_mem ho)
      have:=c1.remove_pend (path_good hold4) (c:=encB E2) (by rw[k1 _ (path_log hold4) (fun e=>hfr _ (D.find_mem ho) (path_inj hold4 hn4 e))];exact t3)
      rw[← ed,this,y2,List.nil_append,List.mem_singleton]at hg
      exact⟨old,rfl,hg⟩
   obtain⟨x,x1,x2,x3⟩:=hkey
   have hbk:Backs (⟨d2,s.count+1,D.put s.tab (idOf E) no,us⟩:Sto):=fun g hg=>by
    obtain⟨old,ho,e⟩:=x3 g hg
    exact⟨old,e,h.no4 (D.find_mem ho),hnold old ho⟩
   rw[x1]
   rcases x2 with ⟨rfl,hd⟩ | rfl
   ·refine .inr (.inr (.inl ⟨rfl,?_⟩))
    rw[tidy_down (s:=(⟨d1.pw π,s.count+1,D.put s.tab (idOf E) no,us⟩:Sto)) hd]
    exact hst1 hd
   ·rcases (hK.held hi hbk).tidy_ways (hK.tabs hi) (by omega) π with hT | ⟨hT,hp,_⟩
    ·exact .inr (.inr (.inl ⟨rfl,stop_mono hT fun F f=>sees_upd f hG⟩))
    ·refine .inr (.inr (.inr ⟨rfl,hT,rfl,fun g hg=>?_⟩))
     have htb:(⟨d2,s.count+1,D.put s.tab (idOf E) no,us⟩:Sto).tidy.tab=D.put s.tab (idOf E) no:=tidy_tab _
     rw[htb]
     rcases hp with hp | hp
     ·rw[hp]at hg;cases hg
     ·rw[hp]at hg
      exact hbk g hg
theorem Keeps.drop_ways (h:Keeps n i u s) (hb:Backs s) (hi:i+1≤100) (hu:u+110000≤1000000000) (id:ByteArray) (π:Int) :
  (((s.pw π).drop id).2=90∧((s.pw π).drop id).1=s.pw π) ∨
  (((s.pw π).drop id).2=93∧Stop π ((s.pw π).drop id).1.d (fun F=>Sees n s.get F∨Sees n (upd s.get id none) F)) ∨
  (((s.pw π).drop id).2=0∧Stop π ((s.pw π).drop id).1.d (Sees n (upd s.get id none))) ∨
  (((s.pw π).drop id).2=0∧((s.pw π).drop id).1=(s.drop id).1.pw π∧Keeps n (i+1) (u+521100) (s.drop id).1∧(∀ x,(s.drop id).1.get x=if x=id then none else s.get x)∧Backs (s.drop id).1):=by
 cases hf:D.find s.tab id with
 | none =>
  have e:(s.pw π).drop id=(s.pw π,90):=by
   unfold Sto.drop
   rw[show D.find (s.pw π).tab id=none from hf]
  rw[e]
  exact .inl ⟨rfl,rfl⟩
 | some no =>
  obtain⟨_,hKD,hGD⟩:=h.drop hi hu hf
  have hmem:=D.find_mem hf
  have hn4:=h.no4 hmem
  obtain⟨rs,g1,g2,g3,g4⟩:=h.log
  have hcode:R.code ⟨s.count,2,no,id⟩=0:=R.code_ok (.inr rfl) (by have:=h.count;omega) (by omega) (h.tab _ hmem).2.1
  obtain⟨d1,a1,c1,s1,k1,k2,hK,hG⟩:=h.drop0 hi hu hf
  obtain⟨_,_,ka⟩:=add_cl h.cl g1 s.count 2 no id hcode (by omega)
  rw[a1]at ka
  dsimp only at ka
  obtain⟨d2,hd2⟩:∃ d2,(d1.remove (path no)).1=d2:=⟨_,rfl⟩
  rw[hd2]at k2 hK hG
  have hdn:∀ p∈D.del s.tab id,p.2≠no:=fun p hp e=>(D.mem_del.1 hp).2 (congrArg Prod.fst (h.one p (D.mem_del.1 hp).1 _ hmem e))
  have hq0:∀ p∈s.tab,Quiet s.d (path p.2):=fun p hp=>hb.tab h hp
  have hp4:∀ p∈D.del s.tab id,p.2 < 4096:=fun p hp=>h.no4 (D.mem_del.1 hp).1
  have kt2:∀ p∈D.del s.tab id,cont d2 (path p.2)=cont d1 (path p.2):=fun p hp=>by rw[k2,if_neg (fun e=>hdn p hp (path_inj (hp4 p hp) hn4 e))]
  have klog:cont d2 logN=cont d1 logN:=by rw[k2,if_neg (fun e=>path_log hn4 e.symm)]
  have kl2:cont d2 logN=some (R.encs rs++R.enc ⟨s.count,2,no,id⟩):=by rw[klog,ka,if_pos rfl]
  have hnew:∀ F:ByteArray→Option (List UInt8),F logN=cont d2 logN→(∀ p∈D.del s.tab id,F (path p.2)=cont d2 (path p.2))→Sees n (upd s.get id none) F:=fun F f1 f2=>by
   obtain⟨q1,q2⟩:=hK.told hi f1
   exact sees_upd ((hK.tabs hi).sees q1 q2 f2) hG
  have hHo:=h.held (by omega) hb
  have hT:=h.told (F:=cont s.d) (by omega) rfl
  have hcd:(s.drop id).1=(⟨d2,s.count+1,D.del s.tab id,s.used.set no false⟩:Sto).tidy:=by
   unfold Sto.drop
   rw[hf]
   dsimp only
   rw[a1]
   dsimp only
   rw[if_neg (by omega)]
   unfold Sto.free
   dsimp only
   rw[hd2]
  rw[hcd]at hKD hGD ⊢
  unfold Sto.drop
  rw[show D.find (s.pw π).tab id=some no from hf]
  dsimp only
  rw[show (s.pw π).count=s.count from rfl,show (s.pw π).d=s.d.pw π from rfl]
  rcases add_stops h.cl g1 hb.log s.count 2 no id hcode (by omega) π with ⟨y1,y2⟩ | ⟨y1,y2⟩ | ⟨y1,y2⟩
  ·generalize add (s.d.pw π) s.count 2 no id=y at *
   rw[y1]
   dsimp only
   rw[if_pos rfl]
   exact .inr (.inl ⟨rfl,stop_mono y2 fun F f=>.inl (hHo.sees (f.1.trans g1.symm) (fun p hp hn=>f.2 _ (path_log (Nat.lt_of_lt_of_le hn h.le)) (hHo.qt p hp hn)))⟩)
  ·generalize add (s.d.pw π) s.count 2 no id=y at *
   rw[y1]
   dsimp only
   rw[if_neg (by omega)]
   refine .inr (.inl ⟨rfl,?_⟩)
   have hyd:y.1.down=true:=by
    obtain⟨c',h1,h2,_⟩:=y2
    rw[h1]
    exact h2
   have hr:(({ s.pw π with d:=y.1,count:=s.count+1,tab:=D.del s.tab id }:Sto).free no).tidy.d=y.1:=by
    have e1:(({ s.pw π with d:=y.1,count:=s.count+1,tab:=D.del s.tab id }:Sto).free no).d=y.1:=congrArg Prod.fst (D.remove_down hyd _)
    refine (tidy_down ?_).trans e1
    rw[e1]
    exact hyd
   show Stop π (({ s.pw π with d:=y.1,count:=s.count+1,tab:=D.del s.tab id }:Sto).free no).tidy.d _
   rw[hr]
   refine stop_mono y2 fun F f=>?_
   obtain⟨⟨m,f1⟩,f2⟩:=f
   by_cases hm:m < (R.enc ⟨s.count,2,no,id⟩).length
   ·left
    have ht1:(R.replay ((F logN).getD [])).1=rs:=by
     rw[f1]
     exact R.replay_torn g2 hcode hm
    exact (h.tabs (by omega)).sees (by rw[ht1,g4]) (by rw[ht1,g3];have:=h.count;omega) (fun p hp=>f2 _ (path_log (h.no4 hp)) (hq0 p hp))
   ·right
    exact hnew F (by rw[f1,List.take_of_length_le (by omega),kl2]) (fun p hp=>((f2 _ (path_log (hp4 p hp)) (hq0 p (D.mem_del.1 hp).1)).trans (k1 _ (path_log (hp4 p hp))).symm).trans (kt2 p hp).symm)
  ·rw[y1,a1]
   dsimp only
   rw[if_neg (by omega)]
   rw[a1]at y2
   change d1.pend=s.d.pend at y2
   have hql:Quiet d1 logN:=fun g hg=>hb.log g (by rw[← y2];exact hg)
   have hqp:∀ p∈D.del s.tab id,Quiet d1 (path p.2):=fun p hp g hg=>hq0 p (D.mem_del.1 hp).1 g (by rw[← y2];exact hg)
   have hbk:Backs (⟨d2,s.count+1,D.del s.tab id,s.used.set no false⟩:Sto):=fun g hg=>by
    obtain⟨cc,hcc⟩:=Option.isSome_iff_exists.1 s1
    have:=c1.remove_pend (path_good hn4) hcc
    change g∈d2.pend at hg
    rw[← hd2,this,y2]at hg
    rcases List.mem_append.1 hg with hg | hg
    ·obtain⟨m,e1,e2,e3⟩:=hb g hg
     exact⟨m,e1,e2,fun p hp=>e3 p (D.mem_del.1 hp).1⟩
    ·exact⟨no,List.mem_singleton.1 hg,hn4,hdn⟩
   have hfree:({ s.pw π with d:=d1.pw π,count:=s.count+1,tab:=D.del s.tab id }:Sto).free no=(⟨((d1.pw π).remove (path no)).1,s.count+1,D.del s.tab id,s.used.set no false⟩:Sto):=rfl
   show _∨_∨(_∧Stop π (({ s.pw π with d:=d1.pw π,count:=s.count+1,tab:=D.del s.tab id }:Sto).free no).tidy.d _)∨(_∧(({ s.pw π with d:=d1.pw π,count:=s.count+1,tab:=D.del s.tab id }:Sto).free no).tidy=_∧_)
   rw[hfree,D.remove_at c1.calm.power]
   by_cases hd:(d1.pw π).down=true
   ·rw[if_pos hd]
    refine .inr (.inr (.inl ⟨rfl,?_⟩))
    rw[tidy_down (s:=(⟨d1.pw π,s.count+1,D.del s.tab id,s.used.set no false⟩:Sto)) hd]
    exact⟨d1,rfl,hd,c1.calm.power,fun k keep=>hnew _ ((D.left_quiet c1 (by simp) hql k keep).trans klog.symm) (fun p hp=>(D.left_quiet c1 (by simp) (hqp p hp) k keep).trans (kt2 p hp).symm)⟩
   ·rw[if_neg hd]
    unfold D.lift
    dsimp only
    rw[hd2]
    rcases (hK.held hi hbk).tidy_ways (hK.tabs hi) (by omega) π with hT | ⟨hT,hp,_⟩
    ·exact .inr (.inr (.inl ⟨rfl,stop_mono hT fun F f=>sees_upd f hG⟩))
    ·refine .inr (.inr (.inr ⟨rfl,hT,hKD,hGD,fun g hg=>?_⟩))
     have htb:(⟨d2,s.count+1,D.del s.tab id,s.used.set no false⟩:Sto).tidy.tab=D.del s.tab id:=tidy_tab _
     rw[htb]
     rcases hp with hp | hp
     ·rw[hp]at hg;cases hg
     ·rw[hp]at hg
      exact hbk g hg
end
end S
end Go.Proofs.YtkempjcphpnocaaGreatDoor
