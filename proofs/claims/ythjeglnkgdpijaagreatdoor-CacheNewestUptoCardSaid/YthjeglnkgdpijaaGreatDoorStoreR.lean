/- A store over a disk where nothing fails: a Put that is refused leaves all as it was. No program here. -/
import Derived.Test.YthjeglnkgdpijaaGreatDoorZ15
namespace Go.Proofs.YthjeglnkgdpijaaGreatDoor
namespace S
theorem hx_good:∀ i:Fin 16,D.okB (hx i.1)=true:=by decide
theorem hx_one:∀ i j:Fin 16,hx i.1=hx j.1→i=j:=by decide
theorem hx_inj {i j:Nat} (hi:i < 16) (hj:j < 16) (h:hx i=hx j):i=j:=congrArg Fin.val (hx_one ⟨i,hi⟩ ⟨j,hj⟩ h)
theorem path_at {no:Nat} (h:no < 4096):path no=⟨#[111,47,hx (no / 1024),hx (no / 64 % 16),47,hx (no % 64 / 16),hx (no % 16)]⟩:=if_pos h
theorem path_good {no:Nat} (h:no < 4096):D.good (path no)=true:=by
 rw[path_at h]
 have h1:=hx_good ⟨no / 1024,by omega⟩
 have h2:=hx_good ⟨no / 64 % 16,by omega⟩
 have h3:=hx_good ⟨no % 64 / 16,by omega⟩
 have h4:=hx_good ⟨no % 16,by omega⟩
 dsimp only at h1 h2 h3 h4
 unfold D.good
 have hl:L ⟨#[111,47,hx (no / 1024),hx (no / 64 % 16),47,hx (no % 64 / 16),hx (no % 16)]⟩=[111,47,hx (no / 1024),hx (no / 64 % 16),47,hx (no % 64 / 16),hx (no % 16)]:=rfl
 have hs:(⟨#[111,47,hx (no / 1024),hx (no / 64 % 16),47,hx (no % 64 / 16),hx (no % 16)]⟩:ByteArray).size=7:=rfl
 rw[hl,hs]
 have e1:D.okB 111=true:=by decide
 have e2:D.okB 47=true:=by decide
 simp only[List.all_cons,List.all_nil,h1,h2,h3,h4,e1,e2]
 decide
theorem path_inj {a b:Nat} (ha:a < 4096) (hb:b < 4096) (h:path a=path b):a=b:=by
 rw[path_at ha,path_at hb]at h
 injection h with h
 have h2:=congrArg Array.toList h
 simp only[List.cons.injEq,true_and,and_true]at h2
 obtain⟨h3,h4,h5,h6⟩:=h2
 have:=hx_inj (by omega) (by omega) h3
 have:=hx_inj (by omega) (by omega) h4
 have:=hx_inj (by omega) (by omega) h5
 have:=hx_inj (by omega) (by omega) h6
 omega
theorem path_log {a:Nat} (ha:a < 4096):path a≠logN:=by
 rw[path_at ha]
 intro h
 have:(7:Nat)=3:=congrArg ByteArray.size h
 omega
theorem path_new {a:Nat} (ha:a < 4096):path a≠newN:=by
 rw[path_at ha]
 intro h
 injection h with h
 have h2:=congrArg Array.toList h
 simp only[List.cons.injEq]at h2
 exact absurd h2.1 (by decide)
theorem log_good:D.good logN=true:=by decide
theorem new_good:D.good newN=true:=by decide
theorem new_log:newN≠logN:=by
 intro h
 have:(7:Nat)=3:=congrArg ByteArray.size h
 omega
open D (cont Clm)
section
variable {d:D.Dsk} {p:ByteArray}
theorem lay_ways (h:Clm d) (hg:D.good p=true) (hc:cont d p=none) (b:List UInt8) :
  ((lay d p b).2=(true,92)∧Clm (lay d p b).1∧∀ x,cont (lay d p b).1 x=if x=p then some [] else cont d x)∨((lay d p b).2=(true,0)∧Clm (lay d p b).1∧∀ x,cont (lay d p b).1 x=if x=p then some b else cont d x):=by
 have h0:¬ has d.list p=true:=fun hm=>by
  rw[has_iff,h.mem,hc]at hm
  cases hm
 obtain⟨e1,c1,k1⟩:=h.create hg hc
 have hc1:cont (d.create p).1 p=some []:=by rw[k1,if_pos rfl]
 unfold lay
 rw[if_neg h0]
 dsimp only
 rw[if_neg (by decide),if_neg (by rw[e1];decide)]
 rcases c1.append hg hc1 b with ⟨e2,c2,k2⟩ | ⟨e2,c2,k2⟩
 ·rw[if_pos (by rw[e2];decide)]
  exact .inl ⟨by rw[e2],c2,fun x=>by rw[k2,k1]⟩
 ·have hc2:cont ((d.create p).1.append p b).1 p=some ([]++b):=by rw[k2,if_pos rfl]
  obtain⟨e3,c3,k3⟩:=c2.sync hg hc2
  obtain⟨e4,c4,k4⟩:=c3.syncNames
  rw[if_neg (by rw[e2];decide),if_neg (by rw[e3];decide)]
  refine .inr ⟨by rw[e4],c4,fun x=>?_⟩
  show cont _ x=_
  rw[k4,k3,k2,k1]
  by_cases hx:x=p
  ·rw[if_pos hx,if_pos hx,List.nil_append]
  ·rw[if_neg hx,if_neg hx,if_neg hx]
theorem add_ways (h:Clm d) {c:List UInt8} (hc:cont d logN=some c) (count:Nat) (op no:Int) (id:ByteArray) (hr:R.code ⟨count,op,no,id⟩=0) :
  ((add d count op no id).2=(count,92)∧Clm (add d count op no id).1∧∀ x,cont (add d count op no id).1 x=cont d x) ∨
  ((add d count op no id).2=(count+1,0)∧Clm (add d count op no id).1∧∀ x,cont (add d count op no id).1 x=if x=logN then some (c++R.enc ⟨count,op,no,id⟩) else cont d x):=by
 unfold add
 rw[if_neg (by rw[hr];decide)]
 rcases h.append log_good hc (R.enc ⟨count,op,no,id⟩) with ⟨e2,c2,k2⟩ | ⟨e2,c2,k2⟩
 ·rw[if_pos (by rw[e2];decide)]
  exact .inl ⟨by rw[e2],c2,k2⟩
 ·have hc2:cont (d.append logN (R.enc ⟨count,op,no,id⟩)).1 logN=some (c++R.enc ⟨count,op,no,id⟩):=by rw[k2,if_pos rfl]
  obtain⟨e3,c3,k3⟩:=c2.sync log_good hc2
  rw[if_neg (by rw[e2];decide)]
  exact .inr ⟨by rw[e3],c3,fun x=>by rw[k3,k2]⟩
theorem rewrite_ways (h:Clm d) {c:List UInt8} (hc:cont d logN=some c) (hn:cont d newN=none) (count:Nat) (list:List R.Rc) :
  Clm (rewrite d count list).1∧(∃ c,cont (rewrite d count list).1 logN=some c)∧(∀ x,x≠logN→cont (rewrite d count list).1 x=cont d x)∧((rewrite d count list).2.1=count∨(rewrite d count list).2.1=list.length):=by
 unfold rewrite
 by_cases h0:(R.encAll list 0 []).2≠0
 ·rw[if_pos h0]
  exact⟨h,⟨c,hc⟩,fun _ _=>rfl,.inl rfl⟩
 rw[if_neg h0]
 obtain⟨e1,c1,k1⟩:=h.create new_good hn
 generalize hb:(R.encAll list 0 []).1=b
 have hc1:cont (d.create newN).1 newN=some []:=by rw[k1,if_pos rfl]
 rcases c1.append new_good hc1 b with ⟨e2,c2,k2⟩ | ⟨e2,c2,k2⟩
 ·have hs:steps d (moves b)=(((d.create newN).1.append newN b).1,1,92):=by
   simp [steps,moves,e1,e2]
  rw[hs]
  dsimp only
  rw[if_neg (by decide),if_neg (by decide)]
  have hc2:cont ((d.create newN).1.append newN b).1 newN=some []:=by rw[k2,hc1]
  obtain⟨e3,c3,k3⟩:=c2.remove new_good hc2
  have k4:∀ x,cont (((d.create newN).1.append newN b).1.remove newN).1 x=cont d x:=fun x=>by
   rw[k3,k2,k1]
   by_cases hx:x=newN
   ·rw[if_pos hx,hx,hn]
   ·rw[if_neg hx,if_neg hx]
  exact⟨c3,⟨c,by rw[k4,hc]⟩,fun x _=>k4 x,.inl rfl⟩
 ·have hc2:cont ((d.create newN).1.append newN b).1 newN=some ([]++b):=by rw[k2,if_pos rfl]
  obtain⟨e3,c3,k3⟩:=c2.sync new_good hc2
  have hc3:cont (((d.create newN).1.append newN b).1.sync newN).1 newN=some ([]++b):=by rw[k3,hc2]
  obtain⟨e4,c4,k4⟩:=c3.rename new_good log_good new_log hc3
  obtain⟨e5,c5,k5⟩:=c4.syncNames
  have hs:steps d (moves b)=(((((d.create newN).1.append newN b).1.sync newN).1.rename newN logN).1,4,0):=by
   simp [steps,moves,e1,e2,e3,e4]
  rw[hs]
  dsimp only
  rw[if_pos rfl]
  refine⟨c5,⟨_,by rw[k5,k4,if_pos rfl]⟩,fun x hx=>?_,.inr rfl⟩
  rw[k5,k4,if_neg hx,k3,k2,k1]
  by_cases hx2:x=newN
  ·rw[if_pos hx2,hx2,hn]
  ·rw[if_neg hx2,if_neg hx2,if_neg hx2]
end
structure Inv (s:Sto):Prop where
 calm:Clm s.d
 log:∃ c,cont s.d logN=some c
 new:cont s.d newN=none
 up:D.Up s.tab
 lens:s.used.length≤4096
 tab:∀ p∈s.tab,p.2 < s.used.length∧s.used.getD p.2 false=true∧∃ c E,cont s.d (path p.2)=some c∧O.dec c=some E
 one:∀ p∈s.tab,∀ q∈s.tab,p.2=q.2→p=q
 free:∀ no,no < 4096→(cont s.d (path no)).isSome=true→s.used.getD no false=true
theorem Inv.tidy {s:Sto} (h:Inv s):Inv s.tidy∧s.tidy.tab=s.tab∧s.tidy.used=s.used∧(s.tidy.count=s.count∨s.tidy.count=s.tab.length):=by
 unfold Sto.tidy
 split
 ·exact⟨h,rfl,rfl,.inl rfl⟩
 ·obtain⟨c,hc⟩:=h.log
  obtain⟨r1,r2,r3,r4⟩:=rewrite_ways h.calm hc h.new s.count (records s.tab)
  refine⟨⟨r1,r2,(r3 _ new_log).trans h.new,h.up,h.lens,fun p hp=>?_,h.one,fun no hno hi=>?_⟩,rfl,rfl,?_⟩
  ·obtain⟨t1,t2,c,E,t3,t4⟩:=h.tab p hp
   exact⟨t1,t2,c,E,(r3 _ (path_log (Nat.lt_of_lt_of_le t1 h.lens))).trans t3,t4⟩
  ·exact h.free no hno (by rw[← r3 _ (path_log hno)];exact hi)
  ·have e:(records s.tab).length=s.tab.length:=by unfold records;rw[List.length_map]
   rw[e]at r4
   exact r4
theorem getD_set {l:List Bool} {i j:Nat} {v:Bool}:(l.set i v).getD j false=if i=j∧i < l.length then v else l.getD j false:=by
 by_cases e:i=j
 ·subst e
  by_cases hl:i < l.length
  ·rw[if_pos ⟨rfl,hl⟩];simp [List.getD,hl]
  ·rw[if_neg (fun h=>hl h.2),List.set_eq_of_length_le (by omega)]
 ·rw[if_neg (fun h=>e h.1)]
  simp [List.getD,List.getElem?_set_ne e]
theorem idOf_ent (s:Sto) (E:O.Ent) (no:Nat) (hc:s.count≤4294967295) (hn:no < 4096) (hi:(idOf E).size≤4096):R.code ⟨s.count,1,no,idOf E⟩=0:=by
 unfold R.code R.word
 rw[if_pos (by simp;omega),if_pos hi]
theorem put_ways {s:Sto} (h:Inv s) (E:O.Ent) (hcnt:s.count≤4294967295) :
  ((s.put E).2≠0∧Inv (s.put E).1∧(s.put E).1.tab=s.tab∧(s.put E).1.used=s.used∧(s.put E).1.count=s.count∧∀ x,cont (s.put E).1.d x=cont s.d x) ∨
  ((s.put E).2=0∧Inv (s.put E).1∧(s.put E).1.used.length=s.used.length∧(s.put E).1.tab.length≤s.tab.length+1∧((s.put E).1.count=s.count+1∨(s.put E).1.count=(s.put E).1.tab.length)):=by
 unfold Sto.put
 by_cases h0:encE E≠0
 ·rw[if_pos h0]
  exact .inl ⟨h0,h,rfl,rfl,rfl,fun _=>rfl⟩
 rw[if_neg h0]
 by_cases h1:4096 < (idOf E).size
 ·rw[if_pos h1]
  exact .inl ⟨by show (101:Int)≠0;decide,h,rfl,rfl,rfl,fun _=>rfl⟩
 rw[if_neg h1]
 have hdec:O.dec (encB E)=some E:=by
  rcases O.enc_ways E.k E.v E.s E.r E.m E.fs E.body E.asked E.got with ⟨_,h2⟩ | ⟨h2,_⟩
  ·exact h2
  ·exact absurd h2 (by unfold encE at h0;omega)
 cases hf:s.used.findIdx? (fun x=>decide (x=false)) with
 | none=>exact .inl ⟨by show (130:Int)≠0;decide,h,rfl,rfl,rfl,fun _=>rfl⟩
 | some no =>
  dsimp only
  rw[List.findIdx?_eq_some_iff_getElem]at hf
  obtain⟨hnl,hnf,_⟩:=hf
  have hn4:no < 4096:=Nat.lt_of_lt_of_le hnl h.lens
  have hnv:s.used.getD no false=false:=by
   simp [List.getD,hnl]at hnf ⊢
   exact hnf
  have hcn:cont s.d (path no)=none:=by
   cases hcs:cont s.d (path no) with
   | none=>rfl
   | some c =>
    have:=h.free no hn4 (by rw[hcs];rfl)
    rw[hnv]at this
    cases this
  have hg:=path_good hn4
  have hpl:=path_log hn4
  obtain⟨cl,hcl⟩:=h.log
  have hcode:=idOf_ent s E no hcnt hn4 (by omega)
  have back:∀ (d:D.Dsk) (c:List UInt8),Clm d→(∀ x,cont d x=if x=path no then some c else cont s.d x)→Clm (d.remove (path no)).1∧∀ x,cont (d.remove (path no)).1 x=cont s.d x:=fun d c hd hk=>by
   obtain⟨_,r2,r3⟩:=hd.remove hg (c:=c) (by rw[hk,if_pos rfl])
   refine⟨r2,fun x=>?_⟩
   rw[r3,hk]
   by_cases hx:x=path no
   ·rw[if_pos hx,hx,hcn]
   ·rw[if_neg hx,if_neg hx]
  have refused:∀ (d:D.Dsk) (e:Int),Clm d→(∀ x,cont d x=cont s.d x)→Inv { s with d:=d }:=fun d e hd hk =>
   ⟨hd,⟨cl,by rw[hk,hcl]⟩,by rw[hk];exact h.new,h.up,h.lens,fun p hp=>by
    obtain⟨t1,t2,c,E,t3,t4⟩:=h.tab p hp
    exact⟨t1,t2,c,E,by rw[hk];exact t3,t4⟩,h.one,fun no hno hi=>h.free no hno (by rw[← hk];exact hi)⟩
  unfold Sto.entered
  rcases lay_ways h.calm hg hcn (encB E) with ⟨l1,l2,l3⟩ | ⟨l1,l2,l3⟩
  ·rw[l1]
   dsimp only
   rw[if_neg (show ¬ (92:Int)=0 by decide),if_pos rfl,if_pos rfl]
   obtain⟨b1,b2⟩:=back _ _ l2 l3
   exact .inl ⟨by show (92:Int)≠0;decide,refused _ 92 b1 b2,rfl,rfl,rfl,b2⟩
  ·rw[l1]
   dsimp only
   rw[if_pos rfl]
   have hcl2:cont (lay s.d (path no) (encB E)).1 logN=some cl:=by rw[l3,if_neg (fun e=>hpl e.symm),hcl]
   rcases add_ways l2 hcl2 s.count 1 no (idOf E) hcode with ⟨a1,a2,a3⟩ | ⟨a1,a2,a3⟩
   ·rw[a1]
    dsimp only
    rw[if_pos rfl,if_pos rfl]
    obtain⟨b1,b2⟩:=back _ _ a2 (fun x=>(a3 x).trans (l3 x))
    exact .inl ⟨by show (92:Int)≠0;decide,refused _ 92 b1 b2,rfl,rfl,rfl,b2⟩
   ·rw[a1]
    dsimp only
    rw[if_neg (by omega)]
    generalize (add (lay s.d (path no) (encB E)).1 s.count 1 no (idOf E)).1=d1 at a2 a3 ⊢
    have k1:∀ x,x≠logN→cont d1 x=if x=path no then some (encB E) else cont s.d x:=fun x hx=>by rw[a3,if_neg hx,l3]
    have hnew1:cont d1 newN=none:=by rw[k1 _ new_log,if_neg (fun e=>path_new hn4 e.symm)];exact h.new
    have hlog1:∃ c,cont d1 logN=some c:=⟨_,by rw[a3,if_pos rfl]⟩
    have hnot:∀ p∈s.tab,p.2≠no:=fun p hp e=>by
     have:=(h.tab p hp).2.1
     rw[e,hnv]at this
     cases this
    -- behind the freeing of the old number
    have key:∀ s2:Sto,s2.tab=s.tab→s2.count=s.count+1→s2.used.length=s.used.length→Clm s2.d→(∃ c,cont s2.d logN=some c)→cont s2.d newN=none→cont s2.d (path no)=some (encB E) →
      (∀ p∈s.tab,p.1≠idOf E→s2.used.getD p.2 false=true∧cont s2.d (path p.2)=cont s.d (path p.2)) →
      (∀ i,i < 4096→i≠no→(cont s2.d (path i)).isSome=true→s2.used.getD i false=true) →
      Inv (({ s2 with tab:=D.put s2.tab (idOf E) no,used:=s2.used.set no true }:Sto)):=by
     intro s2 e1 e2 e3 c1 c2 c3 c4 c5 c6
     refine⟨c1,c2,c3,?_,by show (s2.used.set no true).length≤_;rw[List.length_set,e3];exact h.lens,fun p hp=>?_,?_,fun i hi hs=>?_⟩
     ·show D.Up (D.put s2.tab (idOf E) no)
      rw[e1]
      exact D.up_put h.up _ _
     ·change p∈D.put s2.tab (idOf E) no at hp
      rw[e1]at hp
      show p.2 < (s2.used.set no true).length∧(s2.used.set no true).getD p.2 false=true∧_
      rw[List.length_set,getD_set,e3]
      rcases D.mem_put.1 hp with rfl | ⟨hp,hne⟩
      ·exact⟨hnl,if_pos ⟨rfl,hnl⟩,_,_,c4,hdec⟩
      ·obtain⟨t1,t2,c,E2,t3,t4⟩:=h.tab p hp
       obtain⟨u1,u2⟩:=c5 p hp hne
       exact⟨t1,by rw[if_neg (fun h9=>hnot p hp h9.1.symm)];exact u1,c,E2,u2.trans t3,t4⟩
     ·show ∀ p∈D.put s2.tab (idOf E) no,∀ q∈D.put s2.tab (idOf E) no,p.2=q.2→p=q
      rw[e1]
      exact D.one_ins h.one hnot
     ·show (s2.used.set no true).getD i false=true
      rw[getD_set,e3]
      by_cases hin:no=i
      ·rw[if_pos ⟨hin,hnl⟩]
      ·rw[if_neg (fun h9=>hin h9.1)]
       exact c6 i hi (fun e=>hin e.symm) hs
    have fin:∀ s2:Sto,s2.tab=s.tab→s2.count=s.count+1→s2.used.length=s.used.length→Inv (({ s2 with tab:=D.put s2.tab (idOf E) no,used:=s2.used.set no true }:Sto)) →
      (0:Int)=0∧Inv (({ s2 with tab:=D.put s2.tab (idOf E) no,used:=s2.used.set no true }:Sto)).tidy∧(({ s2 with tab:=D.put s2.tab (idOf E) no,used:=s2.used.set no true }:Sto)).tidy.used.length=s.used.length ∧
      (({ s2 with tab:=D.put s2.tab (idOf E) no,used:=s2.used.set no true }:Sto)).tidy.tab.length≤s.tab.length+1 ∧
      ((({ s2 with tab:=D.put s2.tab (idOf E) no,used:=s2.used.set no true }:Sto)).tidy.count=s.count+1∨(({ s2 with tab:=D.put s2.tab (idOf E) no,used:=s2.used.set no true }:Sto)).tidy.count=(({ s2 with tab:=D.put s2.tab (idOf E) no,used:=s2.used.set no true }:Sto)).tidy.tab.length):=by
     intro s2 e1 e2 e3 hI
     obtain⟨t1,t2,t3,t4⟩:=hI.tidy
     refine⟨rfl,t1,by rw[t3];show (s2.used.set no true).length=_;rw[List.length_set,e3],by rw[t2];show (D.put s2.tab _ _).length≤_;rw[e1];exact D.length_put _ _ _,?_⟩
     rcases t4 with t4 | t4
     ·exact .inl (t4.trans e2)
     ·exact .inr (by rw[t4,t2])
    unfold Sto.freed Sto.took
    dsimp only
    cases hold:D.find s.tab (idOf E) with
    | none =>
     dsimp only
     exact .inr (fin { s with d:=d1,count:=s.count+1 } rfl rfl rfl (key _ rfl rfl rfl a2 hlog1 hnew1 (by rw[k1 _ hpl,if_pos rfl])
      (fun p hp _=>⟨(h.tab p hp).2.1,by
       have t1:p.2 < 4096:=Nat.lt_of_lt_of_le (h.tab p hp).1 h.lens
       show cont d1 _=_
       rw[k1 _ (path_log t1),if_neg (fun e=>hnot p hp (path_inj t1 hn4 e))]⟩)
      (fun i hi hin hs=>h.free i hi (by
       change (cont d1 _).isSome=true at hs
       rw[k1 _ (path_log hi),if_neg (fun e=>hin (path_inj hi hn4 e))]at hs
       exact hs))))
    | some old =>
     dsimp only
     have hmem:=D.find_mem hold
     obtain⟨o1,o2,oc,oE,o3,o4⟩:=h.tab _ hmem
     have ho4:old < 4096:=Nat.lt_of_lt_of_le o1 h.lens
     have hon:old≠no:=hnot _ hmem
     have hco:cont d1 (path old)=some oc:=by rw[k1 _ (path_log ho4),if_neg (fun e=>hon (path_inj ho4 hn4 e))];exact o3
     obtain⟨_,m2,m3⟩:=a2.remove (path_good ho4) hco
     refine .inr (fin (({ s with d:=d1,count:=s.count+1 }:Sto).free old) rfl rfl (by show (s.used.set old false).length=_;rw[List.length_set]) (key _ rfl rfl (by show (s.used.set old false).length=_;rw[List.length_set]) m2 ?_ ?_ ?_ ?_ ?_))
     ·obtain⟨c,hc⟩:=hlog1
      exact⟨c,by show cont (d1.remove (path old)).1 _=_;rw[m3,if_neg (fun e=>path_log ho4 e.symm),hc]⟩
     ·show cont (d1.remove (path old)).1 _=_
      rw[m3,if_neg (fun e=>path_new ho4 e.symm),hnew1]
     ·show cont (d1.remove (path old)).1 _=_
      rw[m3,if_neg (fun e=>hon (path_inj hn4 ho4 e).symm),k1 _ hpl,if_pos rfl]
     ·intro p hp hne
      obtain⟨t1,t2,_⟩:=h.tab p hp
      have t4:p.2 < 4096:=Nat.lt_of_lt_of_le t1 h.lens
      have hpo:p.2≠old:=fun e=>hne (congrArg Prod.fst (h.one p hp _ hmem e))
      refine⟨?_,?_⟩
      ·show (s.used.set old false).getD p.2 false=true
       rw[getD_set,if_neg (fun h9=>hpo h9.1.symm)]
       exact t2
      ·show cont (d1.remove (path old)).1 _=_
       rw[m3,if_neg (fun e=>hpo (path_inj t4 ho4 e)),k1 _ (path_log t4),if_neg (fun e=>hnot p hp (path_inj t4 hn4 e))]
     ·intro i hi hin hs
      change (cont (d1.remove (path old)).1 _).isSome=true at hs
      show (s.used.set old false).getD i false=true
      rw[m3]at hs
      by_cases hio:i=old
      ·rw[if_pos (by rw[hio])]at hs
       cases hs
      ·rw[if_neg (fun e=>hio (path_inj hi ho4 e)),k1 _ (path_log hi),if_neg (fun e=>hin (path_inj hi hn4 e))]at hs
       rw[getD_set,if_neg (fun h9=>hio h9.1.symm)]
       exact h.free i hi hs
theorem Inv.get {s:Sto} (h:Inv s) {id:ByteArray} (hi:id∈s.ids):∃ E,s.get id=some E:=by
 unfold Sto.ids at hi
 obtain⟨p,hp,rfl⟩:=List.mem_map.1 hi
 obtain⟨t1,t2,c,E,t3,t4⟩:=h.tab p hp
 refine⟨E,?_⟩
 unfold Sto.get
 rw[D.mem_find h.up hp]
 dsimp only
 unfold read
 rw[h.calm.read (path_good (Nat.lt_of_lt_of_le t1 h.lens)),t3]
 exact t4
theorem get_same {s s':Sto} (h:Inv s) (h':Inv s') (ht:s'.tab=s.tab) (hk:∀ x,cont s'.d x=cont s.d x) {id:ByteArray} (hi:id∈s.ids):s'.get id=s.get id:=by
 unfold Sto.ids at hi
 obtain⟨p,hp,rfl⟩:=List.mem_map.1 hi
 have hg:=path_good (Nat.lt_of_lt_of_le (h.tab p hp).1 h.lens)
 unfold Sto.get
 rw[ht,D.mem_find h.up hp]
 dsimp only
 unfold read
 rw[h.calm.read hg,h'.calm.read hg,hk]
end S
end Go.Proofs.YthjeglnkgdpijaaGreatDoor
