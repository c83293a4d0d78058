/- A store without faults and with room: what it keeps through Puts and Drops, and that one that is opened anew has the same. No program here. -/
import Derived.Test.YthjeglnkgdpijaaGreatDoorZ08
namespace Go.Proofs.YthjeglnkgdpijaaGreatDoor
namespace S
open D (cont Clm Cl)
section
variable {d:D.Dsk} {p:ByteArray} {u:Nat}
theorem aQB (h:Cl none u d) (hg:D.good p=true) (hc:cont d p=none) (b:List UInt8) (hr:u+b.length≤1073741824) :
  (lay d p b).2=(true,0)∧Cl none (u+b.length) (lay d p b).1∧∀ x,cont (lay d p b).1 x=if x=p then some b else cont d x:=by
 have h0:¬ has d.list p=true:=fun hm=>by
  rw[has_iff,h.calm.mem,hc]at hm
  cases hm
 obtain⟨e1,c1,k1⟩:=h.create hg hc
 obtain⟨e2,c2,k2⟩:=c1.append hg (c:=[]) (by rw[k1,if_pos rfl]) b hr
 obtain⟨e3,c3,k3⟩:=c2.sync hg (c:=[]++b) (by rw[k2,if_pos rfl]) (.inr rfl)
 obtain⟨e4,c4,k4⟩:=c3.syncNames
 unfold lay
 rw[if_neg h0]
 dsimp only
 rw[if_neg (by decide),if_neg (by rw[e1];decide),if_neg (by rw[e2];decide),if_neg (by rw[e3];decide)]
 refine⟨by rw[e4],c4,fun x=>?_⟩
 show cont _ x=_
 rw[k4,k3,k2,k1]
 by_cases hx:x=p
 ·rw[if_pos hx,if_pos hx,List.nil_append]
 ·rw[if_neg hx,if_neg hx,if_neg hx]
theorem aNJ (h:Cl none u d) {c:List UInt8} (hc:cont d bM=some c) (count:Nat) (op no:Int) (id:ByteArray) (hr:R.code ⟨count,op,no,id⟩=0) (hu:u+4111≤1073741824) :
  (add d count op no id).2=(count+1,0)∧Cl none (u+4111) (add d count op no id).1∧∀ x,cont (add d count op no id).1 x=if x=bM then some (c++R.enc ⟨count,op,no,id⟩) else cont d x:=by
 have hl:=R.zG _ hr
 have hi:id.size≤4096:=(R.oJ hr).2.2.2.2.2
 dsimp only at hl
 obtain⟨e2,c2,k2⟩:=h.append dP hc (R.enc ⟨count,op,no,id⟩) (by omega)
 obtain⟨e3,c3,k3⟩:=c2.sync dP (c:=c++R.enc ⟨count,op,no,id⟩) (by rw[k2,if_pos rfl]) (.inr rfl)
 unfold add
 rw[if_neg (by rw[hr];decide),if_neg (by rw[e2];decide)]
 exact⟨by rw[e3],c3.mono (by omega),fun x=>by rw[k3,k2]⟩
theorem aFO (h:Cl none u d) {c:List UInt8} (_hc:cont d bM=some c) (hn:cont d dB=none) (count:Nat) (list:List R.Rc) (hg:∀ r∈R.iT 0 list,R.code r=0) (hu:u+4111 * list.length≤1073741824) :
  (rewrite d count list).2=(list.length,0)∧Cl none (u+4111 * list.length) (rewrite d count list).1∧∀ x,cont (rewrite d count list).1 x=if x=bM then some (R.encs (R.iT 0 list)) else cont d x:=by
 have hea:=R.pF list 0 [] hg
 rw[List.nil_append]at hea
 have hlen:=(R.aEN _ hg).2
 rw[R.sD]at hlen
 unfold rewrite
 rw[hea,if_neg (by show ¬ (0:Int)≠0;decide)]
 dsimp only
 generalize R.encs (R.iT 0 list)=b at *
 obtain⟨e1,c1,k1⟩:=h.create fM hn
 obtain⟨e2,c2,k2⟩:=c1.append fM (c:=[]) (by rw[k1,if_pos rfl]) b (by omega)
 obtain⟨e3,c3,k3⟩:=c2.sync fM (c:=[]++b) (by rw[k2,if_pos rfl]) (.inr rfl)
 obtain⟨e4,c4,k4⟩:=c3.rename fM dP jA (c:=[]++b) (by rw[k3,k2,if_pos rfl])
 obtain⟨e5,c5,k5⟩:=c4.syncNames
 have hs:steps d (moves b)=(((((d.create dB).1.append dB b).1.sync dB).1.rename dB bM).1,4,0):=by
  simp [steps,moves,e1,e2,e3,e4]
 rw[hs]
 dsimp only
 rw[if_pos rfl]
 refine⟨by rw[e5],c5.mono (by omega),fun x=>?_⟩
 rw[k5,k4]
 by_cases hx:x=bM
 ·rw[if_pos hx,if_pos hx,List.nil_append]
 ·rw[if_neg hx,if_neg hx,k3,k2,k1]
  by_cases hx2:x=dB
  ·rw[if_pos hx2,hx2,hn]
  ·rw[if_neg hx2,if_neg hx2,if_neg hx2]
end
theorem marks_at (n:Nat) (t:D.NM) (m:Nat):(marks n t).getD m false=true↔m < n∧∃ p∈t,p.2=m:=by
 unfold marks
 by_cases h:m < n
 ·simp [List.getD,h]
 ·simp [List.getD,h]
theorem aBD {n:Nat} {t:D.NM} {l:List Bool} (hl:l.length=n) (h:∀ m,m < n→(l.getD m false=true↔∃ p∈t,p.2=m)):l=marks n t:=by
 apply List.ext_getElem
 ·rw[hl,dY]
 ·intro m h1 h2
  have h3:=h m (by omega)
  have h4:=marks_at n t m
  have e1:l.getD m false=l[m]:=by simp [List.getD,h1]
  have e2:(marks n t).getD m false=(marks n t)[m]:=by simp [List.getD,h2]
  rw[e1]at h3
  rw[e2]at h4
  rw[Bool.eq_iff_iff,h3,h4]
  exact⟨fun h=>⟨by omega,h⟩,fun h=>h.2⟩
structure bG (n i u:Nat) (s:Sto):Prop where
 cl:Cl none u s.d
 new:cont s.d dB=none
 up:D.Up s.tab
 le:n≤4096
 used:s.used=marks n s.tab
 tab:∀ p∈s.tab,p.2 < n∧p.1.size≤4096∧∃ E,cont s.d (path p.2)=some (gY E)∧iG E=0∧aV E=p.1
 one:∀ p∈s.tab,∀ q∈s.tab,p.2=q.2→p=q
 names:∀ x,(cont s.d x).isSome=true→x=bM∨∃ p∈s.tab,x=path p.2
 log:∃ rs,cont s.d bM=some (R.encs rs)∧R.Good rs∧rs.length=s.count∧aHS rs=s.tab
 len:s.tab.length≤i
 count:s.count≤i
theorem mW {E:O.Ent} (h:iG E=0):O.dec (gY E)=some E:=by
 rcases O.qR E.k E.v E.s E.r E.m E.fs E.body E.asked E.got with ⟨_,h2⟩ | ⟨h2,_⟩
 ·exact h2
 ·exact absurd h2 (by unfold iG at h;omega)
theorem aMB {E:O.Ent} (h:iG E=0):(gY E).length≤100000:=by
 have:=mW h
 obtain⟨h1,h2,_⟩:=O.gU this
 exact (O.nI h1 h2).len.2
section
variable {n i u:Nat} {s:Sto}
theorem bG.no4 (h:bG n i u s) {p:ByteArray × Nat} (hp:p∈s.tab):p.2 < 4096:=Nat.lt_of_lt_of_le (h.tab p hp).1 h.le
theorem bG.mono {j v:Nat} (h:bG n i u s) (hj:i≤j) (hv:u≤v):bG n j v s :=
 ⟨h.cl.mono hv,h.new,h.up,h.le,h.used,h.tab,h.one,h.names,h.log,bD h.len hj,bD h.count hj⟩
theorem bG.get (h:bG n i u s) (id:ByteArray):s.get id=match D.find s.tab id with | none=>none | some no=>(cont s.d (path no)).bind O.dec:=by
 unfold Sto.get
 cases hf:D.find s.tab id with
 | none=>rfl
 | some no =>
  dsimp only
  unfold read
  rw[h.cl.calm.read (fE (h.no4 (D.aN hf)))]
  cases cont s.d (path no)<;>rfl
theorem bG.same {j v:Nat} {s':Sto} (h:bG n i u s) (h':bG n j v s') (ht:s'.tab=s.tab) (hk:∀ x,x≠bM→cont s'.d x=cont s.d x) (id:ByteArray):s'.get id=s.get id:=by
 rw[h.get,h'.get,ht]
 cases hf:D.find s.tab id with
 | none=>rfl
 | some no =>
  dsimp only
  rw[hk _ (aW (h.no4 (D.aN hf)))]
theorem bG.tidy (h:bG n i u s) (hi:i≤100) (hu:u≤1000000000):bG n i (u+411100) s.tidy∧s.tidy.tab=s.tab∧∀ id,s.tidy.get id=s.get id:=by
 have hlen:=h.len
 by_cases hc:s.count≤2 * s.tab.length+16
 ·have e:s.tidy=s:=if_pos hc
  rw[e]
  exact⟨h.mono (zA _) (by omega),rfl,fun _=>rfl⟩
 have e:s.tidy=s.rewrite.1:=if_neg hc
 obtain⟨rs,l1,l2,l3,l4⟩:=h.log
 have hrl:(records s.tab).length=s.tab.length:=by unfold records;rw[List.length_map]
 have hg:=aAX (t:=s.tab) (fun p hp=>⟨h.no4 hp,(h.tab p hp).2.1⟩) (by omega)
 obtain⟨r1,r2,r3⟩:=aFO h.cl l1 h.new s.count (records s.tab) hg.code (by rw[hrl];omega)
 rw[hrl]at r1 r2
 have hK:bG n i (u+411100) s.rewrite.1:=by
  refine⟨r2.mono (by omega),?_,h.up,h.le,h.used,fun p hp=>?_,h.one,fun x hx=>?_,⟨R.iT 0 (records s.tab),?_,hg,?_,aCJ h.up⟩,h.len,?_⟩
  ·show cont (S.rewrite _ _ _).1 _=_
   rw[r3,if_neg jA,h.new]
  ·obtain⟨t1,t2,E,t3,t4⟩:=h.tab p hp
   refine⟨t1,t2,E,?_,t4⟩
   show cont (S.rewrite _ _ _).1 _=_
   rw[r3,if_neg (aW (h.no4 hp)),t3]
  ·change (cont (S.rewrite _ _ _).1 x).isSome=true at hx
   rw[r3]at hx
   by_cases hxl:x=bM
   ·exact .inl hxl
   ·rw[if_neg hxl]at hx
    exact h.names x hx
  ·show cont (S.rewrite _ _ _).1 _=_
   rw[r3,if_pos rfl]
  ·show _=(S.rewrite s.d s.count (records s.tab)).2.1
   rw[R.sD,hrl,r1]
  ·show (S.rewrite s.d s.count (records s.tab)).2.1≤i
   rw[r1]
   exact hlen
 rw[e]
 refine⟨hK,rfl,h.same hK rfl fun x hx=>?_⟩
 show cont (S.rewrite _ _ _).1 _=_
 rw[r3,if_neg hx]
theorem bG.free_no (h:bG n i u s) {no:Nat} (hno:no < n) (hf:∀ p∈s.tab,p.2≠no):cont s.d (path no)=none:=by
 cases hc:cont s.d (path no) with
 | none=>rfl
 | some c =>
  have hn4:no < 4096:=Nat.lt_of_lt_of_le hno h.le
  rcases h.names (path no) (by rw[hc];rfl) with e | ⟨p,hp,e⟩
  ·exact absurd e (aW hn4)
  ·exact absurd (dE hn4 (h.no4 hp) e).symm (hf p hp)
theorem bG.enter0 (h:bG n i u s) (hi:i+1≤100) (hu:u+110000≤1000000000) {E:O.Ent} (hE:iG E=0) (hid:(aV E).size≤4096) {no:Nat} (hno:no < n) (hf:∀ p∈s.tab,p.2≠no) :
  ∃ d1 d2 us,(lay s.d (path no) (gY E)).2=(true,0)∧add (lay s.d (path no) (gY E)).1 s.count 1 no (aV E)=(d1,s.count+1,0)∧Cl none (u+105000) d1 ∧
   (∀ x,x≠bM→x≠path no→cont d1 x=cont s.d x)∧cont d1 (path no)=some (gY E) ∧
   ((({ s with d:=d1,count:=s.count+1 }:Sto).freed (aV E)).took no (aV E))=⟨d2,s.count+1,D.put s.tab (aV E) no,us⟩ ∧
   bG n (i+1) (u+110000) ⟨d2,s.count+1,D.put s.tab (aV E) no,us⟩∧(∀ x,(∀ old,D.find s.tab (aV E)=some old→x≠path old)→cont d2 x=cont d1 x) ∧
   ∀ id,(⟨d2,s.count+1,D.put s.tab (aV E) no,us⟩:Sto).get id=if id=aV E then some E else s.get id:=by
 have hn4:no < 4096:=Nat.lt_of_lt_of_le hno h.le
 have hbl:=aMB hE
 obtain⟨rs,g1,g2,g3,g4⟩:=h.log
 obtain⟨l1,l2,l3⟩:=aQB h.cl (fE hn4) (h.free_no hno hf) (gY E) (by omega)
 have hcode:R.code ⟨s.count,1,no,aV E⟩=0:=R.zS (.inl rfl) (by have:=h.count;omega) (by omega) hid
 obtain⟨a1,a2,a3⟩:=aNJ l2 (c:=R.encs rs) (by rw[l3,if_neg (fun e=>aW hn4 e.symm),g1]) s.count 1 no (aV E) hcode (by omega)
 obtain⟨d1,hd1⟩:∃ d1,(add (lay s.d (path no) (gY E)).1 s.count 1 no (aV E)).1=d1:=⟨_,rfl⟩
 rw[hd1]at a2 a3
 have k1:∀ x,x≠bM→x≠path no→cont d1 x=cont s.d x:=fun x h1 h2=>by rw[a3,if_neg h1,l3,if_neg h2]
 have k2:cont d1 (path no)=some (gY E):=by rw[a3,if_neg (aW hn4),l3,if_pos rfl]
 have k3:cont d1 bM=some (R.encs (rs++[⟨s.count,1,no,aV E⟩])):=by
  rw[a3,if_pos rfl]
  unfold R.encs
  simp
 -- behind the freeing of the old number
 have key:∃ d2 us,(({ s with d:=d1,count:=s.count+1 }:Sto).freed (aV E))={ s with d:=d2,count:=s.count+1,used:=us }∧Cl none (u+110000) d2∧us.length=n ∧
   (∀ m,m < n→(us.getD m false=true↔∃ p∈s.tab,p.1≠aV E∧p.2=m))∧(∀ x,(∀ old,D.find s.tab (aV E)=some old→x≠path old)→cont d2 x=cont d1 x)∧∀ old,D.find s.tab (aV E)=some old→cont d2 (path old)=none:=by
  unfold Sto.freed
  dsimp only
  have hul:s.used.length=n:=by rw[h.used,dY]
  cases hold:D.find s.tab (aV E) with
  | none =>
   refine⟨d1,s.used,rfl,a2.mono (by omega),hul,fun m hm=>?_,fun _ _=>rfl,(fun _ e=>by cases e)⟩
   rw[h.used,marks_at]
   constructor
   ·rintro⟨_,p,hp,e⟩
    exact⟨p,hp,D.jT hold p hp,e⟩
   ·rintro⟨p,hp,_,e⟩
    exact⟨hm,p,hp,e⟩
  | some old =>
   have hmem:=D.aN hold
   have ho4:=h.no4 hmem
   have hon:old≠no:=hf _ hmem
   obtain⟨t1,t2,E2,t3,t4⟩:=h.tab _ hmem
   obtain⟨_,m2,m3⟩:=a2.remove (fE ho4) (c:=gY E2) (by rw[k1 _ (aW ho4) (fun e=>hon (dE ho4 hn4 e))];exact t3)
   refine⟨(d1.remove (path old)).1,s.used.set old false,rfl,m2.mono (by omega),by rw[List.length_set,hul],fun m hm=>?_,fun x hx=>by rw[m3,if_neg (hx old rfl)],fun o ho=>?_⟩
   ·rw[jD]
    by_cases hmo:old=m
    ·rw[if_pos ⟨hmo,by rw[hul];exact t1⟩]
     constructor
     ·intro h9;cases h9
     ·rintro⟨p,hp,h1,h2⟩
      exact absurd (congrArg Prod.fst (h.one p hp _ hmem (by show p.2=old;omega))) h1
    ·rw[if_neg (fun h9=>hmo h9.1),h.used,marks_at]
     constructor
     ·rintro⟨_,p,hp,e⟩
      refine⟨p,hp,fun e2=>?_,e⟩
      have:=D.fB h.up hp
      rw[e2,hold]at this
      exact hmo ((Option.some.inj this).trans e)
     ·rintro⟨p,hp,_,e⟩
      exact⟨hm,p,hp,e⟩
   ·have:old=o:=Option.some.inj ho
    rw[m3,if_pos (by rw[this])]
 obtain⟨d2,us,e2,c2,ul,um,kx,ko⟩:=key
 have hold_no:∀ old,D.find s.tab (aV E)=some old→path no≠path old:=fun old ho e=>hf _ (D.aN ho) (dE hn4 (h.no4 (D.aN ho)) e).symm
 have hold_log:∀ old,D.find s.tab (aV E)=some old→bM≠path old:=fun old ho e=>aW (h.no4 (D.aN ho)) e.symm
 have kp:∀ p∈s.tab,p.1≠aV E→cont d2 (path p.2)=cont s.d (path p.2):=fun p hp hne=>by
  rw[kx _ (fun old ho e=>hne (congrArg Prod.fst (h.one p hp _ (D.aN ho) (dE (h.no4 hp) (h.no4 (D.aN ho)) e)))),k1 _ (aW (h.no4 hp)) (fun e=>hf p hp (dE (h.no4 hp) hn4 e))]
 have kn:cont d2 (path no)=some (gY E):=by rw[kx _ hold_no,k2]
 have hK:bG n (i+1) (u+110000) (⟨d2,s.count+1,D.put s.tab (aV E) no,us.set no true⟩:Sto):=by
  refine⟨c2,?_,D.rG h.up _ _,h.le,?_,fun p hp=>?_,D.yM h.one hf,fun x hx=>?_,⟨rs++[⟨s.count,1,no,aV E⟩],?_,⟨fun r hr=>?_,R.rU g2.seq (by show (s.count:Int)=_;rw[← g3,Nat.zero_add])⟩,by rw[bC,List.length_singleton,g3],?_⟩,?_,?_⟩
  ·show cont d2 dB=none
   rw[kx _ (fun old ho e=>mD (h.no4 (D.aN ho)) e.symm),k1 _ jA (fun e=>mD hn4 e.symm),h.new]
  ·refine aBD (by rw[List.length_set,ul]) fun m hm=>?_
   rw[jD]
   by_cases hmn:no=m
   ·rw[if_pos ⟨hmn,by rw[ul];exact hno⟩]
    exact⟨fun _=>⟨(aV E,no),D.cZ.2 (.inl rfl),hmn⟩,fun _=>rfl⟩
   ·rw[if_neg (fun h9=>hmn h9.1),um m hm]
    constructor
    ·rintro⟨p,hp,h1,h2⟩
     exact⟨p,D.cZ.2 (.inr ⟨hp,h1⟩),h2⟩
    ·rintro⟨p,hp,h2⟩
     rcases D.cZ.1 hp with rfl | ⟨hp,h1⟩
     ·exact absurd h2 hmn
     ·exact⟨p,hp,h1,h2⟩
  ·rcases D.cZ.1 hp with rfl | ⟨hp,h1⟩
   ·exact⟨hno,hid,E,kn,hE,rfl⟩
   ·obtain⟨t1,t2,E2,t3,t4⟩:=h.tab p hp
    exact⟨t1,t2,E2,(kp p hp h1).trans t3,t4⟩
  ·change (cont d2 x).isSome=true at hx
   by_cases hxl:x=bM
   ·exact .inl hxl
   by_cases hxn:x=path no
   ·exact .inr ⟨(aV E,no),D.cZ.2 (.inl rfl),hxn⟩
   by_cases hxo:∃ old,D.find s.tab (aV E)=some old∧x=path old
   ·obtain⟨old,ho,rfl⟩:=hxo
    rw[ko old ho]at hx
    cases hx
   ·rw[kx x (fun old ho e=>hxo ⟨old,ho,e⟩),k1 x hxl hxn]at hx
    rcases h.names x hx with e | ⟨p,hp,e⟩
    ·exact .inl e
    ·refine .inr ⟨p,D.cZ.2 (.inr ⟨hp,fun e3=>hxo ⟨p.2,?_,e⟩⟩),e⟩
     rw[← e3]
     exact D.fB h.up hp
  ·show cont d2 bM=_
   rw[kx _ hold_log,k3]
  ·rcases List.mem_append.1 hr with hr | hr
   ·exact g2.code r hr
   ·rw[List.mem_singleton.1 hr]
    exact hcode
  ·rw[wE,g4]
   unfold aCH
   rw[if_pos rfl]
   show D.put s.tab (aV E) ((no:Int)).toNat=_
   rw[Int.toNat_natCast]
  ·have:=D.fP s.tab (aV E) no
   have:=h.len
   show (D.put s.tab (aV E) no).length≤_
   omega
  ·have:=h.count
   show s.count+1≤_
   omega
 refine⟨d1,d2,us.set no true,l1,by rw[← hd1,← a1],a2.mono (by omega),k1,k2,by rw[e2];rfl,hK,kx,fun id=>?_⟩
 rw[hK.get,h.get]
 show (match D.find (D.put s.tab (aV E) no) id with | none=>none | some no=>(cont d2 (path no)).bind O.dec)=_
 rw[D.qQ]
 by_cases hx:id=aV E
 ·rw[if_pos hx,if_pos hx]
  dsimp only
  rw[kn]
  exact mW hE
 ·rw[if_neg hx,if_neg hx]
  cases hfi:D.find s.tab id with
  | none=>rfl
  | some m =>
   dsimp only
   rw[kp _ (D.aN hfi) hx]
theorem bG.enter (h:bG n i u s) (hi:i+1≤100) (hu:u+110000≤1000000000) {E:O.Ent} (hE:iG E=0) (hid:(aV E).size≤4096) {no:Nat} (hno:no < n) (hf:∀ p∈s.tab,p.2≠no) :
  (s.entered no (aV E) (lay s.d (path no) (gY E))).2=0∧bG n (i+1) (u+521100) (s.entered no (aV E) (lay s.d (path no) (gY E))).1 ∧
  ∀ id,(s.entered no (aV E) (lay s.d (path no) (gY E))).1.get id=if id=aV E then some E else s.get id:=by
 obtain⟨d1,d2,us,l1,a1,_,_,_,e2,hK,_,hG⟩:=h.enter0 hi hu hE hid hno hf
 unfold Sto.entered
 rw[l1]
 dsimp only
 rw[if_pos rfl,a1]
 dsimp only
 rw[if_neg (by omega),e2]
 obtain⟨t1,t2,t3⟩:=hK.tidy hi hu
 exact⟨rfl,t1.mono (zA _) (by omega),fun id=>(t3 id).trans (hG id)⟩
theorem bG.put (h:bG n i u s) (hi:i+1≤100) (hu:u+110000≤1000000000) (E:O.Ent) :
  ((s.put E).2≠0∧(s.put E).1=s)∨((s.put E).2=0∧iG E=0∧bG n (i+1) (u+521100) (s.put E).1∧∀ id,(s.put E).1.get id=if id=aV E then some E else s.get id):=by
 unfold Sto.put
 by_cases h0:iG E≠0
 ·rw[if_pos h0]
  exact .inl ⟨h0,rfl⟩
 rw[if_neg h0]
 by_cases h1:4096 < (aV E).size
 ·rw[if_pos h1]
  exact .inl ⟨by show (101:Int)≠0;decide,rfl⟩
 rw[if_neg h1]
 cases hf:s.used.findIdx? (fun x=>decide (x=false)) with
 | none=>exact .inl ⟨by show (130:Int)≠0;decide,rfl⟩
 | some no =>
  dsimp only
  rw[List.findIdx?_eq_some_iff_getElem]at hf
  obtain⟨hnl,hnf,_⟩:=hf
  have hul:s.used.length=n:=by rw[h.used,dY]
  have hnv:s.used.getD no false=false:=by
   simp [List.getD,hnl]at hnf ⊢
   exact hnf
  obtain⟨e1,e2,e3⟩:=h.enter hi hu (E:=E) (by omega) (by omega) (no:=no) (by omega) (fun p hp e=>by
   have:=(marks_at n s.tab no).2 ⟨by omega,p,hp,e⟩
   rw[← h.used,hnv]at this
   cases this)
  exact .inr ⟨e1,by omega,e2,e3⟩
theorem bG.drop0 (h:bG n i u s) (hi:i+1≤100) (hu:u+110000≤1000000000) {id:ByteArray} {no:Nat} (hf:D.find s.tab id=some no) :
  ∃ d1,add s.d s.count 2 no id=(d1,s.count+1,0)∧Cl none (u+4111) d1∧(cont d1 (path no)).isSome=true∧(∀ x,x≠bM→cont d1 x=cont s.d x)∧(∀ x,cont (d1.remove (path no)).1 x=if x=path no then none else cont d1 x) ∧
   bG n (i+1) (u+110000) ⟨(d1.remove (path no)).1,s.count+1,D.del s.tab id,s.used.set no false⟩∧∀ x,(⟨(d1.remove (path no)).1,s.count+1,D.del s.tab id,s.used.set no false⟩:Sto).get x=if x=id then none else s.get x:=by
 have hmem:=D.aN hf
 have hn4:=h.no4 hmem
 obtain⟨rs,g1,g2,g3,g4⟩:=h.log
 have hcode:R.code ⟨s.count,2,no,id⟩=0:=R.zS (.inr rfl) (by have:=h.count;omega) (by omega) (h.tab _ hmem).2.1
 obtain⟨a1,a2,a3⟩:=aNJ h.cl (c:=R.encs rs) g1 s.count 2 no id hcode (by omega)
 obtain⟨d1,hd1⟩:∃ d1,(add s.d s.count 2 no id).1=d1:=⟨_,rfl⟩
 rw[hd1]at a2 a3
 refine⟨d1,by rw[← hd1,← a1],a2,?_⟩
 obtain⟨t1,t2,E2,t3,t4⟩:=h.tab _ hmem
 have k1:∀ x,x≠bM→cont d1 x=cont s.d x:=fun x h1=>by rw[a3,if_neg h1]
 have k3:cont d1 bM=some (R.encs (rs++[⟨s.count,2,no,id⟩])):=by
  rw[a3,if_pos rfl]
  unfold R.encs
  simp
 obtain⟨_,m2,m3⟩:=a2.remove (fE hn4) (c:=gY E2) (by rw[k1 _ (aW hn4)];exact t3)
 refine⟨by rw[k1 _ (aW hn4),show cont s.d (path no)=some (gY E2) from t3];rfl,k1,m3,?_⟩
 generalize (d1.remove (path no)).1=d2 at m2 m3 ⊢
 have hul:s.used.length=n:=by rw[h.used,dY]
 have kp:∀ p∈s.tab,p.1≠id→cont d2 (path p.2)=cont s.d (path p.2):=fun p hp hne=>by
  rw[m3,if_neg (fun e=>hne (congrArg Prod.fst (h.one p hp _ hmem (dE (h.no4 hp) hn4 e)))),k1 _ (aW (h.no4 hp))]
 have hK:bG n (i+1) (u+110000) (⟨d2,s.count+1,D.del s.tab id,s.used.set no false⟩:Sto):=by
  refine⟨m2.mono (by omega),?_,D.rH h.up _,h.le,?_,fun p hp=>?_,D.aC4 h.one,fun x hx=>?_,⟨rs++[⟨s.count,2,no,id⟩],?_,⟨fun r hr=>?_,R.rU g2.seq (by show (s.count:Int)=_;rw[← g3,Nat.zero_add])⟩,by rw[bC,List.length_singleton,g3],?_⟩,?_,?_⟩
  ·show cont d2 dB=none
   rw[m3,if_neg (fun e=>mD hn4 e.symm),k1 _ jA,h.new]
  ·refine aBD (by rw[List.length_set,hul]) fun m hm=>?_
   rw[jD]
   by_cases hmn:no=m
   ·rw[if_pos ⟨hmn,by rw[hul];exact t1⟩]
    constructor
    ·intro h9;cases h9
    ·rintro⟨p,hp,h2⟩
     exact absurd (congrArg Prod.fst (h.one p (D.bY.1 hp).1 _ hmem (by show p.2=no;omega))) (D.bY.1 hp).2
   ·rw[if_neg (fun h9=>hmn h9.1),h.used,marks_at]
    constructor
    ·rintro⟨_,p,hp,e⟩
     refine⟨p,D.bY.2 ⟨hp,fun e2=>?_⟩,e⟩
     have:=D.fB h.up hp
     rw[e2,hf]at this
     exact hmn ((Option.some.inj this).trans e)
    ·rintro⟨p,hp,e⟩
     exact⟨hm,p,(D.bY.1 hp).1,e⟩
  ·obtain⟨hp,h1⟩:=D.bY.1 hp
   obtain⟨t1,t2,E2,t3,t4⟩:=h.tab p hp
   exact⟨t1,t2,E2,(kp p hp h1).trans t3,t4⟩
  ·change (cont d2 x).isSome=true at hx
   rw[m3]at hx
   by_cases hxn:x=path no
   ·rw[if_pos hxn]at hx
    cases hx
   rw[if_neg hxn]at hx
   by_cases hxl:x=bM
   ·exact .inl hxl
   rw[k1 x hxl]at hx
   rcases h.names x hx with e | ⟨p,hp,e⟩
   ·exact .inl e
   ·refine .inr ⟨p,D.bY.2 ⟨hp,fun e3=>hxn ?_⟩,e⟩
    have:=D.fB h.up hp
    rw[e3,hf]at this
    rw[e,Option.some.inj this]
  ·show cont d2 bM=_
   rw[m3,if_neg (fun e=>aW hn4 e.symm),k3]
  ·rcases List.mem_append.1 hr with hr | hr
   ·exact g2.code r hr
   ·rw[List.mem_singleton.1 hr]
    exact hcode
  ·rw[wE,g4]
   rfl
  ·have:=D.kH s.tab id
   have:=h.len
   show (D.del s.tab id).length≤_
   omega
  ·have:=h.count
   show s.count+1≤_
   omega
 refine⟨hK,fun x=>?_⟩
 rw[hK.get,h.get]
 show (match D.find (D.del s.tab id) x with | none=>none | some no=>(cont d2 (path no)).bind O.dec)=_
 rw[D.mP]
 by_cases hx:x=id
 ·rw[if_pos hx,if_pos hx]
 ·rw[if_neg hx,if_neg hx]
  cases hfi:D.find s.tab x with
  | none=>rfl
  | some m =>
   dsimp only
   rw[kp _ (D.aN hfi) hx]
theorem bG.drop (h:bG n i u s) (hi:i+1≤100) (hu:u+110000≤1000000000) {id:ByteArray} {no:Nat} (hf:D.find s.tab id=some no) :
  (s.drop id).2=0∧bG n (i+1) (u+521100) (s.drop id).1∧∀ x,(s.drop id).1.get x=if x=id then none else s.get x:=by
 obtain⟨d1,a1,_,_,_,_,hK,hG⟩:=h.drop0 hi hu hf
 unfold Sto.drop
 rw[hf]
 dsimp only
 rw[a1]
 dsimp only
 rw[if_neg (by omega)]
 obtain⟨q1,q2,q3⟩:=hK.tidy hi hu
 exact⟨rfl,q1.mono (zA _) (by omega),fun x=>(q3 x).trans (hG x)⟩
theorem bG.get_some (h:bG n i u s) (id:ByteArray):(s.get id).isSome=(D.find s.tab id).isSome:=by
 rw[h.get]
 cases hf:D.find s.tab id with
 | none=>rfl
 | some no =>
  dsimp only
  obtain⟨_,_,E,t3,t4,_⟩:=h.tab _ (D.aN hf)
  rw[show cont s.d (path no)=some (gY E) from t3]
  show (O.dec (gY E)).isSome=true
  rw[mW t4]
  rfl
end
theorem bG.start {n:Nat} (hn:n≤4096):bG n 0 0 ⟨born 1073741824,0,[],marks n []⟩:=by
 have h:Cl none 0 (fresh 1073741824):=⟨oD (by decide),(fun _ h=>by cases h),zA _,rfl⟩
 have hc:∀ x,cont (fresh 1073741824) x=none:=fun _=>rfl
 obtain⟨e1,c1,k1⟩:=h.create dP (hc _)
 obtain⟨e2,c2,k2⟩:=c1.sync dP (c:=[]) (by rw[k1,if_pos rfl]) (.inl rfl)
 obtain⟨e3,c3,k3⟩:=c2.syncNames
 have k:∀ x,cont (born 1073741824) x=if x=bM then some [] else none:=fun x=>by
  unfold born
  rw[k3,k2,k1,hc]
 refine⟨c3,by rw[k,if_neg jA],List.Pairwise.nil,hn,rfl,(fun _ h=>by cases h),(fun _ h=>by cases h),fun x hx=>?_,⟨[],by rw[k,if_pos rfl];rfl,⟨(fun _ h=>by cases h),trivial⟩,rfl,rfl⟩,zA _,zA _⟩
 rw[k]at hx
 by_cases hxl:x=bM
 ·exact .inl hxl
 ·rw[if_neg hxl]at hx
  cases hx
end S
end Go.Proofs.YthjeglnkgdpijaaGreatDoor
