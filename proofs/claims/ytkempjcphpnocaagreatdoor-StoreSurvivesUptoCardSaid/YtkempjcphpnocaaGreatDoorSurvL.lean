/- A script of Puts and Drops on a disk that may lose its power: what its tries tell of what is left. No program here but the rows of tries. -/
import Derived.Test.YtkempjcphpnocaaGreatDoorSurvO
namespace Go.Proofs.YtkempjcphpnocaaGreatDoor
namespace D
def Inj (l:NM):Prop:=∀ p∈l,∀ q∈l,p.2=q.2→p=q
def Dsk.tot (d:Dsk):Nat:=(d.data.map List.length).sum
structure Lw (k t:Nat) (d:Dsk):Prop where
 fit:Fit k d
 one:∀ j:Nat,Inj ((d.pend.take j).foldl Chg.app d.safe)
 tot:d.tot≤t
theorem set_sum (b:List UInt8):∀ (l:List (List UInt8)) (no:Nat),((l.set no (l.getD no []++b)).map List.length).sum≤(l.map List.length).sum+b.length
 | [],_=>Nat.zero_le _
 | x::r,0=>by simp;omega
 | x::r,no+1=>by
  have:=set_sum b r no
  simp only[List.set_cons_succ,List.map_cons,List.sum_cons,List.getD_cons_succ]
  omega
section
variable {k t u:Nat} {d:Dsk}
theorem Lw.now (h:Lw k t d):Inj d.now:=by
 have:=h.one d.pend.length
 rwa [List.take_length,← h.fit.ok.fold]at this
theorem Lw.of (hf:Fit k d) (h:(∀ j:Nat,Inj ((d.pend.take j).foldl Chg.app d.safe))∧d.tot≤t):Lw k t d:=⟨hf,h.1,h.2⟩
theorem Lw.mono {m v:Nat} (h:Lw k t d) (hm:k≤m) (hv:t≤v):Lw m v d:=⟨h.fit.mono hm,h.one,Nat.le_trans h.tot hv⟩
theorem one_alter {d:Dsk} {c:Chg} (h:∀ j:Nat,Inj ((d.pend.take j).foldl Chg.app d.safe)) (hf:d.now=d.pend.foldl Chg.app d.safe) (hc:Inj (c.app d.now)) (j:Nat):Inj (((d.pend++[c]).take j).foldl Chg.app d.safe):=by
 by_cases hj:j≤d.pend.length
 ·rw[List.take_append_of_le_length hj]
  exact h j
 ·rw[List.take_of_length_le (by rw[List.length_append,List.length_singleton];omega),List.foldl_append,← hf]
  exact hc
theorem Lw.on (h:Lw k t d) (nm:ByteArray) (more:List ByteArray) (f:Dsk→Nat→Dsk × Int) (hf1:Fit (k+1) (d.on nm more f).1) (hf:∀ (s:Dsk) (no:Nat),s.now=d.now→s.safe=d.safe→s.pend=d.pend→s.data=d.data→find d.now nm=some no→(∀ j:Nat,Inj (((f s no).1.pend.take j).foldl Chg.app (f s no).1.safe))∧(f s no).1.tot≤u) (hu:t≤u):Lw (k+1) u (d.on nm more f).1:=by
 obtain⟨n,hn⟩:=d.begin_as (more++[nm])
 refine Lw.of hf1 ?_
 unfold Dsk.on
 cases hbe:d.begin (more++[nm]) with
 | mk s1 e =>
  rw[hbe]at hn
  dsimp only at hn ⊢
  subst hn
  have h0:(∀ j:Nat,Inj ((d.pend.take j).foldl Chg.app d.safe))∧d.tot≤u:=⟨h.one,Nat.le_trans h.tot hu⟩
  split
  ·exact h0
  ·cases hfd:find d.now nm with
   | none=>exact h0
   | some no=>exact hf _ no rfl rfl rfl rfl hfd
theorem Lw.remove (h:Lw k t d) (nm:ByteArray):Lw (k+1) t (d.remove nm).1 :=
 h.on nm [] _ (h.fit.remove nm) (fun s no h1 h2 h3 h4 _=>⟨fun j=>by
  show Inj (((s.pend++[Chg.del nm]).take j).foldl Chg.app s.safe)
  rw[h2,h3]
  exact one_alter (c:=.del nm) h.one h.fit.ok.fold (one_del h.now) j,by
  show (s.data.map List.length).sum≤t
  rw[h4]
  exact h.tot⟩) (Nat.le_refl _)
theorem Lw.rename (h:Lw k t d) (a b:ByteArray):Lw (k+1) t (d.rename a b).1 :=
 h.on a [b] _ (h.fit.rename a b) (fun s no h1 h2 h3 h4 hf=>by
  split
  ·exact⟨fun j=>by show Inj ((s.pend.take j).foldl Chg.app s.safe);rw[h2,h3];exact h.one j,by show (s.data.map List.length).sum≤t;rw[h4];exact h.tot⟩
  ·refine⟨fun j=>?_,by show (s.data.map List.length).sum≤t;rw[h4];exact h.tot⟩
   show Inj (((s.pend++[Chg.ren a b no]).take j).foldl Chg.app s.safe)
   rw[h2,h3]
   exact one_alter (c:=.ren a b no) h.one h.fit.ok.fold (one_ins (one_del h.now) (fun p hp e=>(mem_del.1 hp).2 (congrArg Prod.fst (h.now p (mem_del.1 hp).1 _ (find_mem hf) e)))) j) (Nat.le_refl _)
theorem Lw.sync (h:Lw k t d) (nm:ByteArray):Lw (k+1) t (d.sync nm).1 :=
 h.on nm [] _ (h.fit.sync nm) (fun s no h1 h2 h3 h4 _=>⟨fun j=>by show Inj ((s.pend.take j).foldl Chg.app s.safe);rw[h2,h3];exact h.one j,by show (s.data.map List.length).sum≤t;rw[h4];exact h.tot⟩) (Nat.le_refl _)
theorem Lw.append (h:Lw k t d) (nm:ByteArray) (b:List UInt8):Lw (k+1) (t+b.length) (d.append nm b).1 :=
 h.on nm [] _ (h.fit.append nm b) (fun s no h1 h2 h3 h4 _=>by
  split
  ·exact⟨fun j=>by show Inj ((s.pend.take j).foldl Chg.app s.safe);rw[h2,h3];exact h.one j,by show (s.data.map List.length).sum≤_;rw[h4];exact Nat.le_trans h.tot (Nat.le_add_right _ _)⟩
  ·refine⟨fun j=>by show Inj ((s.pend.take j).foldl Chg.app s.safe);rw[h2,h3];exact h.one j,?_⟩
   show ((s.data.set no (s.data.getD no []++b)).map List.length).sum≤_
   rw[h4]
   exact Nat.le_trans (set_sum b d.data no) (Nat.add_le_add_right h.tot _)) (Nat.le_add_right _ _)
theorem Lw.syncNames (h:Lw k t d):Lw (k+1) t d.syncNames.1:=by
 have hb:=h.fit.syncNames
 obtain⟨n,hn⟩:=d.begin_as []
 refine Lw.of hb ?_
 unfold Dsk.syncNames
 cases hbe:d.begin [] with
 | mk s1 e =>
  rw[hbe]at hn
  dsimp only at hn ⊢
  subst hn
  split
  ·exact⟨h.one,h.tot⟩
  ·exact⟨fun j=>by show Inj ((([]:List Chg).take j).foldl Chg.app d.now);rw[List.take_nil];exact h.now,h.tot⟩
theorem Lw.create (h:Lw k t d) (nm:ByteArray):Lw (k+1) t (d.create nm).1:=by
 have hb:=h.fit.create nm
 obtain⟨n,hn⟩:=d.begin_as [nm]
 refine Lw.of hb ?_
 unfold Dsk.create
 cases hbe:d.begin [nm] with
 | mk s1 e =>
  rw[hbe]at hn
  dsimp only at hn ⊢
  subst hn
  split
  ·exact⟨h.one,h.tot⟩
  ·dsimp only
   split
   ·exact⟨h.one,h.tot⟩
   ·refine⟨fun j=>one_alter (c:=.put nm d.data.length) h.one h.fit.ok.fold (one_ins h.now (fun p hp=>Nat.ne_of_lt (h.fit.ok.inN p hp))) j,?_⟩
    show ((d.data++[([]:List UInt8)]).map List.length).sum≤t
    rw[List.map_append,List.sum_append]
    exact h.tot
end
end D
theorem R.enc_le (r:R.Rc):(R.enc r).length≤4111:=by
 by_cases h:R.code r=0
 ·have h1:=R.enc_len r h
  have h2:=(R.code_facts h).2.2.2.2.2
  omega
 ·unfold R.enc
  rw[if_neg h]
  exact Nat.zero_le _
theorem R.encAll_len:∀ (l:List R.Rc) (k:Nat) (b:List UInt8),(R.encAll l k b).1.length≤b.length+4111 * l.length
 | [],_,b=>Nat.le_add_right _ _
 | r::t,k,b=>by
  rw[R.encAll]
  split
  ·exact Nat.zero_le _
  ·have h1:=R.encAll_len t (k+1) (b++R.enc { r with seq:=(k:Int) })
   have h2:=R.enc_le { r with seq:=(k:Int) }
   rw[List.length_append]at h1
   rw[List.length_cons]
   omega
namespace S
open D (Lw cont Cl Quiet)
section
variable {k t:Nat} {d:D.Dsk} {s:Sto}
theorem rewrite_lw (h:Lw k t d) (count:Nat) (list:List R.Rc):Lw (k+5) (t+4111 * list.length) (rewrite d count list).1:=by
 have hl:=R.encAll_len list 0 []
 rw[List.length_nil,Nat.zero_add]at hl
 unfold rewrite
 generalize R.encAll list 0 []=z at *
 have h1:=h.create newN
 have h2:=h1.append newN z.1
 have h3:=h2.sync newN
 have h4:=h3.rename newN logN
 have hs:Lw (k+4) (t+4111 * list.length) (steps d (moves z.1)).1:=by
  unfold moves
  simp only[steps]
  repeat' split
  ·exact h1.mono (by omega) (by omega)
  ·exact h2.mono (by omega) (by omega)
  ·exact h3.mono (by omega) (by omega)
  ·exact h4.mono (by omega) (by omega)
  ·exact h4.mono (by omega) (by omega)
 split
 ·exact h.mono (by omega) (by omega)
 ·split
  ·exact hs.syncNames
  ·split
   ·exact hs.mono (by omega) (by omega)
   ·exact hs.remove _
theorem add_lw (h:Lw k t d) (count:Nat) (op no:Int) (id:ByteArray):Lw (k+2) (t+4111) (add d count op no id).1:=by
 have hl:=R.enc_le ⟨count,op,no,id⟩
 unfold add
 split
 ·exact h.mono (by omega) (by omega)
 ·split
  ·exact (h.append _ _).mono (by omega) (by omega)
  ·exact ((h.append _ _).sync _).mono (by omega) (by omega)
theorem logOpen_lw (h:Lw k t d):Lw (k+9) (t+4111 * (R.replay ((if has d.list newN then d.remove newN else (d,0)).1.read logN).1).1.length) (logOpen d).1:=by
 unfold logOpen
 have hx:Lw (k+1) t (if has d.list newN then d.remove newN else (d,0)).1:=by
  split
  ·exact h.remove _
  ·exact h.mono (by omega) (by omega)
 generalize (if has d.list newN then d.remove newN else (d,0))=x at *
 dsimp only
 split
 ·exact hx.mono (by omega) (by omega)
 have hy:Lw (k+4) t (if (x.1.read logN).2=90 then ((steps x.1 firsts).1,(steps x.1 firsts).2.2) else (x.1,(x.1.read logN).2)).1:=by
  split
  ·have h1:=hx.create logN
   have h2:=h1.sync logN
   have h3:=h2.syncNames
   show Lw (k+4) t (steps x.1 firsts).1
   unfold firsts
   simp only[steps]
   repeat' split
   ·exact h1.mono (by omega) (by omega)
   ·exact h2.mono (by omega) (by omega)
   ·exact h3.mono (by omega) (by omega)
   ·exact h3.mono (by omega) (by omega)
  ·exact hx.mono (by omega) (by omega)
 generalize (if (x.1.read logN).2=90 then ((steps x.1 firsts).1,(steps x.1 firsts).2.2) else (x.1,(x.1.read logN).2))=y at *
 split
 ·exact hy.mono (by omega) (by omega)
 split
 ·have hz:=rewrite_lw hy 0 (R.replay (x.1.read logN).1).1
  split
  ·exact hz
  ·exact hz
 ·exact hy.mono (by omega) (by omega)
theorem tidy_lw (h:Lw k t s.d):Lw (k+5) (t+4111 * s.tab.length) s.tidy.d:=by
 unfold Sto.tidy
 split
 ·exact h.mono (by omega) (by omega)
 ·have:=rewrite_lw h s.count (records s.tab)
  rw[show (records s.tab).length=s.tab.length by unfold records;rw[List.length_map]]at this
  exact this
theorem lay_lw (h:Lw k t d) (p:ByteArray) (b:List UInt8):Lw (k+5) (t+b.length) (lay d p b).1:=by
 unfold lay
 have hx:Lw (k+1) t (if has d.list p then d.remove p else (d,0)).1:=by
  split
  ·exact h.remove _
  ·exact h.mono (by omega) (by omega)
 generalize (if has d.list p then d.remove p else (d,0))=x at *
 dsimp only
 split
 ·exact hx.mono (by omega) (by omega)
 ·split
  ·exact (hx.create _).mono (by omega) (by omega)
  ·split
   ·exact ((hx.create _).append _ _).mono (by omega) (by omega)
   ·split
    ·exact (((hx.create _).append _ _).sync _).mono (by omega) (by omega)
    ·exact (((hx.create _).append _ _).sync _).syncNames
theorem freed_lw (h:Lw k t s.d) (id:ByteArray):Lw (k+1) t (s.freed id).d:=by
 unfold Sto.freed
 split
 ·exact h.remove _
 ·exact h.mono (by omega) (by omega)
structure Well (n i:Nat) (s:Sto):Prop where
 lw:Lw (3+13 * i) (521100 * i) s.d
 up:D.Up s.tab
 len:s.tab.length≤i
 ids:∀ p∈s.tab,p.1.size≤4096
 count:s.count≤i
 used:s.used.length=n
 le:n≤4096
 no:∀ p∈s.tab,p.2 < n
theorem tidy_used (s:Sto):s.tidy.used=s.used:=by
 unfold Sto.tidy
 split<;>rfl
theorem tidy_count (s:Sto):s.tidy.count=s.count∨s.tidy.count=s.tab.length:=by
 unfold Sto.tidy
 split
 ·exact .inl rfl
 ·have:=S.rewrite_count s.d s.count (records s.tab)
  rw[show (records s.tab).length=s.tab.length by unfold records;rw[List.length_map]]at this
  exact this
theorem add_count (d:D.Dsk) (count:Nat) (op no:Int) (id:ByteArray):(add d count op no id).2.1=count∨(add d count op no id).2.1=count+1:=by
 unfold add
 split
 ·exact .inl rfl
 ·split
  ·exact .inl rfl
  ·exact .inr rfl
variable {n i:Nat}
theorem Well.mono {j:Nat} (h:Well n i s) (hj:i≤j):Well n j s:=⟨h.lw.mono (by omega) (by omega),h.up,Nat.le_trans h.len hj,h.ids,Nat.le_trans h.count hj,h.used,h.le,h.no⟩
theorem Well.tidied {s':Sto} (h:Well n i s) (hi:i+1≤100) (hl:Lw (3+13 * i+8) (521100 * i+110000) s'.d) (hu:D.Up s'.tab) (hn:s'.tab.length≤i+1) (hid:∀ p∈s'.tab,p.1.size≤4096) (hc:s'.count≤i+1) (hus:s'.used.length=n) (hno:∀ p∈s'.tab,p.2 < n):Well n (i+1) s'.tidy:=by
 have hl2:=tidy_lw hl
 refine⟨hl2.mono (by omega) (by omega),by rw[tidy_tab];exact hu,by rw[tidy_tab];exact hn,by rw[tidy_tab];exact hid,?_,by rw[tidy_used];exact hus,h.le,by rw[tidy_tab];exact hno⟩
 rcases tidy_count s' with e | e<;>rw[e]
 ·exact hc
 ·exact hn
theorem Well.put (h:Well n i s) (hi:i+1≤100) (E:O.Ent):Well n (i+1) (s.put E).1:=by
 unfold Sto.put
 split
 ·exact h.mono (by omega)
 rename_i hE
 split
 ·exact h.mono (by omega)
 rename_i hid
 split
 ·exact h.mono (by omega)
 rename_i no hf
 rw[List.findIdx?_eq_some_iff_getElem]at hf
 obtain⟨hnl,_,_⟩:=hf
 have hbl:=encB_len (E:=E) (by omega)
 have hl:=lay_lw h.lw (path no) (encB E)
 generalize lay s.d (path no) (encB E)=x at *
 unfold Sto.entered
 have hy:Lw (3+13 * i+7) (521100 * i+105000) (if x.2.2=0 then add x.1 s.count 1 no (idOf E) else (x.1,s.count,x.2.2):D.Dsk × Nat × Int).1:=by
  split
  ·exact (add_lw hl _ _ _ _).mono (by omega) (by omega)
  ·exact hl.mono (by omega) (by omega)
 have hc:(if x.2.2=0 then add x.1 s.count 1 no (idOf E) else (x.1,s.count,x.2.2):D.Dsk × Nat × Int).2.1≤s.count+1:=by
  split
  ·rcases add_count x.1 s.count 1 no (idOf E) with e | e<;>rw[e]<;>omega
  ·exact Nat.le_succ _
 generalize (if x.2.2=0 then add x.1 s.count 1 no (idOf E) else (x.1,s.count,x.2.2):D.Dsk × Nat × Int)=y at *
 have hcnt:=h.count
 have hlen:=h.len
 dsimp only
 split
 ·refine⟨?_,h.up,by show s.tab.length≤_;omega,h.ids,by show s.count≤_;omega,h.used,h.le,h.no⟩
  show Lw _ _ (if x.2.1=true then (y.1.remove (path no)).1 else y.1)
  split
  ·exact (hy.remove _).mono (by omega) (by omega)
  ·exact hy.mono (by omega) (by omega)
 ·have hft:=freed_tab ({ s with d:=y.1,count:=y.2.1 }:Sto) (idOf E)
  have hfu:(({ s with d:=y.1,count:=y.2.1 }:Sto).freed (idOf E)).used.length=n:=by
   unfold Sto.freed
   split
   ·show (s.used.set _ false).length=n
    rw[List.length_set,h.used]
   ·exact h.used
  have hfc:(({ s with d:=y.1,count:=y.2.1 }:Sto).freed (idOf E)).count=y.2.1:=by
   unfold Sto.freed
   split<;>rfl
  have hfl:=freed_lw (s:=({ s with d:=y.1,count:=y.2.1 }:Sto)) hy (idOf E)
  generalize ({ s with d:=y.1,count:=y.2.1 }:Sto).freed (idOf E)=s1 at *
  change s1.tab=s.tab at hft
  refine h.tidied (s':=s1.took no (idOf E)) hi (hfl.mono (by omega) (by omega)) ?_ ?_ ?_ ?_ ?_ ?_
  ·show D.Up (D.put s1.tab (idOf E) no)
   rw[hft]
   exact D.up_put h.up _ _
  ·show (D.put s1.tab (idOf E) no).length≤_
   rw[hft]
   have:=D.length_put s.tab (idOf E) no
   omega
  ·intro p hp
   change p∈D.put s1.tab (idOf E) no at hp
   rw[hft]at hp
   rcases D.mem_put.1 hp with rfl | hp
   ·exact Nat.le_of_not_lt hid
   ·exact h.ids p hp.1
  ·show s1.count≤_
   omega
  ·show (s1.used.set no true).length=n
   rw[List.length_set,hfu]
  ·intro p hp
   change p∈D.put s1.tab (idOf E) no at hp
   rw[hft]at hp
   rcases D.mem_put.1 hp with rfl | hp
   ·show no < n
    rw[← h.used]
    exact hnl
   ·exact h.no p hp.1
theorem Well.drop (h:Well n i s) (hi:i+1≤100) (id:ByteArray):Well n (i+1) (s.drop id).1:=by
 unfold Sto.drop
 split
 ·exact h.mono (by omega)
 rename_i no _
 have hy:=add_lw h.lw s.count 2 no id
 have hc:(add s.d s.count 2 no id).2.1≤s.count+1:=by rcases add_count s.d s.count 2 no id with e | e<;>rw[e]<;>omega
 generalize add s.d s.count 2 no id=y at *
 have hcnt:=h.count
 have hlen:=h.len
 dsimp only
 split
 ·exact⟨hy.mono (by omega) (by omega),h.up,by show s.tab.length≤_;omega,h.ids,by show s.count≤_;omega,h.used,h.le,h.no⟩
 ·have hfl:=hy.remove (path no)
  have:=D.length_del s.tab id
  exact h.tidied (s':=({ s with d:=y.1,count:=y.2.1,tab:=D.del s.tab id }:Sto).free no) hi (hfl.mono (by omega) (by omega)) (D.up_del h.up _) (by show (D.del s.tab id).length≤_;omega) (fun p hp=>h.ids p (D.mem_del.1 hp).1) (by show y.2.1≤_;omega) (by show (s.used.set no false).length=n;rw[List.length_set,h.used]) (fun p hp=>h.no p (D.mem_del.1 hp).1)
theorem sweep_lw (tb:D.NM):∀ (l:List ByteArray) {k:Nat} {d:D.Dsk},Lw k t d→Lw (k+l.length) t (l.foldl (fun d nm=>if (tb.all fun p=>decide (path p.2≠nm))&&isO nm then (d.remove nm).1 else d) d)
 | [],_,_,h=>h
 | x::r,k,d,h=>by
  rw[List.foldl_cons,List.length_cons]
  refine (sweep_lw tb r (k:=k+1) ?_).mono (by omega) (Nat.le_refl _)
  split
  ·exact h.remove _
  ·exact h.mono (by omega) (Nat.le_refl _)
theorem open_lw (h:Lw k t d) (hn:n≤4096) (hr:(R.replay ((if has d.list newN then d.remove newN else (d,0)).1.read logN).1).1.length≤100):Lw (2 * k+40) (t+1233300) (open_ d n).1:=by
 have hl:=logOpen_lw h
 have hlen:(logOpen d).2.2.1.length≤100:=by
  rcases logOpen_list d with e | e
  ·rw[e];exact Nat.zero_le _
  ·rw[e];exact hr
 rw[open_eq _ hn]
 generalize logOpen d=x at *
 have ht:=tabOf_len x.2.2.1
 have hfl:=List.length_filter_le (sound x.1 n) (tabOf x.2.2.1)
 have hm:Lw (k+14) (t+822200) (mended x n).1.d∧(mended x n).1.tab=(told x n).tab:=by
  unfold mended
  split
  ·refine⟨?_,rfl⟩
   have:=rewrite_lw (d:=(told x n).d) hl (told x n).count (records (told x n).tab)
   rw[show (records (told x n).tab).length=(told x n).tab.length by unfold records;rw[List.length_map]]at this
   refine this.mono (by omega) ?_
   show t+_+4111 * ((tabOf x.2.2.1).filter (sound x.1 n)).length≤_
   omega
  ·exact⟨hl.mono (by omega) (by omega),rfl⟩
 have htl:(told x n).tab.length≤100:=by
  show ((tabOf x.2.2.1).filter (sound x.1 n)).length≤100
  omega
 split
 ·exact hl.mono (by omega) (by omega)
 split
 ·exact hm.1.mono (by omega) (by omega)
 ·have hs:=sweep_lw (told x n).tab (mended x n).1.d.list hm.1
  have hll:(mended x n).1.d.list.length≤k+14:=by
   unfold D.Dsk.list
   split
   ·exact Nat.zero_le _
   ·rw[List.length_map]
    exact hm.1.fit.now
  have hd:=tidy_lw (s:={ (mended x n).1 with d:=sweep (mended x n).1.d (told x n).tab }) hs
  refine hd.mono (by omega) ?_
  show t+822200+4111 * (mended x n).1.tab.length≤_
  rw[hm.2]
  omega
end
end S
namespace D
section
variable {k t:Nat} {d:Dsk} {fs:List (ByteArray × List UInt8)}
theorem nodup_sum (f:Nat→Nat):∀ (n:Nat) (l:List Nat),l.Nodup→(∀ x∈l,x < n)→(l.map f).sum≤((List.range n).map f).sum
 | 0,l,_,h=>by
  cases l with
  | nil=>exact Nat.le_refl _
  | cons x _=>exact absurd (h x (by simp)) (Nat.not_lt_zero _)
 | n+1,l,hn,h=>by
  have h1:=nodup_sum f n (l.erase n) (hn.erase n) (fun x hx=>by
   have h2:=(List.Nodup.mem_erase_iff hn).1 hx
   have:=h x h2.2
   have:=h2.1
   omega)
  have h2:(l.map f).sum≤((l.erase n).map f).sum+f n:=by
   clear h1 h hn
   induction l with
   | nil=>exact Nat.zero_le _
   | cons y r ih =>
    by_cases hy:y=n
    ·subst hy
     rw[List.erase_cons_head,List.map_cons,List.sum_cons]
     omega
    ·rw[List.erase_cons_tail (by simpa using hy),List.map_cons,List.sum_cons,List.map_cons,List.sum_cons]
     omega
  rw[List.range_succ,List.map_append,List.sum_append]
  simp only[List.map_cons,List.map_nil,List.sum_cons,List.sum_nil]
  omega
theorem range_sum (l:List (List UInt8)):((List.range l.length).map fun no=>(l.getD no []).length).sum=(l.map List.length).sum:=by
 congr 1
 apply List.ext_getElem
 ·simp
 ·intro i h1 h2
  simp only[List.length_map,List.length_range]at h1
  simp [List.getD,h1]
structure Fair (k t:Nat) (fs:List (ByteArray × List UInt8)):Prop where
 rise:rise ⟨#[]⟩ (fs.map (·.1))=true
 up:(fs.map (·.1)).Pairwise fun a b=>ltB a b=true
 good:∀ p∈fs,good p.1=true
 len:fs.length≤k
 one:∀ p∈fs,p.1.size≤64∧p.2.length≤1073741824
 sum:(fs.map (·.2.length)).sum≤t
theorem Lw.left_fair (h:Lw k t d) (j:Int) (keep:List Int):Fair (3 * k) t (d.left j keep):=by
 have hin:=namesLeft_in h.fit.ok h.fit.nmd j
 have hup:=up_left h.fit.ok j
 have hlen:=namesLeft_len d j
 have hsl:=safe_len h.fit.ok
 have h1:=h.fit.now
 have h2:=h.fit.pend
 have hone:Inj (d.namesLeft j):=h.one _
 have hn:((d.left j keep).map (·.1))=(d.namesLeft j).map (·.1):=by unfold Dsk.left;rw[List.map_map];rfl
 have hg:∀ x∈(d.namesLeft j).map (·.1),D.good x=true:=fun x hx=>by
  obtain⟨p,hp,rfl⟩:=List.mem_map.1 hx
  exact (hin p hp).2
 have hu:((d.left j keep).map (·.1)).Pairwise fun a b=>ltB a b=true:=by
  rw[hn]
  exact List.pairwise_map.2 hup
 have hgp:∀ p∈d.left j keep,D.good p.1=true:=fun p hp=>by
  unfold Dsk.left at hp
  obtain⟨q,hq,rfl⟩:=List.mem_map.1 hp
  exact (hin q hq).2
 refine⟨?_,hu,hgp,?_,fun p hp=>⟨good_size (hgp p hp),?_⟩,?_⟩
 ·rw[hn]at hu ⊢
  exact rise_up hg (List.pairwise_cons.2 ⟨fun x hx=>good_lt (hg x hx),hu⟩)
 ·unfold Dsk.left
  rw[List.length_map]
  omega
 ·unfold Dsk.left at hp
  obtain⟨q,hq,rfl⟩:=List.mem_map.1 hp
  have:=h.fit.size q.2
  unfold Dsk.size at this
  show ((d.data.getD q.2 []).take _).length≤_
  rw[List.length_take]
  omega
 ·have e:((d.left j keep).map (·.2.length)).sum≤((d.namesLeft j).map fun p=>(d.data.getD p.2 []).length).sum:=by
   unfold Dsk.left
   rw[List.map_map]
   refine sum_le_of _ fun p _=>?_
   show ((d.data.getD p.2 []).take _).length≤_
   rw[List.length_take]
   omega
  have e2:=nodup_sum (fun no=>(d.data.getD no []).length) d.data.length ((d.namesLeft j).map (·.2)) (pair_ne hup hone) (fun x hx=>by
   obtain⟨p,hp,rfl⟩:=List.mem_map.1 hx
   exact (hin p hp).1)
  rw[range_sum,List.map_map]at e2
  exact Nat.le_trans e (Nat.le_trans e2 h.tot)
theorem Fair.cl (h:Fair k t fs) (ht:t≤1073741824):Cl none t (ofFiles fs 1073741824 [] (-1))∧∀ x,cont (ofFiles fs 1073741824 [] (-1)) x=leftOf fs x:=by
 have hup:Up (numb 0 (fs.map (·.1))):=numb_up h.up
 have hin:∀ p∈numb 0 (fs.map (·.1)),p.2 < (fs.map (·.2)).length:=fun p hp=>by
  have:=(numb_mem hp).2.2
  simp only[List.length_map]at this ⊢
  omega
 have hfs:∀ no,no < (fs.map (·.2)).length→(fs.map (·.2.length)).getD no 0=((fs.map (·.2)).getD no []).length:=fun no hno=>by
  simp only[List.length_map]at hno
  simp [List.getD,hno]
 have hus:(ofFiles fs 1073741824 [] (-1)).used≤t:=by
  refine Nat.le_trans (Nat.le_of_eq (numb_sum fs [])) h.sum
 refine⟨⟨⟨rfl,rfl,⟨by simp [ofFiles],hup,hup,hin,hin,(fun _ h=>by cases h),rfl,fun no hno=>Nat.le_of_eq (hfs no hno)⟩,numb_one,?_⟩,fun p hp=>.inr (hfs p.2 (hin p hp)),hus,rfl⟩,fun x=>numb_find x fs []⟩
 show ((ofFiles fs 1073741824 [] (-1)).used:Int)≤1073741824
 omega
theorem Fair.lw (h:Fair k t fs) (ht:t≤1073741824) (p:Int):Lw k t (ofFiles fs 1073741824 [] p):=by
 obtain⟨hc,_⟩:=h.cl ht
 have hg:∀ q∈numb 0 (fs.map (·.1)),D.good q.1=true:=fun q hq=>by
  obtain⟨p,hp,e⟩:=List.mem_map.1 (numb_mem hq).1
  rw[← e]
  exact h.good p hp
 have hok:=hc.calm.ok
 refine⟨⟨⟨hg,hg,(fun _ h=>by cases h)⟩,⟨hok.lens,hok.upN,hok.upS,hok.inN,hok.inS,hok.inP,hok.fold,hok.firms⟩,Int.le_refl _,by show (0:Int)≤k;omega,?_,Nat.zero_le _,?_,Nat.zero_le _,⟨by show (0:Int)≤1073741824;omega,by show (1073741824:Int)≤1073741824;omega⟩,fun no=>?_⟩,fun j=>by show Inj ((([]:List Chg).take j).foldl Chg.app (numb 0 (fs.map (·.1))));rw[List.take_nil];exact numb_one,?_⟩
 ·show (numb 0 _).length≤k
  rw[numb_len,List.length_map]
  exact h.len
 ·show (fs.map (·.2)).length≤k
  rw[List.length_map]
  exact h.len
 ·show (((fs.map (·.2)).getD no []).length)≤_
  by_cases hno:no < fs.length
  ·have e:((fs.map (·.2)).getD no [])=(fs[no]'hno).2:=by simp [List.getD,hno]
   rw[e]
   exact (h.one _ (List.getElem_mem hno)).2
  ·have e:((fs.map (·.2)).getD no [])=[]:=by
    rw[List.getD,List.getElem?_eq_none (by rw[List.length_map];omega)]
    rfl
   rw[e]
   exact Nat.zero_le _
 ·show ((fs.map (·.2)).map List.length).sum≤t
  rw[List.map_map]
  exact h.sum
end
end D
namespace T
def couldR (id:ByteArray) (E:O.Ent):List TP→Prop
 | []=>False
 | t::r=>if t.id=id then (t.drop=false∧t.p.E=E)∨(t.done=false∧couldR id E r) else couldR id E r
def could (l:List TP) (id:ByteArray) (E:O.Ent):Prop:=couldR id E l.reverse
structure Told (l:List TP) (V:ByteArray→Option O.Ent):Prop where
 could:∀ id E,V id=some E→could l id E
 must:∀ id,must l id=true→(V id).isSome=true
def TP.lays (t:TP):Option O.Ent:=if t.drop then none else some t.p.E
section
variable {l:List TP} {V W:ByteArray→Option O.Ent} {t:TP}
theorem Told.nil (h:∀ id,V id=none):Told [] V:=⟨(fun id E e=>by rw[h]at e;cases e),(fun id e=>by cases e)⟩
theorem could_snoc (id:ByteArray) (E:O.Ent):could (l++[t]) id E↔if t.id=id then (t.drop=false∧t.p.E=E)∨(t.done=false∧could l id E) else could l id E:=by
 unfold could
 rw[List.reverse_append,List.reverse_singleton,List.singleton_append]
 exact Iff.rfl
theorem must_snoc (id:ByteArray):T.must (l++[t]) id=if t.id=id then t.done&&!t.drop else T.must l id:=by
 unfold T.must
 rw[List.reverse_append,List.reverse_singleton,List.singleton_append]
 rfl
theorem Told.undone (h:Told l V) (hd:t.done=false) (hw:∀ x,x≠t.id→W x=V x) (hi:W t.id=V t.id∨W t.id=TP.lays t):Told (l++[t]) W:=by
 refine⟨fun id E e=>?_,fun id e=>?_⟩
 ·rw[could_snoc]
  by_cases hx:t.id=id
  ·rw[if_pos hx]
   subst hx
   rcases hi with hi | hi
   ·exact .inr ⟨hd,h.could _ _ (hi.symm.trans e)⟩
   ·rw[hi]at e
    unfold TP.lays at e
    left
    cases hdr:t.drop with
    | true=>rw[hdr]at e;cases e
    | false=>rw[hdr]at e;exact⟨rfl,Option.some.inj e⟩
  ·rw[if_neg hx]
   exact h.could _ _ ((hw _ (fun e=>hx e.symm)).symm.trans e)
 ·rw[must_snoc]at e
  by_cases hx:t.id=id
  ·rw[if_pos hx,hd]at e;cases e
  ·rw[if_neg hx]at e
   rw[hw _ (fun e=>hx e.symm)]
   exact h.must _ e
theorem Told.done (h:Told l V) (hw:∀ x,W x=if x=t.id then TP.lays t else V x):Told (l++[t]) W:=by
 refine⟨fun id E e=>?_,fun id e=>?_⟩
 ·rw[could_snoc]
  rw[hw]at e
  by_cases hx:t.id=id
  ·rw[if_pos hx]
   rw[if_pos hx.symm]at e
   unfold TP.lays at e
   left
   cases hdr:t.drop with
   | true=>rw[hdr]at e;cases e
   | false=>rw[hdr]at e;exact⟨rfl,Option.some.inj e⟩
  ·rw[if_neg hx]
   rw[if_neg (fun e=>hx e.symm)]at e
   exact h.could _ _ e
 ·rw[must_snoc]at e
  rw[hw]
  by_cases hx:t.id=id
  ·rw[if_pos hx.symm]
   rw[if_pos hx,Bool.and_eq_true]at e
   unfold TP.lays
   cases hdr:t.drop with
   | true=>rw[hdr]at e;exact absurd e.2 (by decide)
   | false=>rfl
  ·rw[if_neg (fun e=>hx e.symm)]
   rw[if_neg hx]at e
   exact h.must _ e
end
def Fate (n:Nat) (l:List TP) (F:ByteArray→Option (List UInt8)):Prop:=∃ V,S.Sees n V F∧Told l V
def Life (n i u:Nat) (π:Int) (l:List TP) (s:S.Sto):Prop :=
 (∃ s0:S.Sto,s=s0.pw π∧S.Keeps n i u s0∧S.Backs s0∧Told l s0.get)∨S.Stop π s.d (Fate n l)
section
variable {n i u:Nat} {π:Int} {l:List TP} {s:S.Sto}
theorem Life.left (h:Life n i u π l s) (hi:i≤100) (k:Int) (keep:List Int):Fate n l (D.leftOf (s.d.left k keep)):=by
 rcases h with ⟨s0,rfl,hk,hb,ht⟩ | ⟨c,e,_,_,hf⟩
 ·exact⟨s0.get,(hk.held hi hb).left k keep,ht⟩
 ·rw[e]
  exact hf k keep
theorem put_down {s:S.Sto} (h:s.d.down=true) (E:O.Ent):(s.put E).1.d=s.d∧(s.put E).2≠0:=by
 unfold S.Sto.put
 split
 ·rename_i he
  exact⟨rfl,he⟩
 ·split
  ·exact⟨rfl,by show (101:Int)≠0;decide⟩
  ·split
   ·exact⟨rfl,by show (130:Int)≠0;decide⟩
   ·rename_i no _
    have hl:S.lay s.d (S.path no) (S.encB E)=(s.d,false,93):=by
     unfold S.lay
     rw[D.list_down h,show (if S.has [] (S.path no)=true then s.d.remove (S.path no) else (s.d,0))=(s.d,0) from rfl]
     dsimp only
     rw[if_neg (by decide),D.create_down h,if_pos (show (93:Int)≠0 by decide)]
    rw[hl]
    unfold S.Sto.entered
    dsimp only
    rw[if_neg (show ¬ (93:Int)=0 by decide)]
    dsimp only
    rw[if_pos rfl]
    exact⟨rfl,by show (93:Int)≠0;decide⟩
theorem drop_down {s:S.Sto} (h:s.d.down=true) (id:ByteArray):(s.drop id).1.d=s.d∧(s.drop id).2≠0:=by
 unfold S.Sto.drop
 split
 ·exact⟨rfl,by show (90:Int)≠0;decide⟩
 ·rename_i no _
  dsimp only
  have ha:(S.add s.d s.count 2 no id).1=s.d∧(S.add s.d s.count 2 no id).2.1=s.count∧(S.add s.d s.count 2 no id).2.2≠0:=by
   unfold S.add
   split
   ·rename_i he
    exact⟨rfl,rfl,he⟩
   ·rw[D.append_down h,if_pos (show (93:Int)≠0 by decide)]
    exact⟨rfl,rfl,by show (93:Int)≠0;decide⟩
  rw[if_pos ha.2.1]
  exact⟨ha.1,ha.2.2⟩
theorem Life.put (h:Life n i u π l s) (hi:i+1≤100) (hu:u+110000≤1000000000) (p:EP):Life n (i+1) (u+521100) π (l++[⟨S.idOf p.E,p,false,decide ((s.put p.E).2=0)⟩]) (s.put p.E).1:=by
 have un:∀ {V:ByteArray→Option O.Ent} {b:Bool},Told l V→b=false→Told (l++[⟨S.idOf p.E,p,false,b⟩]) V∧Told (l++[⟨S.idOf p.E,p,false,b⟩]) (S.upd V (S.idOf p.E) (some p.E)):=fun ht hb =>
  ⟨ht.undone hb (fun _ _=>rfl) (.inl rfl),ht.undone hb (fun _ hx=>if_neg hx) (.inr (if_pos rfl))⟩
 have dn:∀ {V W:ByteArray→Option O.Ent} {b:Bool},Told l V→(∀ x,W x=if x=S.idOf p.E then some p.E else V x)→Told (l++[⟨S.idOf p.E,p,false,b⟩]) W:=fun ht hw=>ht.done hw
 rcases h with ⟨s0,rfl,hk,hb,ht⟩ | ⟨c,e,hd,hp,hf⟩
 ·rcases hk.put_ways hb hi hu p.E π with ⟨h1,h2⟩ | ⟨h1,h2⟩ | ⟨h1,h2⟩ | ⟨h1,h2,h3,h4⟩
  ·rw[h2]
   exact .inl ⟨s0,rfl,hk.mono (by omega) (by omega),hb,(un ht (decide_eq_false h1)).1⟩
  ·refine .inr (S.stop_mono h2 fun F f=>?_)
   rcases f with f | f
   ·exact⟨_,f,(un ht (decide_eq_false h1)).1⟩
   ·exact⟨_,f,(un ht (decide_eq_false h1)).2⟩
  ·exact .inr (S.stop_mono h2 fun F f=>⟨_,f,dn ht (fun _=>rfl)⟩)
  ·rcases hk.put hi hu p.E with ⟨g1,_⟩ | ⟨_,_,g3,g4⟩
   ·exact absurd h3 g1
   ·rw[h2]
    exact .inl ⟨_,rfl,g3,h4,dn ht g4⟩
 ·have hdn:s.d.down=true:=by rw[e];exact hd
  obtain⟨h1,h2⟩:=put_down hdn p.E
  refine .inr ⟨c,h1.trans e,hd,hp,fun k keep=>?_⟩
  obtain⟨V,f1,f2⟩:=hf k keep
  exact⟨V,f1,(un f2 (decide_eq_false h2)).1⟩
theorem Life.drop (h:Life n i u π l s) (hi:i+1≤100) (hu:u+110000≤1000000000) (id:ByteArray) (p:EP) :
  ((s.drop id).2=90→Life n (i+1) (u+521100) π l (s.drop id).1)∧Life n (i+1) (u+521100) π (l++[⟨id,p,true,decide ((s.drop id).2=0)⟩]) (s.drop id).1:=by
 have un:∀ {V:ByteArray→Option O.Ent} {b:Bool},Told l V→b=false→Told (l++[⟨id,p,true,b⟩]) V∧Told (l++[⟨id,p,true,b⟩]) (S.upd V id none):=fun ht hb =>
  ⟨ht.undone hb (fun _ _=>rfl) (.inl rfl),ht.undone hb (fun _ hx=>if_neg hx) (.inr (if_pos rfl))⟩
 have dn:∀ {V W:ByteArray→Option O.Ent} {b:Bool},Told l V→(∀ x,W x=if x=id then none else V x)→Told (l++[⟨id,p,true,b⟩]) W:=fun ht hw=>ht.done hw
 rcases h with ⟨s0,rfl,hk,hb,ht⟩ | ⟨c,e,hd,hp,hf⟩
 ·rcases hk.drop_ways hb hi hu id π with ⟨h1,h2⟩ | ⟨h1,h2⟩ | ⟨h1,h2⟩ | ⟨h1,h2,g3,g4,h4⟩
  ·rw[h2,h1]
   exact⟨fun _=>.inl ⟨s0,rfl,hk.mono (by omega) (by omega),hb,ht⟩,.inl ⟨s0,rfl,hk.mono (by omega) (by omega),hb,(un ht rfl).1⟩⟩
  ·rw[h1]
   refine⟨(fun h=>by cases h),.inr (S.stop_mono h2 fun F f=>?_)⟩
   rcases f with f | f
   ·exact⟨_,f,(un ht rfl).1⟩
   ·exact⟨_,f,(un ht rfl).2⟩
  ·rw[h1]
   exact⟨(fun h=>by cases h),.inr (S.stop_mono h2 fun F f=>⟨_,f,dn ht (fun _=>rfl)⟩)⟩
  ·rw[h1,h2]
   exact⟨(fun h=>by cases h),.inl ⟨_,rfl,g3,h4,dn ht g4⟩⟩
 ·have hdn:s.d.down=true:=by rw[e];exact hd
  obtain⟨h1,h2⟩:=drop_down hdn id
  refine⟨fun _=>.inr ⟨c,h1.trans e,hd,hp,hf⟩,.inr ⟨c,h1.trans e,hd,hp,fun k keep=>?_⟩⟩
  obtain⟨V,f1,f2⟩:=hf k keep
  exact⟨V,f1,(un f2 (decide_eq_false h2)).1⟩
theorem Fate.raw {k t:Nat} {fs:List (ByteArray × List UInt8)} (h:Fate n l (D.leftOf fs)) (hf:D.Fair k t fs) (hn:n≤4096) (ht:t≤1073741824):∃ V,S.Raw n t (D.ofFiles fs 1073741824 [] (-1)) V∧Told l V:=by
 obtain⟨V,f1,f2⟩:=h
 obtain⟨h1,h2⟩:=hf.cl ht
 have e:D.cont (D.ofFiles fs 1073741824 [] (-1))=D.leftOf fs:=funext h2
 exact⟨V,⟨h1,rfl,hn,by rw[e];exact f1.1,by rw[e];exact f1.2⟩,f2⟩
theorem Fate.again {k t:Nat} {fs:List (ByteArray × List UInt8)} (h:Fate n l (D.leftOf fs)) (hf:D.Fair k t fs) (hn:n≤4096) (ht:t≤900000000) (π:Int) (j:Int) (keep:List Int):Fate n l (D.leftOf ((S.open_ (D.ofFiles fs 1073741824 [] π) n).1.left j keep)):=by
 obtain⟨V,f1,f2⟩:=h.raw hf hn (by omega)
 refine⟨V,?_,f2⟩
 have e:D.ofFiles fs 1073741824 [] π=(D.ofFiles fs 1073741824 [] (-1)).pw π:=rfl
 rw[e]
 rcases f1.open_ways ht π with ⟨c',h1,_,_,h4⟩ | ⟨s,h1,h2,_⟩
 ·rw[h1]
  exact h4 j keep
 ·rw[h1]
  exact h2.left j keep
theorem Fate.few {k t:Nat} {fs:List (ByteArray × List UInt8)} (h:Fate n l (D.leftOf fs)) (hf:D.Fair k t fs) (ht:t≤1073741824) (π:Int):(R.replay ((if S.has (D.ofFiles fs 1073741824 [] π).list S.newN then (D.ofFiles fs 1073741824 [] π).remove S.newN else (D.ofFiles fs 1073741824 [] π,0)).1.read S.logN).1).1.length≤100:=by
 obtain⟨V,f1,f2⟩:=h
 obtain⟨h1,h2⟩:=hf.cl ht
 have hfew:=f1.1
 rw[← h2]at hfew
 have key:∀ c:D.Dsk,D.cont c S.logN=D.cont (D.ofFiles fs 1073741824 [] (-1)) S.logN→(R.replay (c.read S.logN).1).1.length≤100:=fun c hc=>by
  unfold D.Dsk.read
  split
  ·exact Nat.zero_le _
  ·split
   ·exact Nat.zero_le _
   ·unfold D.cont at hc hfew
    rw[← hc]at hfew
    cases hx:D.find c.now S.logN with
    | none=>exact Nat.zero_le _
    | some no=>rw[hx]at hfew;exact hfew
 split
 ·have e:D.ofFiles fs 1073741824 [] π=(D.ofFiles fs 1073741824 [] (-1)).pw π:=rfl
  rw[e,D.remove_at rfl]
  split
  ·exact key _ rfl
  ·exact key _ ((h1.gone S.newN).2.1 _ (fun e=>S.new_log e.symm))
 ·exact key _ rfl
theorem Fate.start (n:Nat) {F:ByteArray→Option (List UInt8)} (h:(F S.logN).getD []=[]):Fate n [] F :=
 ⟨fun _=>none,⟨by rw[h];exact Nat.zero_le _,fun id=>by unfold S.view;rw[h];rfl⟩,Told.nil (fun _=>rfl)⟩
end
theorem start_some {n:Nat} (hn:n≤4096) (π:Int) {s:S.Sto} (h:(S.open_ (D.ofFiles [] 1073741824 [] π) n).2.1=some s):s=(⟨S.born 1073741824,0,[],S.marks n []⟩:S.Sto).pw π:=by
 have hc:D.Cl none 0 (S.fresh 1073741824):=⟨S.fresh_calm (by decide),(fun _ h=>by cases h),Nat.le_refl _,rfl⟩
 have e0:D.ofFiles [] 1073741824 [] π=(S.fresh 1073741824).pw π:=rfl
 have hn0:∀ x,D.cont (S.fresh 1073741824) x=none:=fun _=>rfl
 have hlo:(S.logOpen ((S.fresh 1073741824).pw π)).2.2.2≠0∨S.logOpen ((S.fresh 1073741824).pw π)=((S.born 1073741824).pw π,0,[],0):=by
  by_cases hd:((S.fresh 1073741824).pw π).down=true
  ·left
   rw[S.logOpen_down hd]
   show (93:Int)≠0
   decide
  have hl:((S.fresh 1073741824).pw π).list=[]:=by
   unfold D.Dsk.list
   split<;>rfl
  obtain⟨e1,c1,k1⟩:=hc.create S.log_good (hn0 _)
  obtain⟨e2,c2,k2⟩:=c1.sync S.log_good (c:=[]) (by rw[k1,if_pos rfl]) (.inl rfl)
  obtain⟨e3,c3,k3⟩:=c2.syncNames
  unfold S.logOpen
  rw[hl,show (if S.has [] S.newN=true then ((S.fresh 1073741824).pw π).remove S.newN else ((S.fresh 1073741824).pw π,0))=((S.fresh 1073741824).pw π,0) from rfl]
  dsimp only
  rw[if_neg (show ¬ (0:Int)≠0 by decide),D.read_at hc.calm.power (by simpa using hd),hc.calm.read S.log_good,hn0]
  dsimp only
  rw[if_pos rfl]
  have hbo:S.born 1073741824=(((S.fresh 1073741824).create S.logN).1.sync S.logN).1.syncNames.1:=rfl
  rw[hbo]
  generalize hD1:((S.fresh 1073741824).create S.logN).1=D1 at *
  generalize hD2:(D1.sync S.logN).1=D2 at *
  generalize hD3:D2.syncNames.1=D3 at *
  have f1:((S.fresh 1073741824).pw π).create S.logN=(D1.pw π,0):=by
   rw[D.create_at hc.calm.power,if_neg hd]
   unfold D.lift
   rw[hD1,e1]
  by_cases d1:(D1.pw π).down=true
  ·left
   have hs:S.steps ((S.fresh 1073741824).pw π) S.firsts=(D1.pw π,1,93):=by simp [S.steps,S.firsts,f1,D.sync_down d1]
   rw[hs]
   dsimp only
   rw[if_pos (show (93:Int)≠0 by decide)]
   show (93:Int)≠0
   decide
  have f2:(D1.pw π).sync S.logN=(D2.pw π,0):=by
   rw[D.sync_at c1.calm.power,if_neg d1]
   unfold D.lift
   rw[hD2,e2]
  by_cases d2:(D2.pw π).down=true
  ·left
   have hs:S.steps ((S.fresh 1073741824).pw π) S.firsts=(D2.pw π,2,93):=by simp [S.steps,S.firsts,f1,f2,D.syncNames_down d2]
   rw[hs]
   dsimp only
   rw[if_pos (show (93:Int)≠0 by decide)]
   show (93:Int)≠0
   decide
  have f3:(D2.pw π).syncNames=(D3.pw π,0):=by
   rw[D.syncNames_at c2.calm.power,if_neg d2]
   unfold D.lift
   rw[hD3,e3]
  have hs:S.steps ((S.fresh 1073741824).pw π) S.firsts=(D3.pw π,3,0):=by simp [S.steps,S.firsts,f1,f2,f3]
  right
  rw[hs]
  dsimp only
  rw[if_neg (show ¬ (0:Int)≠0 by decide),if_neg (by show ¬ _ < 0;exact Nat.not_lt_zero _)]
  rfl
 rw[e0,S.open_eq _ hn]at h
 rcases hlo with hlo | hlo
 ·rw[if_pos hlo]at h
  cases h
 ·rw[hlo,if_neg (show ¬ (0:Int)≠0 by decide)]at h
  have hm:S.mended ((S.born 1073741824).pw π,0,[],0) n=((⟨(S.born 1073741824).pw π,0,[],S.marks n []⟩:S.Sto),0):=rfl
  rw[hm,if_neg (show ¬ (0:Int)≠0 by decide)]at h
  have hsw:S.sweep ((S.born 1073741824).pw π) []=(S.born 1073741824).pw π:=by
   have hk:=S.Keeps.start hn
   obtain⟨c3,h1,_⟩:=S.sweep_ways [] π [] hk.cl
   have hal:∀ nm∈((S.born 1073741824).pw π).list,S.isO nm=false:=fun nm hnm=>by
    unfold D.Dsk.list at hnm
    split at hnm
    ·cases hnm
    ·have h2:nm∈(S.born 1073741824).list:=by
      unfold D.Dsk.list
      rw[show (S.born 1073741824).down=false by unfold D.Dsk.down;rw[hk.cl.calm.power];rfl,if_neg (by decide)]
      exact hnm
     rw[hk.cl.calm.mem]at h2
     rcases hk.names nm h2 with e | ⟨p,hp,_⟩
     ·rw[e];decide
     ·cases hp
   unfold S.sweep
   generalize ((S.born 1073741824).pw π).list=ls at *
   clear h1 h hm hlo
   induction ls with
   | nil=>rfl
   | cons a r ih =>
    rw[List.foldl_cons,hal a (by simp),Bool.and_false,if_neg (by decide)]
    exact ih (fun x hx=>hal x (List.mem_cons_of_mem _ hx))
  have ht:(S.told ((S.born 1073741824).pw π,0,[],0) n).tab=[]:=rfl
  rw[ht]at h
  dsimp only at h
  rw[hsw]at h
  exact (Option.some.inj h).symm
theorem lw_pw {k t:Nat} {d:D.Dsk} (h:D.Lw k t d) (p:Int):D.Lw k t (d.pw p) :=
 ⟨⟨⟨h.fit.nmd.now,h.fit.nmd.safe,h.fit.nmd.pend⟩,⟨h.fit.ok.lens,h.fit.ok.upN,h.fit.ok.upS,h.fit.ok.inN,h.fit.ok.inS,h.fit.ok.inP,h.fit.ok.fold,h.fit.ok.firms⟩,h.fit.n0,h.fit.n,h.fit.now,h.fit.pend,h.fit.data,h.fit.fails,h.fit.room,h.fit.size⟩,h.one,h.tot⟩
theorem fair_nil:D.Fair 0 0 []:=⟨rfl,List.Pairwise.nil,(fun _ h=>by cases h),Nat.le_refl _,(fun _ h=>by cases h),Nat.le_refl _⟩
theorem start_well {n:Nat} (hn:n≤4096) (π:Int):S.Well n 0 ((⟨S.born 1073741824,0,[],S.marks n []⟩:S.Sto).pw π):=by
 have h0:D.Lw 0 0 (S.fresh 1073741824):=fair_nil.lw (by decide) (-1)
 exact⟨lw_pw (((h0.create S.logN).sync S.logN).syncNames) π,List.Pairwise.nil,Nat.le_refl _,(fun _ h=>by cases h),Nat.le_refl _,S.marks_len _ _,hn,(fun _ h=>by cases h)⟩
theorem start_life {n:Nat} (hn:n≤4096) (π:Int):Life n 0 0 π [] ((⟨S.born 1073741824,0,[],S.marks n []⟩:S.Sto).pw π):=by
 refine .inl ⟨_,rfl,S.Keeps.start hn,fun g hg=>?_,Told.nil (fun _=>rfl)⟩
 have hc:D.Cl none 0 (S.fresh 1073741824):=⟨S.fresh_calm (by decide),(fun _ h=>by cases h),Nat.le_refl _,rfl⟩
 obtain⟨_,c1,k1⟩:=hc.create S.log_good rfl
 obtain⟨_,c2,_⟩:=c1.sync S.log_good (c:=[]) (by rw[k1,if_pos rfl]) (.inl rfl)
 have:(S.born 1073741824).pend=[]:=c2.syncNames_pend
 change g∈(S.born 1073741824).pend at hg
 rw[this]at hg
 cases hg
end T
end Go.Proofs.YtkempjcphpnocaaGreatDoor
