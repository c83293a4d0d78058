/- The log and the store in memory: which blocks they have, what they hold, what a step leaves. The walks of swaplog's first: steps up to the first that answers an error; over three and over four steps. Conditions: as each theorem states them. -/
import Derived.Test.YthjeglnkgdpijaaGreatDoorZ01
set_option maxHeartbeats 4000000
namespace Go.Proofs.YthjeglnkgdpijaaGreatDoor
open Go Go.RowKit Go.Maps
structure aO (F:Nat→Prop) (w:World) (F':Nat→Prop) (w':World):Prop where
 os:w'.os=w.os
 tape:w'.tape=w.tape
 output:w'.output=w.output
 size:w.heap.size≤w'.heap.size
 block:∀ k,k < w.heap.size→¬ F k→w'.heap[k]?=w.heap[k]?
 foot:∀ k,F' k→F k∨w.heap.size≤k
section
variable {F F' F'' G G':Nat→Prop} {w w' w'':World} {b k:Nat} {cs:Array Value} {t e:TypeId} {A:Option Addr} {base s n c:Nat} {xs:List Value}
theorem aO.refl (F:Nat→Prop) (w:World):aO F w F w:=⟨rfl,rfl,rfl,zA _,fun _ _ _=>rfl,fun _ h=>.inl h⟩
theorem aO.trans (h:aO F w F' w') (k:aO F' w' F'' w''):aO F w F'' w'' :=
 ⟨k.os.trans h.os,k.tape.trans h.tape,k.output.trans h.output,bD h.size k.size,fun i hi hn=>(k.block i (Nat.lt_of_lt_of_le hi h.size) (fun hf=>by
  rcases h.foot i hf with h1 | h1
  ·exact hn h1
  ·omega)).trans (h.block i hi hn),fun i hf=>by
  rcases k.foot i hf with h1 | h1
  ·exact h.foot i h1
  ·exact .inr (bD h.size h1)⟩
theorem aO.below (h:Below w.heap.size w w') (F:Nat→Prop):aO F w F w':=⟨h.os,h.tape,h.output,h.size,fun k hk _=>h.block k hk,fun _ h=>.inl h⟩
theorem aO.wide (h:aO F w F' w') (hF:∀ k,F k→G k) (hF':∀ k,G' k→F' k∨G k∨w.heap.size≤k):aO G w G' w' :=
 ⟨h.os,h.tape,h.output,h.size,fun k hk hn=>h.block k hk (fun hf=>hn (hF k hf)),fun k hk=>by
  rcases hF' k hk with h1 | h1 | h1
  ·rcases h.foot k h1 with h2 | h2
   ·exact .inl (hF k h2)
   ·exact .inr h2
  ·exact .inl h1
  ·exact .inr h1⟩
theorem aO.grown {r:Option Nat} (hg:w.grownBy w' r) (hr:∀ k,r=some k→F k) (hf:∀ k,F' k→F k∨w.heap.size≤k):aO F w F' w' :=
 ⟨hg.os,hg.tape,hg.output,hg.size,fun k hk hn=>hg.block k hk (fun e=>hn (hr k e.symm)),hf⟩
theorem aO.blk (h:aO F w F' w') (hb:Blk w b cs t) (hn:¬ F b):Blk w' b cs t:=(h.block b hb.lt hn).trans hb
theorem aO.rd (h:aO F w F' w') (hx:Rd w A n s xs) (hA:0 < n→∀ a,A=some a→¬ F a.block):Rd w' A n s xs :=
 ⟨hx.1,fun hn=>by
  obtain⟨b,o,rfl,hlt,hc⟩:=hx.2 hn
  exact⟨b,o,rfl,Nat.lt_of_lt_of_le hlt h.size,fun j u hu=>(World.cell?_of_block (w:=w) (a:=⟨b,o+j,none⟩) (h.block b hlt (hA hn _ rfl))).trans (hc j u hu)⟩⟩
theorem aO.row (h:aO F w F' w') (hx:Row w base e s A n c xs) (hA:∀ k,ownB A c=some k→¬ F k):Row w' base e s A n c xs:=by
 by_cases hc:c=0
 ·have hn:=hx.cap.1
  have hn0:n=0:=by omega
  subst hn0
  exact .inr ⟨rfl,hc,List.eq_nil_of_length_eq_zero (by have:=hx.len;simpa using this)⟩
 ·rcases hx with hx | hx
  ·rcases hx with ⟨hl,hx⟩
   refine .inl ⟨hl,?_⟩
   rcases hx with hx | ⟨g,cap,cur,hv,hb,hg,hr⟩
   ·exact .inl hx
   ·have hA2:A=some ⟨g,0,none⟩:=by injection hv
    refine .inr ⟨g,cap,cur,hv,hb,?_,hr⟩
    rw[h.block g (Array.getElem?_eq_some_iff.1 hg).1 (hA g (by unfold ownB;rw[if_neg hc,hA2];rfl))]
    exact hg
  ·exact .inr hx
theorem aO.map {K:TypeId} {R:Value→Option (DataW Unit × List MemPlace)} {D:DataW Unit} (h:aO F w F' w') (hm:w.ownsMap Tryz.prog K R b n D) (hn:¬ F b):w'.ownsMap Tryz.prog K R b n D:=by
 have hlt:=hm.lt
 obtain⟨es,cl,hb,r⟩:=hm
 exact⟨es,cl,(h.block b hlt hn).trans hb,r⟩
theorem aO.crow {bs:List UInt8} (h:aO F w F' w') (hx:bZ w base A n c bs) (hA:∀ k,ownB A c=some k→¬ F k):bZ w' base A n c bs:=by
 obtain⟨h1,h2,h3⟩:=hx
 refine⟨h1,h2,?_⟩
 rcases h3 with h3 | ⟨g,hg,hB,hlt,hf,hc⟩
 ·exact .inl h3
 ·by_cases hc0:c=0
  ·exact .inl hc0
  have hbl:w'.heap[g]?=w.heap[g]?:=h.block g hlt (hA g (by unfold ownB;rw[if_neg hc0,hg];rfl))
  exact .inr ⟨g,hg,hB,Nat.lt_of_lt_of_le hlt h.size,fun j hj=>⟨by rw[World.cell?_of_block (w:=w) (a:=⟨g,j,none⟩) hbl];exact (hf j hj).1,by unfold World.frozen?;rw[hbl];exact (hf j hj).2⟩,fun j u hu=>by rw[World.cell?_of_block (w:=w) (a:=⟨g,j,none⟩) hbl];exact hc j u hu⟩
end
section
variable {B:Nat} {M M':DM} {s s':D.Dsk} {w w':World} {k:Nat} {t:TypeId}
theorem Stepped.went (h:Stepped M s w M' s' w'):aO (M.foot s) w (M'.foot s') w':=⟨h.os,h.tape,h.output,h.size,h.block,h.foot⟩
theorem dD.off (h:dD B M s w) (ht:Tag w k t) (h1:t≠95) (h2:t≠200) (h3:t≠100) (h4:t≠5):¬ M.foot s k:=by
 rintro (rfl | rfl | rfl | hf | ⟨no,hn,rfl | hf⟩)
 ·exact ht.ne h.blk.tag h1 rfl
 ·exact ht.map (aC h.now) rfl
 ·exact ht.map (aC h.safe) rfl
 ·exact ht.ne (h.pend.tag hf) h2 rfl
 ·exact ht.ne (h.files no hn).blk.tag h3 rfl
 ·exact ht.ne ((h.files no hn).row.tag hf) h4 rfl
theorem dD.offMap (h:dD B M s w) (hm:aOY w k) (h1:k≠M.mN) (h2:k≠M.mS):¬ M.foot s k:=by
 rintro (rfl | rfl | rfl | hf | ⟨no,hn,rfl | hf⟩)
 ·exact h.blk.tag.map hm rfl
 ·exact h1 rfl
 ·exact h2 rfl
 ·exact (h.pend.tag hf).map hm rfl
 ·exact (h.files no hn).blk.tag.map hm rfl
 ·exact ((h.files no hn).row.tag hf).map hm rfl
end
structure jX (B l:Nat) (M:DM) (d:D.Dsk) (count:Nat) (w:World):Prop where
 disk:dD B M d w
 blk:Blk w l #[.pointer (some ⟨M.d,0,none⟩),.int .i64 count] 154
 ge:B≤l
def aZ (l:Nat) (M:DM) (d:D.Dsk) (k:Nat):Prop:=M.foot d k∨k=l
section
variable {B l:Nat} {M M':DM} {d d':D.Dsk} {w w':World} {k count:Nat}
theorem jX.off (h:jX B l M d count w):¬ M.foot d l:=h.disk.off h.blk.tag (by decide) (by decide) (by decide) (by decide)
theorem jX.below (h:jX B l M d count w) (hb:Below w.heap.size w w'):jX B l M d count w':=⟨h.disk.below hb,h.blk.below hb,h.ge⟩
theorem jX.step (h:jX B l M d count w) (hd:dD B M' d' w') (hs:Stepped M d w M' d' w'):jX B l M' d' count w'∧aO (aZ l M d) w (aZ l M' d') w' :=
 ⟨⟨hd,by rw[hs.same];exact hs.went.blk h.blk h.off,h.ge⟩,hs.went.wide (fun k hk=>.inl hk) (fun k hk=>by
  rcases hk with hk | hk
  ·exact .inl hk
  ·exact .inr (.inl (.inr hk)))⟩
theorem jX.cells (h:jX B l M d count w):w.cell? ⟨l,0,none⟩=some (.pointer (some ⟨M.d,0,none⟩))∧w.cell? ⟨l,1,none⟩=some (.int .i64 count):=h.blk.cells2
theorem jX.counted (h:jX B l M d count w) (n:Nat):jX B l M d n (w.setCell ⟨l,1,none⟩ (.int .i64 n))∧aO (aZ l M d) w (aZ l M d) (w.setCell ⟨l,1,none⟩ (.int .i64 n)):=by
 have hg:=aT w l 1 (.int .i64 n)
 have hT:=h.blk.tag
 have hw:aO (fun k=>k=l) w (fun k=>k=l) (w.setCell ⟨l,1,none⟩ (.int .i64 n)):=aO.grown hg (fun k e=>(by simpa using e.symm)) (fun k hk=>.inl hk)
 refine⟨⟨?_,h.blk.set 1 _,h.ge⟩,hw.wide (fun k hk=>.inr hk) (fun k hk=>.inr (.inl hk))⟩
 have hb:∀ {k t},Tag w k t→t≠154→k≠l:=fun ht hn=>ht.ne hT hn
 obtain⟨a1,a2,a3,a4,a5,a6,a7,a8,a9,a10⟩:=h.disk
 exact⟨hw.blk a1 (hb a1.tag (by decide)),hw.map a2 (fun e=>hT.map (aC a2) e.symm),hw.map a3 (fun e=>hT.map (aC a3) e.symm),a4,hw.row a5 (fun k hk=>hb (a5.tag hk) (by decide)),
  a6.imp (fun c v hc=>hc.keptT hg (fun k e=>by cases e;exact hT) (by decide)),hw.row a7 (fun k hk=>hb (a7.tag hk) (by decide)),
  fun no hn=>⟨hw.blk (a8 no hn).blk (hb (a8 no hn).blk.tag (by decide)),hw.row (a8 no hn).row (fun k hk=>hb ((a8 no hn).row.tag hk) (by decide)),(a8 no hn).ge⟩,a9,a10⟩
end
def lL (B l:Nat) (M:DM) (d:D.Dsk) (w:World) (x:D.Dsk × Nat × Int) (e:Ending) (w':World):Prop :=
 e=.returned (.int .i64 x.2.2)∧∃ M',jX B l M' x.1 x.2.1 w'∧aO (aZ l M d) w (aZ l M' x.1) w'∧M'.d=M.d
namespace S
def xW:Value→Option (DataW Unit × List MemPlace)
 | .int .i64 z=>some (.lit (.int .i64 z),[])
 | _=>none
def rY (t:D.NM):DataW Unit:=D.datum (fun n=>n) t
def bools (l:List Bool):List Value:=l.map Value.bool
end S
structure SM where
 M:DM
 st:Nat
 lg:Nat
 tb:Nat
 U:Option Addr
 uc:Nat
structure eU (B:Nat) (X:SM) (s:S.Sto) (w:World):Prop where
 log:jX B X.lg X.M s.d s.count w
 blk:Blk w X.st #[.pointer (some ⟨X.M.d,0,none⟩),.pointer (some ⟨X.lg,0,none⟩),.map (some X.tb),.slice X.U s.used.length X.uc] 109
 tab:w.ownsMap Tryz.prog 9 S.xW X.tb s.tab.length (S.rY s.tab)
 ne:X.tb≠X.M.mN∧X.tb≠X.M.mS
 used:Row w B 4 1 X.U s.used.length X.uc (S.bools s.used)
 ge:B≤X.st∧B≤X.tb
def SM.foot (X:SM) (s:S.Sto) (k:Nat):Prop:=X.M.foot s.d k∨k=X.lg∨k=X.st∨k=X.tb∨ownB X.U X.uc=some k
section
variable {B:Nat} {X:SM} {s:S.Sto} {w w':World} {M':DM} {d':D.Dsk} {k n:Nat}
theorem eU.below (h:eU B X s w) (hb:Below w.heap.size w w'):eU B X s w' :=
 ⟨h.log.below hb,h.blk.below hb,h.tab.kept (show w.grownBy w' none from⟨hb.os,hb.tape,hb.output,hb.size,fun k hk _=>hb.block k hk⟩) (by simp),h.ne,h.used.below hb,h.ge⟩
theorem eU.cells (h:eU B X s w):w.cell? ⟨X.st,0,none⟩=some (.pointer (some ⟨X.M.d,0,none⟩))∧w.cell? ⟨X.st,1,none⟩=some (.pointer (some ⟨X.lg,0,none⟩))∧w.cell? ⟨X.st,2,none⟩=some (.map (some X.tb))∧w.cell? ⟨X.st,3,none⟩=some (.slice X.U s.used.length X.uc):=h.blk.cells4
theorem eU.offs (h:eU B X s w):¬ aZ X.lg X.M s.d X.st∧¬ aZ X.lg X.M s.d X.tb∧∀ k,ownB X.U X.uc=some k→¬ aZ X.lg X.M s.d k:=by
 refine⟨?_,?_,fun k hk=>?_⟩
 ·rintro (hf | hf)
  ·exact h.log.disk.off h.blk.tag (by decide) (by decide) (by decide) (by decide) hf
  ·exact h.blk.tag.ne h.log.blk.tag (by decide) hf
 ·rintro (hf | hf)
  ·exact h.log.disk.offMap (aC h.tab) h.ne.1 h.ne.2 hf
  ·exact h.log.blk.tag.map (aC h.tab) hf.symm
 ·rintro (hf | hf)
  ·exact h.log.disk.off (h.used.tag hk) (by decide) (by decide) (by decide) (by decide) hf
  ·exact (h.used.tag hk).ne h.log.blk.tag (by decide) hf
theorem eU.lt (h:eU B X s w) (hf:X.foot s k):k < w.heap.size:=by
 rcases hf with hf | rfl | rfl | rfl | hf
 ·exact h.log.disk.lt hf
 ·exact h.log.blk.lt
 ·exact h.blk.lt
 ·exact h.tab.lt
 ·exact (h.used.lt k hf).2
theorem eU.base (h:eU B X s w):B≤w.heap.size:=bD h.ge.1 (Nat.le_of_lt h.blk.lt)
theorem eU.logged (h:eU B X s w) (hl:jX B X.lg M' d' n w') (hw:aO (aZ X.lg X.M s.d) w (aZ X.lg M' d') w') (hd:M'.d=X.M.d) :
  eU B { X with M:=M' } { s with d:=d',count:=n } w'∧aO (X.foot s) w (({ X with M:=M' }:SM).foot { s with d:=d',count:=n }) w':=by
 obtain⟨o1,o2,o3⟩:=h.offs
 have hlt:=h.tab.lt
 have hne:∀ x,M'.foot d' x→x≠X.tb:=fun x hx e=>by
  rcases hw.foot x (.inl hx) with h1 | h1
  ·rw[e]at h1;exact o2 h1
  ·rw[e]at h1;omega
 refine⟨⟨hl,by rw[hd];exact hw.blk h.blk o1,hw.map h.tab o2,⟨fun e=>hne M'.mN (.inr (.inl rfl)) e.symm,fun e=>hne M'.mS (.inr (.inr (.inl rfl))) e.symm⟩,hw.row h.used o3,h.ge⟩,hw.wide (fun k hk=>?_) (fun k hk=>?_)⟩
 ·rcases hk with hk | hk
  ·exact .inl hk
  ·exact .inr (.inl hk)
 ·rcases hk with hk | hk | hk
  ·exact .inl (.inl hk)
  ·exact .inl (.inr hk)
  ·exact .inr (.inl (.inr (.inr hk)))
theorem eU.step (h:eU B X s w) (hd:dD B M' d' w') (hs:Stepped X.M s.d w M' d' w') :
  eU B { X with M:=M' } { s with d:=d' } w'∧aO (X.foot s) w (({ X with M:=M' }:SM).foot { s with d:=d' }) w':=by
 obtain⟨h1,h2⟩:=h.log.step hd hs
 exact h.logged h1 h2 hs.same
theorem eU.tabbed {t':D.NM} (h:eU B X s w) (hm:w'.ownsMap Tryz.prog 9 S.xW X.tb t'.length (S.rY t')) (hg:w.grownBy w' (some X.tb)) :
  eU B X { s with tab:=t' } w'∧aO (X.foot s) w (X.foot { s with tab:=t' }) w':=by
 have hw:aO (fun k=>k=X.tb) w (fun k=>k=X.tb) w':=aO.grown hg (fun k e=>(by simpa using e.symm)) (fun k hk=>.inl hk)
 have hM:=aC h.tab
 have hb:∀ {k t},Tag w k t→k≠X.tb:=fun ht=>ht.map hM
 obtain⟨⟨a1,a2,a3,a4,a5,a6,a7,a8,a9,a10⟩,b2,b3⟩:=h.log
 refine⟨⟨⟨⟨hw.blk a1 (hb a1.tag),hw.map a2 (fun e=>h.ne.1 e.symm),hw.map a3 (fun e=>h.ne.2 e.symm),a4,hw.row a5 (fun k hk=>hb (a5.tag hk)),
  a6.imp (fun c v hc=>hc.kept hg (fun k t e ht=>by cases e;exact absurd rfl (hb ht))),hw.row a7 (fun k hk=>hb (a7.tag hk)),
  fun no hn=>⟨hw.blk (a8 no hn).blk (hb (a8 no hn).blk.tag),hw.row (a8 no hn).row (fun k hk=>hb ((a8 no hn).row.tag hk)),(a8 no hn).ge⟩,a9,a10⟩,hw.blk b2 (hb b2.tag),b3⟩,hw.blk h.blk (hb h.blk.tag),hm,h.ne,hw.row h.used (fun k hk=>hb (h.used.tag hk)),h.ge⟩,
  hw.wide (fun k hk=>.inr (.inr (.inr (.inl hk)))) (fun k hk=>.inr (.inl hk))⟩
theorem eU.marked (h:eU B X s w) {no:Nat} (hn:no < s.used.length) (v:Bool):∃ g,X.U=some ⟨g,0,none⟩∧w.frozen? ⟨g,no,none⟩=false∧w.cell? ⟨g,no,none⟩=some (.bool (s.used.getD no false)) ∧
  eU B X { s with used:=s.used.set no v } (w.setCell ⟨g,no,none⟩ (.bool v))∧aO (X.foot s) w (X.foot { s with used:=s.used.set no v }) (w.setCell ⟨g,no,none⟩ (.bool v)):=by
 have hrow:=h.used
 have hcap:=hrow.cap.1
 have hc0:X.uc≠0:=by omega
 rcases hrow with hr | hr
 rotate_left
 ·exact absurd hr.2.1 hc0
 obtain⟨hlen,hr⟩:=hr
 rcases hr with ⟨_,h0⟩ | ⟨g,cap,cur,hv,hB,hg,h1,h2,h3,h4⟩
 ·omega
 have hU:X.U=some ⟨g,0,none⟩:=by injection hv
 have hcap2:X.uc=cap:=by injection hv
 have hown:ownB X.U X.uc=some g:=by unfold ownB;rw[if_neg hc0,hU];rfl
 have hT:Tag w g 4:=⟨_,_,hg⟩
 have hgs:=aT w g no (.bool v)
 have hw:aO (fun k=>k=g) w (fun k=>k=g) (w.setCell ⟨g,no,none⟩ (.bool v)):=aO.grown hgs (fun k e=>(by simpa using e.symm)) (fun k hk=>.inl hk)
 have hb:∀ {k t},Tag w k t→t≠4→k≠g:=fun ht hn=>ht.ne hT hn
 obtain⟨⟨a1,a2,a3,a4,a5,a6,a7,a8,a9,a10⟩,b2,b3⟩:=h.log
 have hlen2:(s.used.set no v).length=s.used.length:=List.length_set
 refine⟨g,hU,by simp [World.frozen?,hg],?_,⟨⟨⟨hw.blk a1 (hb a1.tag (by decide)),hw.map a2 (fun e=>hT.map (aC a2) e.symm),hw.map a3 (fun e=>hT.map (aC a3) e.symm),a4,hw.row a5 (fun k hk=>hb (a5.tag hk) (by decide)),
  a6.imp (fun c v hc=>hc.keptT hgs (fun k e=>by cases e;exact hT) (by decide)),hw.row a7 (fun k hk=>hb (a7.tag hk) (by decide)),
  fun no hn=>⟨hw.blk (a8 no hn).blk (hb (a8 no hn).blk.tag (by decide)),hw.row (a8 no hn).row (fun k hk=>hb ((a8 no hn).row.tag hk) (by decide)),(a8 no hn).ge⟩,a9,a10⟩,hw.blk b2 (hb b2.tag (by decide)),b3⟩,?_,hw.map h.tab (fun e=>hT.map (aC h.tab) e.symm),h.ne,?_,h.ge⟩,
  hw.wide (fun k hk=>.inr (.inr (.inr (.inr (by rw[hk];exact hown))))) (fun k hk=>.inr (.inl hk))⟩
 ·rw[cell_of_row _ g no _ _ _ hg]
  have h5:cur.toList[no]?=some (.bool (s.used.getD no false)):=by
   have h6:(cur.toList.take (s.used.length * 1))[no]?=some (.bool (s.used.getD no false)):=by
    rw[h4]
    unfold S.bools
    rw[List.getElem?_map,List.getElem?_eq_getElem hn]
    simp [List.getD,hn]
   rw[List.getElem?_take]at h6
   rw[if_pos (by omega)]at h6
   exact h6
  simpa using h5
 ·show Blk _ _ #[_,_,_,.slice X.U (s.used.set no v).length X.uc] _
  rw[hlen2]
  exact hw.blk h.blk (hb h.blk.tag (by decide))
 ·show Row _ _ _ _ X.U (s.used.set no v).length X.uc (S.bools (s.used.set no v))
  rw[hlen2]
  refine .inl ⟨by unfold S.bools;simp,.inr ⟨g,cap,cur.setIfInBounds no (.bool v),hv,hB,?_,h1,h2,by rw[Array.size_setIfInBounds];exact h3,?_⟩⟩
  ·unfold World.setCell
   simp only[Array.getElem?_modify,if_true,hg]
   rfl
  ·have:S.bools (s.used.set no v)=(S.bools s.used).set no (.bool v):=by unfold S.bools;rw[List.map_set]
   rw[this,← h4]
   simp [List.take_set]
end
def yN (B:Nat) (X:SM) (s:S.Sto) (w:World) (s':S.Sto) (v:Value) (e:Ending) (w':World):Prop :=
 e=.returned v∧∃ X',eU B X' s' w'∧aO (X.foot s) w (X'.foot s') w'∧X'.st=X.st∧X'.M.d=X.M.d∧X'.lg=X.lg
namespace S
def ran:D.Dsk→List (D.Dsk→D.Dsk × Int)→Nat→Option D.Dsk
 | d,_,0=>some d
 | _,[],_+1=>none
 | d,f::r,k+1=>if (f d).2=0 then ran (f d).1 r k else none
theorem zD (d:D.Dsk) (ops:List (D.Dsk→D.Dsk × Int)):ran d ops 0=some d:=by cases ops<;>rfl
theorem iC:∀ {ops:List (D.Dsk→D.Dsk × Int)} {d d1:D.Dsk} {k:Nat} {f:D.Dsk→D.Dsk × Int},ran d ops k=some d1→ops[k]?=some f→(f d1).2=0→ran d ops (k+1)=some (f d1).1
 | [],_,_,_,_,_,h,_=>by simp at h
 | g::r,d,d1,0,f,h,hf,h0=>by
  simp only[ran,Option.some.injEq]at h
  subst h
  simp only[List.getElem?_cons_zero,Option.some.injEq]at hf
  subst hf
  simp [ran,h0]
 | g::r,d,d1,k+1,f,h,hf,h0=>by
  unfold ran at h
  split at h
  ·rename_i hg
   have:=iC h (by simpa using hf) h0
   unfold ran
   rw[if_pos hg]
   exact this
  ·cases h
theorem kD:∀ {ops:List (D.Dsk→D.Dsk × Int)} {d d1:D.Dsk} {k:Nat} {f:D.Dsk→D.Dsk × Int},ran d ops k=some d1→ops[k]?=some f→(f d1).2≠0→steps d ops=((f d1).1,k,(f d1).2)
 | [],_,_,_,_,_,h,_=>by simp at h
 | g::r,d,d1,0,f,h,hf,h0=>by
  simp only[ran,Option.some.injEq]at h
  subst h
  simp only[List.getElem?_cons_zero,Option.some.injEq]at hf
  subst hf
  unfold steps
  rw[if_pos h0]
 | g::r,d,d1,k+1,f,h,hf,h0=>by
  unfold ran at h
  split at h
  ·rename_i hg
   have:=kD h (by simpa using hf) h0
   unfold steps
   rw[if_neg (by simpa using hg),this]
  ·cases h
theorem aDR:∀ {ops:List (D.Dsk→D.Dsk × Int)} {d d1:D.Dsk},ran d ops ops.length=some d1→steps d ops=(d1,ops.length,0)
 | [],d,d1,h=>by
  simp only[List.length_nil,ran,Option.some.injEq]at h
  subst h
  rfl
 | g::r,d,d1,h=>by
  simp only[List.length_cons]at h
  unfold ran at h
  split at h
  ·rename_i hg
   have:=aDR h
   unfold steps
   rw[if_neg (by simpa using hg),this,List.length_cons]
  ·cases h
theorem aDQ:∀ {ops:List (D.Dsk→D.Dsk × Int)} {d d1:D.Dsk} {k m:Nat},(∀ f∈ops,∀ (m:Nat) (d:D.Dsk),D.Fit m d→D.Fit (m+1) (f d).1)→ran d ops k=some d1→D.Fit m d→D.Fit (m+k) d1
 | ops,d,d1,0,m,_,h,hf=>by
  rw[zD]at h
  cases h
  exact hf
 | [],_,_,_+1,_,_,h,_=>by cases h
 | g::r,d,d1,k+1,m,ho,h,hf=>by
  unfold ran at h
  split at h
  ·have:=aDQ (fun f hf=>ho f (List.mem_cons_of_mem _ hf)) h (ho g (by simp) m d hf)
   rw[show m+(k+1)=m+1+k by omega]
   exact this
  ·cases h
end S
def aF4 (B l:Nat) (M:DM) (d:D.Dsk) (count:Nat) (w:World) (x:D.Dsk × Nat × Int) (e:Ending) (w':World):Prop :=
 e=.returned (.tuple #[.int .i64 x.2.1,.int .i64 x.2.2])∧∃ M',jX B l M' x.1 count w'∧aO (aZ l M d) w (aZ l M' x.1) w'∧M'.d=M.d
def vS (g:Nat) (args:Array Value) (B l:Nat) (M:DM) (d:D.Dsk) (count m:Nat) (w:World) (f:D.Dsk→D.Dsk × Int):Prop :=
 ∀ (M1:DM) (d1:D.Dsk) (u:World),jX B l M1 d1 count u→aO (aZ l M d) w (aZ l M1 d1) u→M1.d=M.d→D.Fit m d1→Calls Tryz.prog g args u (lL B l M1 d1 u ((f d1).1,count,(f d1).2))
theorem aHR (B l:Nat) (M:DM) (d:D.Dsk) (count m:Nat) (bx by_:Nat) (A:Option Addr) (c:Nat) (f0 f1 f2 f3:D.Dsk→D.Dsk × Int) (w:World) (h:jX B l M d count w) (hf:D.Fit m d) (k0:∀ (m:Nat) (d:D.Dsk),D.Fit m d→D.Fit (m+1) (f0 d).1) (k1:∀ (m:Nat) (d:D.Dsk),D.Fit m d→D.Fit (m+1) (f1 d).1) (k2:∀ (m:Nat) (d:D.Dsk),D.Fit m d→D.Fit (m+1) (f2 d).1) (k3:∀ (m:Nat) (d:D.Dsk),D.Fit m d→D.Fit (m+1) (f3 d).1)
  (hx:Rd w A 4 1 [.func (.func 103) #[] #[.pointer (some ⟨bx,0,none⟩)],.func (.func 104) #[] #[.pointer (some ⟨bx,0,none⟩),.pointer (some ⟨by_,0,none⟩)],.func (.func 106) #[] #[.pointer (some ⟨bx,0,none⟩)],.func (.func 107) #[] #[.pointer (some ⟨bx,0,none⟩)]]) (hA:∀ a,A=some a→¬ aZ l M d a.block)
  (h0:vS 103 #[.pointer (some ⟨bx,0,none⟩)] B l M d count (m+0) w f0) (h1:vS 104 #[.pointer (some ⟨bx,0,none⟩),.pointer (some ⟨by_,0,none⟩)] B l M d count (m+1) w f1) (h2:vS 106 #[.pointer (some ⟨bx,0,none⟩)] B l M d count (m+2) w f2) (h3:vS 107 #[.pointer (some ⟨bx,0,none⟩)] B l M d count (m+3) w f3) :
  Calls Tryz.prog 91 #[.slice A 4 c] w (aF4 B l M d count w (S.steps d [f0,f1,f2,f3])):=by
 have HFIT:Hid (∀ f∈[f0,f1,f2,f3],∀ (m:Nat) (d:D.Dsk),D.Fit m d→D.Fit (m+1) (f d).1):=aH (by
  intro f hf
  simp only[List.mem_cons,List.not_mem_nil,or_false]at hf
  rcases hf with rfl | rfl | rfl | rfl
  ·exact k0
  ·exact k1
  ·exact k2
  ·exact k3
  )
 obtain⟨ops,hops⟩:∃ ops,[f0,f1,f2,f3]=ops:=⟨_,rfl⟩
 have HO0:Hid (ops[0]?=some f0):=aH (by rw[← hops];rfl)
 have HO1:Hid (ops[1]?=some f1):=aH (by rw[← hops];rfl)
 have HO2:Hid (ops[2]?=some f2):=aH (by rw[← hops];rfl)
 have HO3:Hid (ops[3]?=some f3):=aH (by rw[← hops];rfl)
 have HH0:=aH h0
 have HH1:=aH h1
 have HH2:=aH h2
 have HH3:=aH h3
 have HL:Hid (ops.length=4):=aH (by rw[← hops];rfl)
 have HX:=aH hx
 have HA:=aH hA
 have HD:=aH h
 have HF:=aH hf
 rw[hops]at HFIT ⊢
 clear h hx hA hf hops h0 k0 h1 k1 h2 k2 h3 k3
 go_enter Tryz.func91,Tryz.ntmps91
 go_wp2
 go_loopw [9] (fun i wr=>∃ (k:Nat) (M1:DM) (d1:D.Dsk),k≤4∧i=.int .i64 k∧S.ran d ops k=some d1∧jX B l M1 d1 count wr∧aO (aZ l M d) w (aZ l M1 d1) wr∧M1.d=M.d) (fun i _=>4 - (intOf i).toNat)
 case atStart=>exact⟨0,M,d,zF _,rfl,S.zD _ _,HD.out,aO.refl _ _,rfl⟩
 case round =>
  obtain⟨k,M1,d1,hk,rfl,hran,hd1,hw1,hm1⟩:=hrel
  have HR:=aH hran
  have HD1:=aH hd1
  have HW1:=aH hw1
  have HM1:=aH hm1
  have HF1:=aH (S.aDQ HFIT.out hran HF.out)
  clear hran hd1 hw1 hm1
  obtain⟨wo,rfl⟩:∃ wo:World,wo=wr:=⟨_,rfl⟩
  obtain⟨b,o,hAe,hblt,hcell⟩:=(HW1.out.rd HX.out (fun _ a ha=>HA.out a ha)).2 (by decide)
  subst hAe
  have y0:wo.cell? ⟨b,o,none⟩=some (.func (.func 103) #[] #[.pointer (some ⟨bx,0,none⟩)]):=hcell 0 _ rfl
  have y1:wo.cell? ⟨b,o+1,none⟩=some (.func (.func 104) #[] #[.pointer (some ⟨bx,0,none⟩),.pointer (some ⟨by_,0,none⟩)]):=hcell 1 _ rfl
  have y2:wo.cell? ⟨b,o+2,none⟩=some (.func (.func 106) #[] #[.pointer (some ⟨bx,0,none⟩)]):=hcell 2 _ rfl
  have y3:wo.cell? ⟨b,o+3,none⟩=some (.func (.func 107) #[] #[.pointer (some ⟨bx,0,none⟩)]):=hcell 3 _ rfl
  clear hcell
  obtain rfl | rfl | rfl | rfl | rfl:k=0∨k=1∨k=2∨k=3∨k=4:=by omega
  ·clear y1 y2 y3
   have HC:=aH (HH0.out M1 d1 wo HD1.out HW1.out HM1.out HF1.out)
   go_wp2_with fail
   refine HC.out.mono ?_
   rintro e w2 ⟨rfl,M2,hd2,hw2,hm2⟩
   have HD2:=aH hd2
   have HW2:=aH (HW1.out.trans hw2)
   have HM2:=aH (hm2.trans HM1.out)
   clear hd2 hw2 hm2 HC
   by_cases h0:(f0 d1).2=0
   ·have HN:=aH (S.iC HR.out HO0.out h0)
    have h0b:((f0 d1).2 != 0)=false:=by rw[h0];rfl
    go_wp2
    go_roundw
    case rel=>exact⟨1,M2,(f0 d1).1,by decide,by go_num,HN.out,HD2.out,HW2.out,HM2.out⟩
    case measure=>simp [intOf]
   ·have HN:=aH (S.kD HR.out HO0.out h0)
    have h0b:((f0 d1).2 != 0)=true:=by simpa using h0
    go_wp2
    go_ret2
    exact⟨by rw[HN.out]<;>rfl,M2,by rw[HN.out];exact HD2.out,by rw[HN.out];exact HW2.out,HM2.out⟩
  ·clear y0 y2 y3
   have HC:=aH (HH1.out M1 d1 wo HD1.out HW1.out HM1.out HF1.out)
   go_wp2_with fail
   refine HC.out.mono ?_
   rintro e w2 ⟨rfl,M2,hd2,hw2,hm2⟩
   have HD2:=aH hd2
   have HW2:=aH (HW1.out.trans hw2)
   have HM2:=aH (hm2.trans HM1.out)
   clear hd2 hw2 hm2 HC
   by_cases h0:(f1 d1).2=0
   ·have HN:=aH (S.iC HR.out HO1.out h0)
    have h0b:((f1 d1).2 != 0)=false:=by rw[h0];rfl
    go_wp2
    go_roundw
    case rel=>exact⟨2,M2,(f1 d1).1,by decide,by go_num,HN.out,HD2.out,HW2.out,HM2.out⟩
    case measure=>simp [intOf]
   ·have HN:=aH (S.kD HR.out HO1.out h0)
    have h0b:((f1 d1).2 != 0)=true:=by simpa using h0
    go_wp2
    go_ret2
    exact⟨by rw[HN.out]<;>rfl,M2,by rw[HN.out];exact HD2.out,by rw[HN.out];exact HW2.out,HM2.out⟩
  ·clear y0 y1 y3
   have HC:=aH (HH2.out M1 d1 wo HD1.out HW1.out HM1.out HF1.out)
   go_wp2_with fail
   refine HC.out.mono ?_
   rintro e w2 ⟨rfl,M2,hd2,hw2,hm2⟩
   have HD2:=aH hd2
   have HW2:=aH (HW1.out.trans hw2)
   have HM2:=aH (hm2.trans HM1.out)
   clear hd2 hw2 hm2 HC
   by_cases h0:(f2 d1).2=0
   ·have HN:=aH (S.iC HR.out HO2.out h0)
    have h0b:((f2 d1).2 != 0)=false:=by rw[h0];rfl
    go_wp2
    go_roundw
    case rel=>exact⟨3,M2,(f2 d1).1,by decide,by go_num,HN.out,HD2.out,HW2.out,HM2.out⟩
    case measure=>simp [intOf]
   ·have HN:=aH (S.kD HR.out HO2.out h0)
    have h0b:((f2 d1).2 != 0)=true:=by simpa using h0
    go_wp2
    go_ret2
    exact⟨by rw[HN.out]<;>rfl,M2,by rw[HN.out];exact HD2.out,by rw[HN.out];exact HW2.out,HM2.out⟩
  ·clear y0 y1 y2
   have HC:=aH (HH3.out M1 d1 wo HD1.out HW1.out HM1.out HF1.out)
   go_wp2_with fail
   refine HC.out.mono ?_
   rintro e w2 ⟨rfl,M2,hd2,hw2,hm2⟩
   have HD2:=aH hd2
   have HW2:=aH (HW1.out.trans hw2)
   have HM2:=aH (hm2.trans HM1.out)
   clear hd2 hw2 hm2 HC
   by_cases h0:(f3 d1).2=0
   ·have HN:=aH (S.iC HR.out HO3.out h0)
    have h0b:((f3 d1).2 != 0)=false:=by rw[h0];rfl
    go_wp2
    go_roundw
    case rel=>exact⟨4,M2,(f3 d1).1,by decide,by go_num,HN.out,HD2.out,HW2.out,HM2.out⟩
    case measure=>simp [intOf]
   ·have HN:=aH (S.kD HR.out HO3.out h0)
    have h0b:((f3 d1).2 != 0)=true:=by simpa using h0
    go_wp2
    go_ret2
    exact⟨by rw[HN.out]<;>rfl,M2,by rw[HN.out];exact HD2.out,by rw[HN.out];exact HW2.out,HM2.out⟩
  ·clear y0 y1 y2 y3
   have HN:=aH (S.aDR (ops:=ops) (by rw[HL.out];exact HR.out))
   go_wp2
   go_ret2
   exact⟨by rw[HN.out,HL.out]<;>rfl,M1,by rw[HN.out];exact HD1.out,by rw[HN.out];exact HW1.out,HM1.out⟩
theorem aHS (B l:Nat) (M:DM) (d:D.Dsk) (count m:Nat) (bx:Nat) (A:Option Addr) (c:Nat) (f0 f1 f2:D.Dsk→D.Dsk × Int) (w:World) (h:jX B l M d count w) (hf:D.Fit m d) (k0:∀ (m:Nat) (d:D.Dsk),D.Fit m d→D.Fit (m+1) (f0 d).1) (k1:∀ (m:Nat) (d:D.Dsk),D.Fit m d→D.Fit (m+1) (f1 d).1) (k2:∀ (m:Nat) (d:D.Dsk),D.Fit m d→D.Fit (m+1) (f2 d).1)
  (hx:Rd w A 3 1 [.func (.func 92) #[] #[.pointer (some ⟨bx,0,none⟩)],.func (.func 94) #[] #[.pointer (some ⟨bx,0,none⟩)],.func (.func 96) #[.pointer (some ⟨M.d,0,none⟩)] #[]]) (hA:∀ a,A=some a→¬ aZ l M d a.block)
  (h0:vS 92 #[.pointer (some ⟨bx,0,none⟩)] B l M d count (m+0) w f0) (h1:vS 94 #[.pointer (some ⟨bx,0,none⟩)] B l M d count (m+1) w f1) (h2:vS 96 #[.pointer (some ⟨M.d,0,none⟩)] B l M d count (m+2) w f2) :
  Calls Tryz.prog 91 #[.slice A 3 c] w (aF4 B l M d count w (S.steps d [f0,f1,f2])):=by
 have HFIT:Hid (∀ f∈[f0,f1,f2],∀ (m:Nat) (d:D.Dsk),D.Fit m d→D.Fit (m+1) (f d).1):=aH (by
  intro f hf
  simp only[List.mem_cons,List.not_mem_nil,or_false]at hf
  rcases hf with rfl | rfl | rfl
  ·exact k0
  ·exact k1
  ·exact k2
  )
 obtain⟨ops,hops⟩:∃ ops,[f0,f1,f2]=ops:=⟨_,rfl⟩
 have HO0:Hid (ops[0]?=some f0):=aH (by rw[← hops];rfl)
 have HO1:Hid (ops[1]?=some f1):=aH (by rw[← hops];rfl)
 have HO2:Hid (ops[2]?=some f2):=aH (by rw[← hops];rfl)
 have HH0:=aH h0
 have HH1:=aH h1
 have HH2:=aH h2
 have HL:Hid (ops.length=3):=aH (by rw[← hops];rfl)
 have HX:=aH hx
 have HA:=aH hA
 have HD:=aH h
 have HF:=aH hf
 rw[hops]at HFIT ⊢
 clear h hx hA hf hops h0 k0 h1 k1 h2 k2
 go_enter Tryz.func91,Tryz.ntmps91
 go_wp2
 go_loopw [9] (fun i wr=>∃ (k:Nat) (M1:DM) (d1:D.Dsk),k≤3∧i=.int .i64 k∧S.ran d ops k=some d1∧jX B l M1 d1 count wr∧aO (aZ l M d) w (aZ l M1 d1) wr∧M1.d=M.d) (fun i _=>3 - (intOf i).toNat)
 case atStart=>exact⟨0,M,d,zF _,rfl,S.zD _ _,HD.out,aO.refl _ _,rfl⟩
 case round =>
  obtain⟨k,M1,d1,hk,rfl,hran,hd1,hw1,hm1⟩:=hrel
  have HR:=aH hran
  have HD1:=aH hd1
  have HW1:=aH hw1
  have HM1:=aH hm1
  have HF1:=aH (S.aDQ HFIT.out hran HF.out)
  clear hran hd1 hw1 hm1
  obtain⟨wo,rfl⟩:∃ wo:World,wo=wr:=⟨_,rfl⟩
  obtain⟨b,o,hAe,hblt,hcell⟩:=(HW1.out.rd HX.out (fun _ a ha=>HA.out a ha)).2 (by decide)
  subst hAe
  have y0:wo.cell? ⟨b,o,none⟩=some (.func (.func 92) #[] #[.pointer (some ⟨bx,0,none⟩)]):=hcell 0 _ rfl
  have y1:wo.cell? ⟨b,o+1,none⟩=some (.func (.func 94) #[] #[.pointer (some ⟨bx,0,none⟩)]):=hcell 1 _ rfl
  have y2:wo.cell? ⟨b,o+2,none⟩=some (.func (.func 96) #[.pointer (some ⟨M.d,0,none⟩)] #[]):=hcell 2 _ rfl
  clear hcell
  obtain rfl | rfl | rfl | rfl:k=0∨k=1∨k=2∨k=3:=by omega
  ·clear y1 y2
   have HC:=aH (HH0.out M1 d1 wo HD1.out HW1.out HM1.out HF1.out)
   go_wp2_with fail
   refine HC.out.mono ?_
   rintro e w2 ⟨rfl,M2,hd2,hw2,hm2⟩
   have HD2:=aH hd2
   have HW2:=aH (HW1.out.trans hw2)
   have HM2:=aH (hm2.trans HM1.out)
   clear hd2 hw2 hm2 HC
   by_cases h0:(f0 d1).2=0
   ·have HN:=aH (S.iC HR.out HO0.out h0)
    have h0b:((f0 d1).2 != 0)=false:=by rw[h0];rfl
    go_wp2
    go_roundw
    case rel=>exact⟨1,M2,(f0 d1).1,by decide,by go_num,HN.out,HD2.out,HW2.out,HM2.out⟩
    case measure=>simp [intOf]
   ·have HN:=aH (S.kD HR.out HO0.out h0)
    have h0b:((f0 d1).2 != 0)=true:=by simpa using h0
    go_wp2
    go_ret2
    exact⟨by rw[HN.out]<;>rfl,M2,by rw[HN.out];exact HD2.out,by rw[HN.out];exact HW2.out,HM2.out⟩
  ·clear y0 y2
   have HC:=aH (HH1.out M1 d1 wo HD1.out HW1.out HM1.out HF1.out)
   go_wp2_with fail
   refine HC.out.mono ?_
   rintro e w2 ⟨rfl,M2,hd2,hw2,hm2⟩
   have HD2:=aH hd2
   have HW2:=aH (HW1.out.trans hw2)
   have HM2:=aH (hm2.trans HM1.out)
   clear hd2 hw2 hm2 HC
   by_cases h0:(f1 d1).2=0
   ·have HN:=aH (S.iC HR.out HO1.out h0)
    have h0b:((f1 d1).2 != 0)=false:=by rw[h0];rfl
    go_wp2
    go_roundw
    case rel=>exact⟨2,M2,(f1 d1).1,by decide,by go_num,HN.out,HD2.out,HW2.out,HM2.out⟩
    case measure=>simp [intOf]
   ·have HN:=aH (S.kD HR.out HO1.out h0)
    have h0b:((f1 d1).2 != 0)=true:=by simpa using h0
    go_wp2
    go_ret2
    exact⟨by rw[HN.out]<;>rfl,M2,by rw[HN.out];exact HD2.out,by rw[HN.out];exact HW2.out,HM2.out⟩
  ·clear y0 y1
   have HC:=aH (HH2.out M1 d1 wo HD1.out HW1.out HM1.out HF1.out)
   go_wp2_with fail
   refine HC.out.mono ?_
   rintro e w2 ⟨rfl,M2,hd2,hw2,hm2⟩
   have HD2:=aH hd2
   have HW2:=aH (HW1.out.trans hw2)
   have HM2:=aH (hm2.trans HM1.out)
   clear hd2 hw2 hm2 HC
   by_cases h0:(f2 d1).2=0
   ·have HN:=aH (S.iC HR.out HO2.out h0)
    have h0b:((f2 d1).2 != 0)=false:=by rw[h0];rfl
    go_wp2
    go_roundw
    case rel=>exact⟨3,M2,(f2 d1).1,by decide,by go_num,HN.out,HD2.out,HW2.out,HM2.out⟩
    case measure=>simp [intOf]
   ·have HN:=aH (S.kD HR.out HO2.out h0)
    have h0b:((f2 d1).2 != 0)=true:=by simpa using h0
    go_wp2
    go_ret2
    exact⟨by rw[HN.out]<;>rfl,M2,by rw[HN.out];exact HD2.out,by rw[HN.out];exact HW2.out,HM2.out⟩
  ·clear y0 y1 y2
   have HN:=aH (S.aDR (ops:=ops) (by rw[HL.out];exact HR.out))
   go_wp2
   go_ret2
   exact⟨by rw[HN.out,HL.out]<;>rfl,M1,by rw[HN.out];exact HD1.out,by rw[HN.out];exact HW1.out,HM1.out⟩
end Go.Proofs.YthjeglnkgdpijaaGreatDoor
