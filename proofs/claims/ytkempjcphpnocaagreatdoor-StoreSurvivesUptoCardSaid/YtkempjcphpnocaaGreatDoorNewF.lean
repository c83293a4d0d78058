/- The walk of the disk's New with files. Conditions: at most 2^30 files, names and files of at most 2^40 bytes. -/
import Derived.Test.YtkempjcphpnocaaGreatDoorLeft
import Derived.Test.YtkempjcphpnocaaGreatDoorZ17
namespace Go.Proofs.YtkempjcphpnocaaGreatDoor
open Go Go.RowKit Go.Maps
structure FRd (w:World) (p:FP):Prop where
 rd:Rd w p.A p.bs.length 1 (bcells p.bs)
 nil:p.A=none→p.bs.length=0∧p.c=0
 nm:p.nm.size≤1099511627776
 len:p.bs.length≤1099511627776
theorem FRd.below {w w':World} {p:FP} (h:FRd w p) (hb:Below w.heap.size w w'):FRd w' p:=⟨h.rd.below hb,h.nil,h.nm,h.len⟩
def FP.names (l:List FP):List ByteArray:=l.map (·.nm)
theorem D.numb_snoc:∀ (l:List ByteArray) (k:Nat) (x:ByteArray),D.numb k (l++[x])=D.numb k l++[(x,k+l.length)]
 | [],k,x=>by simp [D.numb]
 | y::r,k,x=>by
  rw[List.cons_append,D.numb,D.numb_snoc r (k+1) x,D.numb,List.cons_append,List.length_cons]
  have:k+1+r.length=k+(r.length+1):=by omega
  rw[this]
theorem rd_file {w:World} {A:Option Addr} {n k:Nat} {l:List FP} (h:Rd w A n 2 (fpcells l)) (hk:k < n) (hl:l.length=n):∃ b o,A=some ⟨b,o,none⟩∧b < w.heap.size∧w.cell? ⟨b,o+k * 2,none⟩=some (.string (l[k]'(by omega)).nm)∧w.cell? ⟨b,o+k * 2+1,none⟩=some (.slice (l[k]'(by omega)).A (l[k]'(by omega)).bs.length (l[k]'(by omega)).c):=by
 obtain⟨b,o,u,v,hA,hb,hu,hv,c1,c2⟩:=h.at2 hk
 obtain⟨e1,e2⟩:=fpcells_at l k (by omega)
 rw[e1]at hu
 rw[e2]at hv
 exact⟨b,o,hA,hb,by rw[c1,← hu],by rw[c2,← hv]⟩
structure NwAt (B d mN:Nat) (fa:Nat→Nat) (da:Nat→Option Addr) (dc:Nat→Nat) (l:List FP) (room power:Int) (FA:Option Addr) (fc:Nat) (fails:List Int) (w:World):Prop where
 blk:Blk w d #[.map (some mN),.map none,.slice none 0 0,.int .i64 l.length,.int .i64 room,.slice FA fails.length fc,.int .i64 power,.int .i64 0] 71
 now:w.ownsMap Tryz.prog 9 D.ptrR mN l.length (D.datum fa (D.numb 0 (FP.names l)))
 fails:Row w B 3 1 FA fails.length fc (icells fails)
 files:∀ (no:Nat) (p:FP),l[no]?=some p→Blk w (fa no) #[.int .i64 no,.slice (da no) p.bs.length (dc no),.int .i64 (p.bs.length:Nat)] 78∧Row w B 5 1 (da no) p.bs.length (dc no) (bcells p.bs)∧B≤fa no
 apart:∀ i j,i < l.length→j < l.length→i≠j→fa i≠fa j∧∀ k,ownB (da i) (dc i)=some k→ownB (da j) (dc j)≠some k
 ge:B≤d∧B≤mN
def updN {α:Type} (f:Nat→α) (k:Nat) (x:α) (i:Nat):α:=if i=k then x else f i
theorem updN_same {α:Type} (f:Nat→α) (k:Nat) (x:α):updN f k x k=x:=if_pos rfl
theorem updN_ne {α:Type} {f:Nat→α} {k i:Nat} {x:α} (h:i≠k):updN f k x i=f i:=if_neg h
theorem bytesLess_lt (a b:ByteArray):Op.bytesLess a.toList b.toList=D.ltB a b:=by
 rw[L_toList,L_toList,bytesLess_eq]
 rfl
theorem datum_updN {fa:Nat→Nat} {l:D.NM} {n k:Nat} (h:∀ p∈l,p.2 < n):D.datum (updN fa n k) l=D.datum fa l:=by
 unfold D.datum
 congr 1
 apply List.map_congr_left
 intro p hp
 unfold D.ent
 rw[updN_ne (by have:=h p hp;omega)]
section
variable {B d mN k n':Nat} {fa:Nat→Nat} {da:Nat→Option Addr} {dc:Nat→Nat} {l:List FP} {room power:Int} {FA:Option Addr} {fc:Nat} {fails:List Int} {w w6 w7:World} {p:FP} {A5:Option Addr} {c5:Nat}
theorem NwAt.below (h:NwAt B d mN fa da dc l room power FA fc fails w) (hb:Below w.heap.size w w6):NwAt B d mN fa da dc l room power FA fc fails w6 :=
 ⟨h.blk.below hb,h.now.kept (show w.grownBy w6 none from⟨hb.os,hb.tape,hb.output,hb.size,fun k hk _=>hb.block k hk⟩) (by simp),h.fails.below hb,fun no q hq=>⟨(h.files no q hq).1.below hb,(h.files no q hq).2.1.below hb,(h.files no q hq).2.2⟩,h.apart,h.ge⟩
theorem NwAt.more (h:NwAt B d mN fa da dc l room power FA fc fails w) (hb:Below w.heap.size w w6) (hB:B≤w.heap.size) (hrow:Row w6 w.heap.size 5 1 A5 p.bs.length c5 (bcells p.bs)) (hk:Blk w6 k #[.int .i64 l.length,.slice A5 p.bs.length c5,.int .i64 (p.bs.length:Nat)] 78) (hkw:w.heap.size≤k)
  (hown:w7.ownsMap Tryz.prog 9 D.ptrR mN n' ((D.datum fa (D.numb 0 (FP.names l))).put (D.key p.nm) (.lit (.int .i64 k)))) (hg:w6.grownBy w7 (some mN)) (hlast:∀ x∈FP.names l,D.ltB x p.nm=true) :
  NwAt B d mN (updN fa l.length k) (updN da l.length A5) (updN dc l.length c5) (l++[p]) room power FA fc fails (w7.setCell ⟨d,3,none⟩ (.int .i64 ((l.length:Int)+1)))∧Below B w6 (w7.setCell ⟨d,3,none⟩ (.int .i64 ((l.length:Int)+1))):=by
 have h6:=h.below hb
 have hmt:=ownsMap_tag h6.now
 have hlen:(FP.names l).length=l.length:=List.length_map _
 have hnum:∀ q∈D.numb 0 (FP.names l),q.2 < l.length:=fun q hq=>by have:=(D.numb_mem hq).2.2;omega
 have e1:D.numb 0 (FP.names (l++[p]))=D.put (D.numb 0 (FP.names l)) p.nm l.length:=by
  rw[S.put_last (fun q hq=>hlast _ (D.numb_mem hq).1)]
  unfold FP.names
  rw[List.map_append,List.map_singleton,D.numb_snoc,List.length_map,Nat.zero_add]
 have hm7:w7.ownsMap Tryz.prog 9 D.ptrR mN (l++[p]).length (D.datum (updN fa l.length k) (D.numb 0 (FP.names (l++[p])))):=by
  rw[← datum_updN (k:=k) hnum]at hown
  have e2:=D.datum_put (updN fa l.length k) (D.numb 0 (FP.names l)) p.nm l.length
  rw[updN_same]at e2
  rw[e2,← e1]at hown
  have:=names_tight hown
  rw[D.numb_len]at this
  have e3:(FP.names (l++[p])).length=(l++[p]).length:=List.length_map _
  rw[e3]at this
  exact this
 have hT:Tag w7 d 71:=(h6.blk.keptG hg (fun e=>h6.blk.tag.map hmt (by simpa using e.symm))).tag
 have hg2:=grown_set w7 d 3 (.int .i64 ((l.length:Int)+1))
 -- a block of cells that is not the disk's own
 have kb:∀ {b:Nat} {cs:Array Value} {t:TypeId},Blk w6 b cs t→t≠71→Blk (w7.setCell ⟨d,3,none⟩ (.int .i64 ((l.length:Int)+1))) b cs t:=fun hb ht=>by
  have h1:=hb.keptG hg (fun e=>hb.tag.map hmt (by simpa using e.symm))
  exact h1.keptG hg2 (fun e=>(h1.tag.ne hT ht) (by simpa using e.symm))
 have kr:∀ {e:TypeId} {s n c base:Nat} {A:Option Addr} {xs:List Value},Row w6 base e s A n c xs→e≠71→Row (w7.setCell ⟨d,3,none⟩ (.int .i64 ((l.length:Int)+1))) base e s A n c xs:=fun hr ht=>by
  have h1:=hr.keptG hg (fun q hq e=>(hr.tag hq).map hmt (by simpa using e.symm))
  exact h1.keptG hg2 (fun q hq e=>((h1.tag hq).ne hT ht) (by simpa using e.symm))
 refine⟨⟨?_,hm7.kept hg2 (fun e=>hT.map (ownsMap_tag hm7) (by simpa using e.symm)),kr h6.fails (by decide),fun no q hq=>?_,fun i j hi hj hij=>?_,h.ge⟩,?_⟩
 ·have h1:=(h6.blk.keptG hg (fun e=>h6.blk.tag.map hmt (by simpa using e.symm))).set 3 (.int .i64 ((l.length:Int)+1))
  rw[List.length_append,List.length_singleton]
  rw[show ((l.length+1:Nat):Int)=(l.length:Int)+1 by omega]
  exact h1
 ·by_cases hn:no=l.length
  ·subst hn
   rw[List.getElem?_append_right (Nat.le_refl _),Nat.sub_self]at hq
   obtain rfl:p=q:=by simpa using hq
   rw[updN_same,updN_same,updN_same]
   exact⟨kb hk (by decide),(kr hrow (by decide)).mono hB,Nat.le_trans hB hkw⟩
  ·have hnl:no < l.length:=by
    have:=(List.getElem?_eq_some_iff.1 hq).1
    rw[List.length_append,List.length_singleton]at this
    omega
   rw[List.getElem?_append_left hnl]at hq
   rw[updN_ne hn,updN_ne hn,updN_ne hn]
   obtain⟨f1,f2,f3⟩:=h6.files no q hq
   exact⟨kb f1 (by decide),kr f2 (by decide),f3⟩
 ·rw[List.length_append,List.length_singleton]at hi hj
  have old:∀ i,i < l.length→fa i < w.heap.size∧∀ q,ownB (da i) (dc i)=some q→q < w.heap.size:=fun i hi=>by
   obtain⟨f1,f2,_⟩:=h.files i _ (List.getElem?_eq_getElem hi)
   exact⟨f1.lt,fun q hq=>(f2.lt q hq).2⟩
  have new:∀ q,ownB A5 c5=some q→w.heap.size≤q:=fun q hq=>(hrow.lt q hq).1
  by_cases hi2:i=l.length
  ·have hj2:j < l.length:=by omega
   rw[hi2,updN_same,updN_same,updN_same,updN_ne (by omega),updN_ne (by omega),updN_ne (by omega)]
   exact⟨by have:=(old j hj2).1;omega,fun q hq h9=>by have:=new q hq;have:=(old j hj2).2 q h9;omega⟩
  ·have hi3:i < l.length:=by omega
   rw[updN_ne hi2,updN_ne hi2,updN_ne hi2]
   by_cases hj2:j=l.length
   ·rw[hj2,updN_same,updN_same,updN_same]
    exact⟨by have:=(old i hi3).1;omega,fun q hq h9=>by have:=new q h9;have:=(old i hi3).2 q hq;omega⟩
   ·rw[updN_ne hj2,updN_ne hj2,updN_ne hj2]
    exact h.apart i j hi3 (by omega) hij
 ·have b1:Below B w6 w7:=(Below.refl B w6).grown hg (Nat.le_trans hB hb.size) (fun q hq=>by cases hq;exact h.ge.2)
  exact below_set b1 h.ge.1 3 _
theorem NwAt.done (h:NwAt B d mN fa da dc l room power FA fc fails w) (hm:w6.ownsMap Tryz.prog 9 D.ptrR w.heap.size (D.numb 0 (FP.names l)).length (D.datum fa (D.numb 0 (FP.names l)))) (hb:Below w.heap.size w w6) (hB:B≤w.heap.size) :
  DkAt B ⟨d,mN,w.heap.size,none,0,[],fa,da,dc,FA,fc⟩ (D.ofFiles (l.map FP.x) room fails power) (w6.setCell ⟨d,1,none⟩ (.map (some w.heap.size)))∧Below B w6 (w6.setCell ⟨d,1,none⟩ (.map (some w.heap.size))):=by
 have h6:=h.below hb
 have hT:=h6.blk.tag
 have hg2:=grown_set w6 d 1 (.map (some w.heap.size))
 have en:(l.map FP.x).map (·.1)=FP.names l:=by rw[List.map_map];rfl
 have el:(FP.names l).length=l.length:=List.length_map _
 have kr:∀ {e:TypeId} {s n c base:Nat} {A:Option Addr} {xs:List Value},Row w6 base e s A n c xs→e≠71→Row (w6.setCell ⟨d,1,none⟩ (.map (some w.heap.size))) base e s A n c xs:=fun hr ht =>
  hr.keptG hg2 (fun q hq e=>((hr.tag hq).ne hT ht) (by simpa using e.symm))
 have hnow:(D.ofFiles (l.map FP.x) room fails power).now=D.numb 0 (FP.names l):=congrArg (D.numb 0) en
 have hlen:(D.numb 0 (FP.names l)).length=l.length:=by rw[D.numb_len,el]
 have hda:(D.ofFiles (l.map FP.x) room fails power).data=l.map (·.bs):=by show (l.map FP.x).map (·.2)=_;rw[List.map_map];rfl
 have hfi:(D.ofFiles (l.map FP.x) room fails power).firm=l.map (·.bs.length):=by show (l.map FP.x).map (·.2.length)=_;rw[List.map_map];rfl
 refine⟨⟨?_,?_,?_,?_,Row.none_ _ _ _ _,trivial,kr h6.fails (by decide),fun no hn=>?_,fun i j hi hj hij=>?_,⟨h.ge.1,h.ge.2,hB⟩⟩,below_set (Below.refl _ _) h.ge.1 1 _⟩
 ·have h1:=h6.blk.set 1 (.map (some w.heap.size))
  rw[hda,List.length_map]
  exact h1
 ·rw[hnow,hlen]
  exact h6.now.kept hg2 (fun e=>hT.map (ownsMap_tag h6.now) (by simpa using e.symm))
 ·show World.ownsMap _ _ _ _ _ (D.ofFiles (l.map FP.x) room fails power).now.length (D.datum fa (D.ofFiles (l.map FP.x) room fails power).now)
  rw[hnow]
  exact hm.kept hg2 (fun e=>hT.map (ownsMap_tag hm) (by simpa using e.symm))
 ·have:=h.now.lt
  show mN≠w.heap.size
  omega
 ·rw[hda,List.length_map]at hn
  obtain⟨f1,f2,f3⟩:=h6.files no _ (List.getElem?_eq_getElem hn)
  have e1:(D.ofFiles (l.map FP.x) room fails power).data.getD no []=l[no].bs:=by rw[hda];simp [List.getD,hn]
  have e2:(D.ofFiles (l.map FP.x) room fails power).size no=l[no].bs.length:=by unfold D.Dsk.size;rw[e1]
  have e3:(D.ofFiles (l.map FP.x) room fails power).firm.getD no 0=l[no].bs.length:=by rw[hfi];simp [List.getD,hn]
  refine⟨?_,?_,f3⟩
  ·rw[e2,e3]
   exact f1.keptG hg2 (fun e=>(f1.tag.ne hT (by decide)) (by simpa using e.symm))
  ·rw[e1,e2]
   exact kr f2 (by decide)
 ·rw[hda,List.length_map]at hi hj
  exact h.apart i j hi hj hij
end
def RetNewF (w:World) (x:List (ByteArray × List UInt8)) (room:Int) (fails:List Int) (power:Int) (e:Ending) (w':World):Prop :=
 (D.rise ⟨#[]⟩ (x.map (·.1))=false∧e=.returned (.tuple #[.pointer none,.int .i64 95])∧Below w.heap.size w w') ∨
 (D.rise ⟨#[]⟩ (x.map (·.1))=true∧∃ M,e=.returned (.tuple #[.pointer (some ⟨M.d,0,none⟩),.int .i64 0])∧DkAt w.heap.size M (D.ofFiles x room fails power) w'∧Below w.heap.size w w')
theorem cells8 {w:World} {b:Nat} {t:TypeId} {x0 x1 x2 x3 x4 x5 x6 x7:Value} (h:Blk w b #[x0,x1,x2,x3,x4,x5,x6,x7] t):w.cell? ⟨b,0,none⟩=some x0∧w.cell? ⟨b,1,none⟩=some x1∧w.cell? ⟨b,2,none⟩=some x2∧w.cell? ⟨b,3,none⟩=some x3∧w.cell? ⟨b,4,none⟩=some x4∧w.cell? ⟨b,5,none⟩=some x5∧w.cell? ⟨b,6,none⟩=some x6∧w.cell? ⟨b,7,none⟩=some x7 :=
 ⟨h.cell 0 rfl,h.cell 1 rfl,h.cell 2 rfl,h.cell 3 rfl,h.cell 4 rfl,h.cell 5 rfl,h.cell 6 rfl,h.cell 7 rfl⟩
set_option maxRecDepth 100000 in
set_option maxHeartbeats 4000000 in
theorem newF_any (fs:List FP) (A:Option Addr) (n c:Nat) (FA0:Option Addr) (fc0:Nat) (fails:List Int) (room power:Int) (w:World) (hl:fs.length=n) (hn:n≤1073741824) (hx:Rd w A n 2 (fpcells fs)) (hr:∀ p∈fs,FRd w p)
  (hcl:∀ u,Below w.heap.size w u→Calls Tryz.prog 26 #[.slice FA0 fails.length fc0] u (RetRow u 3 1 fails.length (icells fails))) (h0:0≤room) (h1:room≤1073741824) :
  Calls Tryz.prog 7 #[.slice A n c,.int .i64 room,.slice FA0 fails.length fc0,.int .i64 power] w (RetNewF w (fs.map FP.x) room fails power):=by
 have h0i:¬ room < 0:=by omega
 have h1i:¬ room > 1073741824:=by omega
 have hmm:=@run_makeMap Tryz.prog
 have HCN:=Lib.hid hcl
 have HX:=Lib.hid hx
 have HR:=Lib.hid hr
 clear hx hr hcl
 go_enter Tryz.func7,Tryz.ntmps7
 go_wp2_with fail
 clear hmm
 obtain⟨M0,hM0⟩:∃ M0,w.alloc (.map #[] 0)=M0:=⟨_,rfl⟩
 have hs0:M0.heap.size=w.heap.size+1:=by rw[← hM0];exact World.size_alloc ..
 have HN:=Lib.hid ((World.ownsMap_made w Tryz.prog 9 D.ptrR))
 rw[hM0]at HN ⊢
 have hb0:Below w.heap.size w M0:=by rw[← hM0];exact (Below.refl _ _).alloc (Nat.le_refl _) _
 clear hM0
 refine (HCN.out _ hb0).mono ?_
 rintro e w1 ⟨FA,fc,rfl,hf1,hb1⟩
 have HB1:=Lib.hid (below_then hb0.size hb0 hb1)
 have HF1:=Lib.hid (hf1.mono hb0.size)
 have HN1:=Lib.hid (HN.out.kept (show M0.grownBy w1 none from⟨hb1.os,hb1.tape,hb1.output,hb1.size,fun k hk _=>hb1.block k hk⟩) (by simp))
 have hs1:w.heap.size < w1.heap.size:=by have:=hb1.size;omega
 clear hf1 hb1 hb0 hs0 HN HCN
 obtain⟨D0,hD0⟩:∃ D0,D0=w1.alloc (.cells #[.map (some w.heap.size),.map none,.slice none 0 0,.int .i64 0,.int .i64 room,.slice FA fails.length fc,.int .i64 power,.int .i64 0] 71):=⟨_,rfl⟩
 have HK:=Lib.hid (Blk.new w1 #[.map (some w.heap.size),.map none,.slice none 0 0,.int .i64 0,.int .i64 room,.slice FA fails.length fc,.int .i64 power,.int .i64 0] 71)
 rw[← hD0]at HK
 have hbd:Below w1.heap.size w1 D0:=by rw[hD0];exact (Below.refl _ _).alloc (Nat.le_refl _) _
 have HB2:=Lib.hid (below_then HB1.out.size HB1.out hbd)
 have HNW:Hid (NwAt w.heap.size w1.heap.size w.heap.size (fun _=>0) (fun _=>none) (fun _=>0) [] room power FA fc fails D0):=Lib.hid ⟨HK.out,HN1.out.kept (show w1.grownBy D0 none from⟨hbd.os,hbd.tape,hbd.output,hbd.size,fun k hk _=>hbd.block k hk⟩) (by simp),HF1.out.below hbd,(fun no p h=>by simp at h),(fun i j hi=>absurd hi (Nat.not_lt_zero _)),⟨Nat.le_of_lt hs1,Nat.le_refl _⟩⟩
 clear HN1 HF1 HK HB1 hbd
 go_upto_region 4 with fail
 simp only[← hD0]
 clear hD0
 go_wp2
 obtain⟨d,hd⟩:∃ d,w1.heap.size=d:=⟨_,rfl⟩
 rw[hd]at HNW ⊢
 clear hd
 go_loopw [11,29] (fun x i wr=>∃ (j:Nat) (last:ByteArray) (fa:Nat→Nat) (da:Nat→Option Addr) (dc:Nat→Nat),j≤n∧x=.string last∧i=.int .i64 j∧NwAt w.heap.size d w.heap.size fa da dc (fs.take j) room power FA fc fails wr∧D.rise ⟨#[]⟩ (FP.names fs)=D.rise last (FP.names (fs.drop j))∧last.size≤1099511627776∧(∀ x∈FP.names (fs.take j),x=last∨D.ltB x last=true)∧Below w.heap.size w wr) (fun _ i _=>n - (intOf i).toNat)
 case atStart=>exact⟨0,⟨#[]⟩,_,_,_,Nat.zero_le _,rfl,rfl,HNW.out,rfl,Nat.zero_le _,(fun x h=>by cases h),HB2.out⟩
 case round =>
  obtain⟨j,last,fa,da,dc,hj,rfl,rfl,hnw,hri,hls,hlast,hb⟩:=hrel
  obtain⟨wo,rfl⟩:∃ wo:World,wo=wr:=⟨_,rfl⟩
  have HW:=Lib.hid hnw
  have HRI:=Lib.hid hri
  have HLA:=Lib.hid hlast
  have HB:=Lib.hid hb
  by_cases hlt:j < n
  ·obtain⟨b,o,rfl,hbk,y0,y1⟩:=rd_file (HX.out.below hb) hlt hl
   have hfr:=HR.out _ (List.getElem_mem (show j < fs.length by omega))
   have HTK:=Lib.hid (List.take_succ_eq_append_getElem (show j < fs.length by omega))
   have HDR:=Lib.hid (List.drop_eq_getElem_cons (show j < fs.length by omega))
   generalize fs[j]'(by omega)=p at *
   have HFR:=Lib.hid hfr
   have hnm:=hfr.nm
   have hpl:=hfr.len
   have HGN:=Lib.hid (fun u=>goodName_any p.nm u hnm)
   have HNB:=Lib.hid ((Below.refl wo.heap.size wo).alloc (Nat.le_refl _) (.cells #[.string p.nm,.slice p.A p.bs.length p.c] 73))
   have HNK:=Lib.hid (Blk.new wo #[.string p.nm,.slice p.A p.bs.length p.c] 73)
   clear hnw hri hlast hb hfr
   go_upto_region 8 with fail
   obtain⟨W1,hW1⟩:∃ W1,wo.alloc (.cells #[.string p.nm,.slice p.A p.bs.length p.c] 73)=W1:=⟨_,rfl⟩
   rw[hW1]at HNB HNK ⊢
   obtain⟨g0,g1⟩:=HNK.out.cells2
   clear hW1
   have HKEEP:Hid (∀ u:World,Below W1.heap.size W1 u→Below w.heap.size w u):=Lib.hid (fun u hu=>below_then HB.out.size HB.out (below_then HNB.out.size HNB.out hu))
   have HKEEP:Hid (∀ u:World,Below W1.heap.size W1 u→Below w.heap.size w u):=Lib.hid (fun u hu=>below_then HB.out.size HB.out (below_then HNB.out.size HNB.out hu))
   have HKEEP:Hid (∀ u:World,Below W1.heap.size W1 u→Below w.heap.size w u):=Lib.hid (fun u hu=>below_then HB.out.size HB.out (below_then HNB.out.size HNB.out hu))
   have HKEEP:Hid (∀ u:World,Below W1.heap.size W1 u→Below w.heap.size w u):=Lib.hid (fun u hu=>below_then HB.out.size HB.out (below_then HNB.out.size HNB.out hu))
   cases hgd:D.good p.nm with
   | false =>
    rw[hgd]at HGN
    have HF:Hid (D.rise ⟨#[]⟩ (FP.names fs)=false):=Lib.hid (by
     rw[HRI.out,HDR.out]
     show (D.good p.nm&&_&&_)=false
     rw[hgd]
     rfl)
    go_wp2_with fail
    refine (HGN.out _).mono ?_
    rintro e w2 ⟨rfl,hb2⟩
    go_wp2
    go_ret2
    exact .inl ⟨by rw[List.map_map];exact HF.out,rfl,HKEEP.out _ hb2⟩
   | true =>
    rw[hgd]at HGN
    cases hlb:D.ltB last p.nm with
    | false =>
     have HF:Hid (D.rise ⟨#[]⟩ (FP.names fs)=false):=Lib.hid (by
      rw[HRI.out,HDR.out]
      show (D.good p.nm&&D.ltB last p.nm&&_)=false
      rw[hgd,hlb]
      rfl)
     have hor:Op.bytesLess p.nm.toList last.toList=true∨(p.nm.toList==last.toList)=true:=by
      rw[bytesLess_lt,beq_bytes]
      by_cases he:p.nm=last
      ·exact .inr (decide_eq_true he)
      ·rcases D.lt_or he with h | h
       ·exact .inl h
       ·rw[hlb]at h;cases h
     rcases hor with hor | hor
     all_goals
      go_wp2_with fail
      refine (HGN.out _).mono ?_
      rintro e w2 ⟨rfl,hb2⟩
      obtain⟨g0,g1⟩:=(HNK.out.below hb2).cells2
      go_wp2
      go_ret2
      exact .inl ⟨by rw[List.map_map];exact HF.out,rfl,HKEEP.out _ hb2⟩
    | true =>
     have hne:(p.nm.toList==last.toList)=false:=by
      rw[beq_bytes]
      refine decide_eq_false (fun he=>?_)
      rw[he,D.lt_irrefl]at hlb
      cases hlb
     have hnl:Op.bytesLess p.nm.toList last.toList=false:=by
      rw[bytesLess_lt]
      cases h9:D.ltB p.nm last with
      | false=>rfl
      | true =>
       have:=D.lt_trans hlb h9
       rw[D.lt_irrefl]at this
       cases this
     go_wp2_with fail
     refine (HGN.out _).mono ?_
     rintro e w2 ⟨rfl,hb2⟩
     have HNK2:=Lib.hid (HNK.out.below hb2)
     have hb12:=below_then HNB.out.size HNB.out hb2
     have HB2:=Lib.hid (HKEEP.out _ hb2)
     have HBO:=Lib.hid hb12
     have HWK:=Lib.hid (HW.out.blk.below hb12)
     obtain⟨g0,g1⟩:=HNK2.out.cells2
     clear hb2 hb12 HNK HGN HNB HKEEP
     go_upto_region 11 with fail
     refine wp_region_noPanic ?_
     refine HT.begin (n:=18) (S:=(fun u=>Below w2.heap.size w2 u)) (by kernel_rfl) ((Below.refl _ _).drew) ?_
     generalize w2.drew=wd at *
     refine HT.take 0 (.pointer (some ⟨d,0,none⟩)) rfl (by kernel_rfl) (fun _ _ _ h=>h) (Or.inl ⟨by rfl,?_⟩) (?_:HT _ _ _ _ _ _ _ ⟨#[_,_,_,_,_,_,_,_,_,_,_,_,_,_,_,_,_,_,_,_,_,_,_,_,_,_,_,_,_,_,_,_,_,_,_,_,_,_,_,_,_,_,_,_,_,.pointer (some ⟨d,0,none⟩),_,_,_,_,_,_,_,_,_,_,_,_,_,_,_,_,_,_,_,_,_,_,_,_,_,_,_,_,_,_,_,_,_,_],[]⟩ _)
     ·intro u hu
      go_simp
     refine HT.take 1 (.pointer (some ⟨d,0,none⟩)) rfl (by kernel_rfl) (fun _ _ _ h=>h) (Or.inl ⟨by rfl,?_⟩) (?_:HT _ _ _ _ _ _ _ ⟨#[_,_,_,_,_,_,_,_,_,_,_,_,_,_,_,_,_,_,_,_,_,_,_,_,_,_,_,_,_,_,_,_,_,_,_,_,_,_,_,_,_,_,_,_,_,.pointer (some ⟨d,0,none⟩),.pointer (some ⟨d,0,none⟩),_,_,_,_,_,_,_,_,_,_,_,_,_,_,_,_,_,_,_,_,_,_,_,_,_,_,_,_,_,_,_,_,_],[]⟩ _)
     ·intro u hu
      go_simp
     refine HT.take 2 (.pointer (some ⟨d,0,none⟩)) rfl (by kernel_rfl) (fun _ _ _ h=>h) (Or.inl ⟨by rfl,?_⟩) (?_:HT _ _ _ _ _ _ _ ⟨#[_,_,_,_,_,_,_,_,_,_,_,_,_,_,_,_,_,_,_,_,_,_,_,_,_,_,_,_,_,_,_,_,_,_,_,_,_,_,_,_,_,_,_,_,_,.pointer (some ⟨d,0,none⟩),.pointer (some ⟨d,0,none⟩),.pointer (some ⟨d,0,none⟩),_,_,_,_,_,_,_,_,_,_,_,_,_,_,_,_,_,_,_,_,_,_,_,_,_,_,_,_,_,_,_,_],[]⟩ _)
     ·intro u hu
      go_simp
     refine HT.take 3 (.map (some w.heap.size)) rfl (by kernel_rfl) (fun _ _ _ h=>h) (Or.inl ⟨by rfl,?_⟩) (?_:HT _ _ _ _ _ _ _ ⟨#[_,_,_,_,_,_,_,_,_,_,_,_,_,_,_,_,_,_,_,_,_,_,_,_,_,_,_,_,_,_,_,_,_,_,_,_,_,_,_,_,_,_,_,_,_,.pointer (some ⟨d,0,none⟩),.pointer (some ⟨d,0,none⟩),.pointer (some ⟨d,0,none⟩),.map (some w.heap.size),_,_,_,_,_,_,_,_,_,_,_,_,_,_,_,_,_,_,_,_,_,_,_,_,_,_,_,_,_,_,_],[]⟩ _)
     ·intro u hu
      obtain⟨y0,y1,y2,y3,y4,y5,y6,y7⟩:=cells8 (HWK.out.below hu)
      go_simp
     refine HT.take 4 (.pointer (some ⟨wo.heap.size,0,none⟩)) rfl (by kernel_rfl) (fun _ _ _ h=>h) (Or.inl ⟨by rfl,?_⟩) (?_:HT _ _ _ _ _ _ _ ⟨#[_,_,_,_,_,_,_,_,_,_,_,_,_,_,_,_,_,_,_,_,_,_,_,_,_,_,_,_,_,_,_,_,_,_,_,_,_,_,_,_,_,_,_,_,_,.pointer (some ⟨d,0,none⟩),.pointer (some ⟨d,0,none⟩),.pointer (some ⟨d,0,none⟩),.map (some w.heap.size),.pointer (some ⟨wo.heap.size,0,none⟩),_,_,_,_,_,_,_,_,_,_,_,_,_,_,_,_,_,_,_,_,_,_,_,_,_,_,_,_,_,_],[]⟩ _)
     ·intro u hu
      go_simp
     refine HT.take 5 (.string p.nm) rfl (by kernel_rfl) (fun _ _ _ h=>h) (Or.inl ⟨by rfl,?_⟩) (?_:HT _ _ _ _ _ _ _ ⟨#[_,_,_,_,_,_,_,_,_,_,_,_,_,_,_,_,_,_,_,_,_,_,_,_,_,_,_,_,_,_,_,_,_,_,_,_,_,_,_,_,_,_,_,_,_,.pointer (some ⟨d,0,none⟩),.pointer (some ⟨d,0,none⟩),.pointer (some ⟨d,0,none⟩),.map (some w.heap.size),.pointer (some ⟨wo.heap.size,0,none⟩),.string p.nm,_,_,_,_,_,_,_,_,_,_,_,_,_,_,_,_,_,_,_,_,_,_,_,_,_,_,_,_,_],[]⟩ _)
     ·intro u hu
      obtain⟨g0,g1⟩:=(HNK2.out.below hu).cells2
      go_simp
     refine HT.take 6 (.pointer (some ⟨d,0,none⟩)) rfl (by kernel_rfl) (fun _ _ _ h=>h) (Or.inl ⟨by rfl,?_⟩) (?_:HT _ _ _ _ _ _ _ ⟨#[_,_,_,_,_,_,_,_,_,_,_,_,_,_,_,_,_,_,_,_,_,_,_,_,_,_,_,_,_,_,_,_,_,_,_,_,_,_,_,_,_,_,_,_,_,.pointer (some ⟨d,0,none⟩),.pointer (some ⟨d,0,none⟩),.pointer (some ⟨d,0,none⟩),.map (some w.heap.size),.pointer (some ⟨wo.heap.size,0,none⟩),.string p.nm,.pointer (some ⟨d,0,none⟩),_,_,_,_,_,_,_,_,_,_,_,_,_,_,_,_,_,_,_,_,_,_,_,_,_,_,_,_],[]⟩ _)
     ·intro u hu
      go_simp
     refine HT.take 7 (.pointer (some ⟨d,0,none⟩)) rfl (by kernel_rfl) (fun _ _ _ h=>h) (Or.inl ⟨by rfl,?_⟩) (?_:HT _ _ _ _ _ _ _ ⟨#[_,_,_,_,_,_,_,_,_,_,_,_,_,_,_,_,_,_,_,_,_,_,_,_,_,_,_,_,_,_,_,_,_,_,_,_,_,_,_,_,_,_,_,_,_,.pointer (some ⟨d,0,none⟩),.pointer (some ⟨d,0,none⟩),.pointer (some ⟨d,0,none⟩),.map (some w.heap.size),.pointer (some ⟨wo.heap.size,0,none⟩),.string p.nm,.pointer (some ⟨d,0,none⟩),.pointer (some ⟨d,0,none⟩),_,_,_,_,_,_,_,_,_,_,_,_,_,_,_,_,_,_,_,_,_,_,_,_,_,_,_],[]⟩ _)
     ·intro u hu
      go_simp
     refine HT.take 8 (.pointer (some ⟨d,3,none⟩)) rfl (by kernel_rfl) (fun _ _ _ h=>h) (Or.inl ⟨by rfl,?_⟩) (?_:HT _ _ _ _ _ _ _ ⟨#[_,_,_,_,_,_,_,_,_,_,_,_,_,_,_,_,_,_,_,_,_,_,_,_,_,_,_,_,_,_,_,_,_,_,_,_,_,_,_,_,_,_,_,_,_,.pointer (some ⟨d,0,none⟩),.pointer (some ⟨d,0,none⟩),.pointer (some ⟨d,0,none⟩),.map (some w.heap.size),.pointer (some ⟨wo.heap.size,0,none⟩),.string p.nm,.pointer (some ⟨d,0,none⟩),.pointer (some ⟨d,0,none⟩),.pointer (some ⟨d,3,none⟩),_,_,_,_,_,_,_,_,_,_,_,_,_,_,_,_,_,_,_,_,_,_,_,_,_,_],[]⟩ _)
     ·intro u hu
      go_simp
     refine HT.take 9 (.int .i64 j) rfl (by kernel_rfl) (fun _ _ _ h=>h) (Or.inl ⟨by rfl,?_⟩) (?_:HT _ _ _ _ _ _ _ ⟨#[_,_,_,_,_,_,_,_,_,_,_,_,_,_,_,_,_,_,_,_,_,_,_,_,_,_,_,_,_,_,_,_,_,_,_,_,_,_,_,_,_,_,_,_,_,.pointer (some ⟨d,0,none⟩),.pointer (some ⟨d,0,none⟩),.pointer (some ⟨d,0,none⟩),.map (some w.heap.size),.pointer (some ⟨wo.heap.size,0,none⟩),.string p.nm,.pointer (some ⟨d,0,none⟩),.pointer (some ⟨d,0,none⟩),.pointer (some ⟨d,3,none⟩),.int .i64 j,_,_,_,_,_,_,_,_,_,_,_,_,_,_,_,_,_,_,_,_,_,_,_,_,_],[]⟩ _)
     ·intro u hu
      obtain⟨y0,y1,y2,y3,y4,y5,y6,y7⟩:=cells8 (HWK.out.below hu)
      go_simp
     refine HT.take 10 (.pointer (some ⟨wo.heap.size,1,none⟩)) rfl (by kernel_rfl) (fun _ _ _ h=>h) (Or.inl ⟨by rfl,?_⟩) (?_:HT _ _ _ _ _ _ _ ⟨#[_,_,_,_,_,_,_,_,_,_,_,_,_,_,_,_,_,_,_,_,_,_,_,_,_,_,_,_,_,_,_,_,_,_,_,_,_,_,_,_,_,_,_,_,_,.pointer (some ⟨d,0,none⟩),.pointer (some ⟨d,0,none⟩),.pointer (some ⟨d,0,none⟩),.map (some w.heap.size),.pointer (some ⟨wo.heap.size,0,none⟩),.string p.nm,.pointer (some ⟨d,0,none⟩),.pointer (some ⟨d,0,none⟩),.pointer (some ⟨d,3,none⟩),.int .i64 j,.pointer (some ⟨wo.heap.size,1,none⟩),_,_,_,_,_,_,_,_,_,_,_,_,_,_,_,_,_,_,_,_,_,_,_,_],[]⟩ _)
     ·intro u hu
      go_simp
     refine HT.take 11 (.slice p.A p.bs.length p.c) rfl (by kernel_rfl) (fun _ _ _ h=>h) (Or.inl ⟨by rfl,?_⟩) (?_:HT _ _ _ _ _ _ _ ⟨#[_,_,_,_,_,_,_,_,_,_,_,_,_,_,_,_,_,_,_,_,_,_,_,_,_,_,_,_,_,_,_,_,_,_,_,_,_,_,_,_,_,_,_,_,_,.pointer (some ⟨d,0,none⟩),.pointer (some ⟨d,0,none⟩),.pointer (some ⟨d,0,none⟩),.map (some w.heap.size),.pointer (some ⟨wo.heap.size,0,none⟩),.string p.nm,.pointer (some ⟨d,0,none⟩),.pointer (some ⟨d,0,none⟩),.pointer (some ⟨d,3,none⟩),.int .i64 j,.pointer (some ⟨wo.heap.size,1,none⟩),.slice p.A p.bs.length p.c,_,_,_,_,_,_,_,_,_,_,_,_,_,_,_,_,_,_,_,_,_,_,_],[]⟩ _)
     ·intro u hu
      obtain⟨g0,g1⟩:=(HNK2.out.below hu).cells2
      go_simp
     refine HT.take 13 (.pointer (some ⟨wo.heap.size,1,none⟩)) rfl (by kernel_rfl) (fun _ _ _ h=>h) (Or.inl ⟨by rfl,?_⟩) (?_:HT _ _ _ _ _ _ _ ⟨#[_,_,_,_,_,_,_,_,_,_,_,_,_,_,_,_,_,_,_,_,_,_,_,_,_,_,_,_,_,_,_,_,_,_,_,_,_,_,_,_,_,_,_,_,_,.pointer (some ⟨d,0,none⟩),.pointer (some ⟨d,0,none⟩),.pointer (some ⟨d,0,none⟩),.map (some w.heap.size),.pointer (some ⟨wo.heap.size,0,none⟩),.string p.nm,.pointer (some ⟨d,0,none⟩),.pointer (some ⟨d,0,none⟩),.pointer (some ⟨d,3,none⟩),.int .i64 j,.pointer (some ⟨wo.heap.size,1,none⟩),.slice p.A p.bs.length p.c,_,.pointer (some ⟨wo.heap.size,1,none⟩),_,_,_,_,_,_,_,_,_,_,_,_,_,_,_,_,_,_,_,_,_],[]⟩ _)
     ·intro u hu
      go_simp
     refine HT.take 14 (.slice p.A p.bs.length p.c) rfl (by kernel_rfl) (fun _ _ _ h=>h) (Or.inl ⟨by rfl,?_⟩) (?_:HT _ _ _ _ _ _ _ ⟨#[_,_,_,_,_,_,_,_,_,_,_,_,_,_,_,_,_,_,_,_,_,_,_,_,_,_,_,_,_,_,_,_,_,_,_,_,_,_,_,_,_,_,_,_,_,.pointer (some ⟨d,0,none⟩),.pointer (some ⟨d,0,none⟩),.pointer (some ⟨d,0,none⟩),.map (some w.heap.size),.pointer (some ⟨wo.heap.size,0,none⟩),.string p.nm,.pointer (some ⟨d,0,none⟩),.pointer (some ⟨d,0,none⟩),.pointer (some ⟨d,3,none⟩),.int .i64 j,.pointer (some ⟨wo.heap.size,1,none⟩),.slice p.A p.bs.length p.c,_,.pointer (some ⟨wo.heap.size,1,none⟩),.slice p.A p.bs.length p.c,_,_,_,_,_,_,_,_,_,_,_,_,_,_,_,_,_,_,_,_],[]⟩ _)
     ·intro u hu
      obtain⟨g0,g1⟩:=(HNK2.out.below hu).cells2
      go_simp
     refine HT.take 15 (.int .i64 p.bs.length) rfl (by kernel_rfl) (fun _ _ _ h=>h) (Or.inl ⟨by rfl,?_⟩) (?_:HT _ _ _ _ _ _ _ ⟨#[_,_,_,_,_,_,_,_,_,_,_,_,_,_,_,_,_,_,_,_,_,_,_,_,_,_,_,_,_,_,_,_,_,_,_,_,_,_,_,_,_,_,_,_,_,.pointer (some ⟨d,0,none⟩),.pointer (some ⟨d,0,none⟩),.pointer (some ⟨d,0,none⟩),.map (some w.heap.size),.pointer (some ⟨wo.heap.size,0,none⟩),.string p.nm,.pointer (some ⟨d,0,none⟩),.pointer (some ⟨d,0,none⟩),.pointer (some ⟨d,3,none⟩),.int .i64 j,.pointer (some ⟨wo.heap.size,1,none⟩),.slice p.A p.bs.length p.c,_,.pointer (some ⟨wo.heap.size,1,none⟩),.slice p.A p.bs.length p.c,.int .i64 p.bs.length,_,_,_,_,_,_,_,_,_,_,_,_,_,_,_,_,_,_,_],[]⟩ _)
     ·intro u hu
      go_simp
     refine HT.step 12 rfl (by kernel_rfl) (fun hS K hK=>?_)
     go_simp
     have HCL:=Lib.hid (cloneD_any p.A p.bs.length p.c p.bs _ hpl rfl HFR.out.nil (HFR.out.rd.below (below_then HB2.out.size HB2.out hS)))
     refine HCL.out.mono ?_
     rintro e w5 ⟨A5,c5,rfl,hr5,hb5⟩
     have HR5:=Lib.hid hr5
     refine hK.out _ _ (below_then hS.size hS hb5) ?_
     have HB5:=Lib.hid (below_then hS.size hS hb5)
     have HZ5:=Lib.hid hS.size
     clear hK hb5 hr5 hS HCL
     refine HT.take 16 (.agg #[.int .i64 j,.slice A5 p.bs.length c5,.int .i64 p.bs.length]) rfl (by kernel_rfl) (fun _ _ _ h=>h) (Or.inl ⟨by rfl,?_⟩) (?_:HT _ _ _ _ _ _ _ ⟨#[_,_,_,_,_,_,_,_,_,_,_,_,_,_,_,_,_,_,_,_,_,_,_,_,_,_,_,_,_,_,_,_,_,_,_,_,_,_,_,_,_,_,_,_,_,.pointer (some ⟨d,0,none⟩),.pointer (some ⟨d,0,none⟩),.pointer (some ⟨d,0,none⟩),.map (some w.heap.size),.pointer (some ⟨wo.heap.size,0,none⟩),.string p.nm,.pointer (some ⟨d,0,none⟩),.pointer (some ⟨d,0,none⟩),.pointer (some ⟨d,3,none⟩),.int .i64 j,.pointer (some ⟨wo.heap.size,1,none⟩),.slice p.A p.bs.length p.c,.slice A5 p.bs.length c5,.pointer (some ⟨wo.heap.size,1,none⟩),.slice p.A p.bs.length p.c,.int .i64 p.bs.length,.agg #[.int .i64 j,.slice A5 p.bs.length c5,.int .i64 p.bs.length],_,_,_,_,_,_,_,_,_,_,_,_,_,_,_,_,_,_],[]⟩ _)
     ·intro u hu
      go_simp
     refine HT.step 17 rfl (by kernel_rfl) (fun hS K hK=>?_)
     go_simp
     have hbe:Below w5.heap.size w5 (w5.alloc (.cells #[.int .i64 j,.slice A5 p.bs.length c5,.int .i64 p.bs.length] 78)):=(Below.refl _ _).alloc (Nat.le_refl _) _
     refine hK.out _ _ (below_then HB5.out.size HB5.out hbe) ?_
     have HR6:=Lib.hid (HR5.out.below hbe)
     have HK6:=Lib.hid (Blk.new w5 #[.int .i64 j,.slice A5 p.bs.length c5,.int .i64 p.bs.length] 78)
     have HB6:=Lib.hid (below_then HB5.out.size HB5.out hbe)
     generalize w5.alloc (.cells #[.int .i64 j,.slice A5 p.bs.length c5,.int .i64 p.bs.length] 78)=w6 at *
     have HZ6:=Lib.hid (Nat.le_refl w5.heap.size)
     clear hK hS hbe HR5
     refine HT.tail _ rfl rfl (by kernel_rfl) (fun hS=>?_)
     clear hS
     have HM6:=Lib.hid ((HW.out.below (below_then HBO.out.size HBO.out HB6.out)).now)
     have HBW6:=Lib.hid (below_then HBO.out.size HBO.out HB6.out)
     have hjl:(fs.take j).length=j:=by rw[List.length_take];omega
     have HPU:Hid (∀ x∈FP.names (fs.take j),D.ltB x p.nm=true):=Lib.hid (fun x hx=>by
      rcases HLA.out x hx with rfl | h9
      ·exact hlb
      ·exact D.lt_trans h9 hlb)
     have HJL:=Lib.hid hjl
     refine wpList_mapUpdate_own _ rfl _ _ _ 67 rfl 9 75 (string_keyed strT_ul) nmT_ul D.ptrR w.heap.size (fs.take j).length (D.datum fa (D.numb 0 (FP.names (fs.take j)))) rfl HM6.out (by rw[HJL.out];simp only[maxLen];omega) (.string p.nm) (.pointer (some ⟨w5.heap.size,0,none⟩)) (D.key p.nm) rfl rfl (nmKey p.nm (by simp only[maxLen];omega)) (.lit (.int .i64 w5.heap.size)) [] rfl ?_
     intro w7 hown7 hgrow7
     refine NoPanic.normal ?_
     have hk7:=(HW.out.blk.below HBW6.out).keptG hgrow7 (fun e=>(HW.out.blk.below HBW6.out).tag.map (ownsMap_tag HM6.out) (by simpa using e.symm))
     obtain⟨hn7,hb7⟩:=HW.out.more (p:=p) (k:=w5.heap.size) (A5:=A5) (c5:=c5) HBW6.out HB.out.size (HR6.out.mono (Nat.le_trans HBO.out.size HZ5.out)) (by rw[HJL.out];exact HK6.out) (Nat.le_trans HBO.out.size HB5.out.size) hown7 hgrow7 HPU.out
     rw[HJL.out]at hk7 hn7 hb7
     rw[← HTK.out]at hn7
     have HN7:=Lib.hid hn7
     have HB7:=Lib.hid ((below_then HB.out.size HB.out HBW6.out).trans hb7)
     have HRI2:Hid (D.rise ⟨#[]⟩ (FP.names fs)=D.rise p.nm (FP.names (fs.drop (j+1)))):=Lib.hid (by
      rw[HRI.out,HDR.out]
      show (D.good p.nm&&D.ltB last p.nm&&D.rise p.nm _)=_
      rw[hgd,hlb]
      rfl)
     have HLA2:Hid (∀ x∈FP.names (fs.take (j+1)),x=p.nm∨D.ltB x p.nm=true):=Lib.hid (fun x hx=>by
      rw[HTK.out]at hx
      unfold FP.names at hx
      rw[List.map_append]at hx
      rcases List.mem_append.1 hx with h9 | h9
      ·exact .inr (HPU.out x h9)
      ·exact .inl (by simpa using h9))
     obtain⟨y0,y1,y2,y3,y4,y5,y6,y7⟩:=cells8 hk7
     have f3:=hk7.free 3
     clear y0 y1 y2 y4 y5 y6 y7 hk7 hn7 hb7 hown7 hgrow7 hjl HRI HLA HPU HM6
     go_wp2
     go_roundw
     case rel=>exact⟨j+1,p.nm,_,_,_,by omega,rfl,by go_num,HN7.out,HRI2.out,hnm,HLA2.out,HB7.out⟩
     case measure=>simp [intOf];omega
  ·obtain rfl:j=n:=by omega
   have htk:fs.take j=fs:=List.take_of_length_le (by omega)
   have hdr:fs.drop j=[]:=List.drop_eq_nil_of_le (by omega)
   rw[htk]at hnw
   rw[hdr]at hri
   have HRT:Hid (D.rise ⟨#[]⟩ (FP.names fs)=true):=Lib.hid hri
   have HNW:=Lib.hid hnw
   have HCL:=Lib.hid (cloneM_any ⟨d,w.heap.size,0,none,0,[],fa,da,dc,FA,fc⟩ (D.numb 0 (FP.names fs)) w.heap.size wo (by rw[D.numb_len];have:=hnw.now;unfold FP.names at this ⊢;rw[List.length_map];exact this))
   obtain⟨y0,y1,y2,y3,y4,y5,y6,y7⟩:=cells8 hnw.blk
   clear hnw hri hlast hb htk hdr HW HRI HLA y1 y2 y3 y4 y5 y6 y7
   go_wp2_with fail
   refine HCL.out.mono ?_
   rintro e w2 ⟨rfl,hm2,hb2,hlt2⟩
   obtain⟨hd2,hb3⟩:=HNW.out.done hm2 hb2 HB.out.size
   have HD2:=Lib.hid hd2
   have HB3:=Lib.hid ((below_then HB.out.size HB.out hb2).trans hb3)
   have hk2:=HNW.out.blk.below hb2
   obtain⟨y0,y1,y2,y3,y4,y5,y6,y7⟩:=cells8 hk2
   have f1:=hk2.free 1
   clear hd2 hb3 hm2 hb2 hk2 y0 y2 y3 y4 y5 y6 y7 HCL HNW
   go_wp2
   go_ret2
   exact .inr ⟨by rw[List.map_map];exact HRT.out,_,rfl,HD2.out,HB3.out⟩
end Go.Proofs.YtkempjcphpnocaaGreatDoor
