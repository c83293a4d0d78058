/- The walk of the disk's Used: a range over the names. What an append to a file leaves of the disk's form in memory. The walk of hop.Bytes. The walks of the document's Put and Bytes. The walk of the law HopBytes. A head that is written is read as it was, whatever stands behind it, and not ahead of its last byte. What is read back of the bytes of a response and of a request, whatever stands behind them. Conditions: as each theorem states them. -/
import Derived.Test.YthjeglnkgdpijaaGreatDoorZ18
set_option maxHeartbeats 2000000
namespace Go.Proofs.YthjeglnkgdpijaaGreatDoor
open Go Go.RowKit Go.Maps
namespace D
def rem (f:Nat→Nat) (l:NM) (left:Lit→Bool):Nat:=((l.filter fun p=>left (key p.1)).map fun p=>f p.2).sum
theorem aLA {f:Nat→Nat} {l:NM} {left:Lit→Bool} (h:∀ kl,left kl=false):rem f l left=0:=by
 unfold rem
 rw[List.filter_eq_nil_iff.2 (fun p _=>by rw[h];decide)]
 rfl
theorem aOB (fa f:Nat→Nat) (l:NM):rem f l (Maps.has (datum fa l))=(l.map fun p=>f p.2).sum:=by
 unfold rem
 rw[List.filter_eq_self.2 (fun p hp=>?_)]
 unfold datum
 rw[Maps.has_eq,List.any_eq_true]
 exact⟨ent fa p,List.mem_map_of_mem hp,by show (key p.1).sameKey (key p.1)=true;rw[dX];simp⟩
theorem aEA (f:Nat→Nat) (nm:ByteArray) (no:Nat) (left:Lit→Bool) (hl:left (key nm)=true):∀ {l:NM},Up l→find l nm=some no→rem f l left=f no+rem f l (fun z=>left z&&!z.sameKey (key nm))
 | [],_,h=>by cases h
 | p::r,hu,h=>by
  obtain⟨h1,h2⟩:=List.pairwise_cons.1 hu
  show ((List.filter (fun p=>left (key p.1)) (p::r)).map _).sum=f no+((List.filter (fun q=>left (key q.1)&&!(key q.1).sameKey (key nm)) (p::r)).map _).sum
  by_cases e:p.1=nm
  ·have hp:p.2=no:=by
    unfold find at h
    rw[List.find?_cons]at h
    simp only[e,decide_true]at h
    simpa using h
   have hr:∀ q∈r,(left (key q.1)&&!(key q.1).sameKey (key nm))=left (key q.1):=fun q hq=>by
    have hne:q.1≠nm:=fun e2=>by
     have:=h1 q hq
     rw[e,e2,lt_irrefl]at this
     cases this
    rw[dX,decide_eq_false hne]
    simp
   have hL:left (key p.1)=true:=by rw[e];exact hl
   have hk:(left (key p.1)&&!(key p.1).sameKey (key nm))=false:=by rw[e,dX];simp
   rw[List.filter_cons_of_pos (p:=fun p:ByteArray × Nat=>left (key p.1)) hL,List.filter_cons_of_neg (p:=fun q:ByteArray × Nat=>left (key q.1)&&!(key q.1).sameKey (key nm)) (by rw[hk];decide),List.filter_congr hr,List.map_cons,List.sum_cons,hp]
  ·have hf:find r nm=some no:=by
    unfold find at h ⊢
    rw[List.find?_cons]at h
    simpa only[decide_eq_false e] using h
   have ih:((List.filter (fun p=>left (key p.1)) r).map fun p=>f p.2).sum=f no+((List.filter (fun q=>left (key q.1)&&!(key q.1).sameKey (key nm)) r).map fun p=>f p.2).sum:=aEA f nm no left hl h2 hf
   have hk:(left (key p.1)&&!(key p.1).sameKey (key nm))=left (key p.1):=by rw[dX,decide_eq_false e];simp
   by_cases hL:left (key p.1)=true
   ·rw[List.filter_cons_of_pos (p:=fun p:ByteArray × Nat=>left (key p.1)) hL,List.filter_cons_of_pos (p:=fun q:ByteArray × Nat=>left (key q.1)&&!(key q.1).sameKey (key nm)) (by rw[hk];exact hL),List.map_cons,List.map_cons,List.sum_cons,List.sum_cons,ih]
    omega
   ·rw[List.filter_cons_of_neg (p:=fun p:ByteArray × Nat=>left (key p.1)) hL,List.filter_cons_of_neg (p:=fun q:ByteArray × Nat=>left (key q.1)&&!(key q.1).sameKey (key nm)) (by rw[hk];exact hL)]
    exact ih
theorem aPZ (f:Nat→Nat) (l:NM) (left:Lit→Bool):rem f l left≤(l.map fun p=>f p.2).sum:=by
 unfold rem
 induction l with
 | nil=>simp
 | cons p r ih =>
  rw[List.filter_cons]
  split<;>simp only[List.map_cons,List.sum_cons]<;>omega
end D
theorem aLJ {fa:Nat→Nat} {l:D.NM} {x:ByteArray} {c:Option Nat} {kl:Lit} {y:DataW Unit × List MemPlace} (hk:keyOf Tryz.prog 9 (.string x)=some kl) (hv:D.iM (.pointer (c.map fun b=>⟨b,0,none⟩))=some y) (hat:∀ zd,(D.datum fa l).atKey kl zd=y.1) :
  kl=D.key x∧∃ no,D.find l x=some no∧c=some (fa no):=by
 have hx:x.size≤maxLen:=by
  have h:=hk
  simp [keyOf,mapKey]at h
  exact h.1
 rw[jJ x hx]at hk
 obtain rfl:=Option.some.inj hk
 refine⟨rfl,?_⟩
 cases hf:D.find l x with
 | none =>
  have h1:=hat .nil
  have h2:=hat (.lit (.bool true))
  rw[D.kL,hf]at h1 h2
  rw[← h1]at h2
  cases h2
 | some no =>
  refine⟨no,rfl,?_⟩
  have h1:=hat .nil
  rw[D.kL,hf]at h1
  dsimp only at h1
  obtain⟨d,ps⟩:=y
  dsimp only at h1
  subst h1
  have h2:=D.yI hv
  cases c with
  | none=>cases h2
  | some b=>simpa using h2
theorem aD1 (B:Nat) (M:DM) (s:D.Dsk) (w:World) (h:bU B M s w) (hs:∀ no,s.size no≤1099511627776) (ok:s.Ok) (hu:s.used≤1152921504606846976) :
  Calls Tryz.prog 140 #[.pointer (some ⟨M.d,0,none⟩)] w (fun e w'=>e=.returned (.int .i64 s.used)∧Below w.heap.size w w'):=by
 have HD:=aH h
 have HSZ:=aH hs
 have HOK:=aH ok
 have hlt:=h.now.lt
 obtain⟨y0,y1,y2,y3,y4,y5,y6,y7⟩:=h.cells
 clear h y1 y2 y3 y4 y5 y6 y7 hs ok
 go_enter Tryz.func140,Tryz.ntmps140
 go_wp2_with (first
  | (at_range;refine wpList_range_own _ rfl _ 91 rfl 9 98 (string_keyed bT) wQ D.iM M.mN s.now.length (D.datum M.fa s.now) rfl HD.out.now ?_;intro w0 hrg0 hg0 hs0)
  | go_in)
 go_frame
 have HB0:=aH (grown_below hg0)
 clear hg0
 go_loopw [3] (fun i wr=>∃ (left:Lit→Bool) (cnt:Nat),i=.int .i64 ((s.used:Int) - D.rem s.size s.now left)∧wr.ranges Tryz.prog 9 D.iM M.mN w.heap.size s.now.length (D.datum M.fa s.now) left cnt∧Below w.heap.size w wr)
  (fun _ wr=>wr.rangeLeft M.mN w.heap.size)
 case atStart =>
  refine⟨_,_,?_,hrg0,HB0.out⟩
  rw[D.aOB]
  show _=Value.int IntKind.i64 ((s.used:Int) - s.used)
  rw[Int.sub_self]
 case round =>
  obtain⟨left,cnt,rfl,hrg,hbe⟩:=hrel
  have HBE:=aH hbe
  have HRG:=aH hrg
  clear hbe hrg hrg0
  go_wp2_with (first
   | (at_next;refine wpList_next_ranges _ rfl _ rfl 9 (string_keyed bT) D.iM Value.string (fun c:Option Nat=>Value.pointer (c.map fun b=>⟨b,0,none⟩)) ?_ ?_ M.mN w.heap.size s.now.length _ left cnt rfl HRG.out ?_ ?_)
   | go_in)
  ·intro key kl hkey
   obtain⟨x,rfl,_⟩:=Maps.keyOf_str bT hkey
   exact⟨_,rfl⟩
  ·intro v y hv
   unfold D.iM at hv
   split at hv
   ·exact⟨some _,rfl⟩
   ·exact⟨none,rfl⟩
   ·cases hv
  ·intro _ hl0
   have hr0:D.rem s.size s.now left=0:=D.aLA hl0
   rw[hr0]
   clear hr0 hl0
   go_wp2
   go_ret
   exact⟨by simp,HBE.out⟩
  ·intro x c kl yd yp w1 cnt1 hkey hlx hv hat hrg1 hlt1 hg1 hs1 hen
   obtain⟨hkl,no,hf,hc⟩:=aLJ (fa:=M.fa) (l:=s.now) (y:=(yd,yp)) hkey hv hat
   subst hkl
   subst hc
   have hrem:=D.aEA s.size x no left hlx HOK.out.upN hf
   have hrle:=D.aPZ s.size s.now left
   have hno:=D.find_lt HOK.out hf
   have hBE1:Below w.heap.size w w1:=HBE.out.grown hg1 (HBE.out.size) (fun j hj=>by cases hj;exact zA _)
   have HBE1:=aH hBE1
   have z1:w1.cell? ⟨M.fa no,1,none⟩=some (.slice (M.da no) (s.size no) (M.dc no)):=((HD.out.files no hno).blk.under hBE1 (HD.out.files no hno).blk.lt).cell 1 rfl
   have hs2:=HSZ.out no
   have HRG1:=aH hrg1
   have hu2:(s.now.map fun p=>s.size p.2).sum=s.used:=rfl
   rw[hu2]at hrle
   have HLE:Hid (w1.rangeLeft M.mN w.heap.size < wr.rangeLeft M.mN w.heap.size):=aH (by rw[hrg1.left_eq,HRG.out.left_eq];exact hlt1)
   have HREM:=aH hrem
   clear hkey hlx hv hat hrg1 hlt1 hf hno hBE1 hu2
   obtain⟨z,hz⟩:∃ z:Int,(s.used:Int) - (D.rem s.size s.now left:Nat)=z:=⟨_,rfl⟩
   have hz0:0≤z:=by omega
   have hz1:z≤1152921504606846976:=by omega
   rw[hz]
   have HZ:=aH hz
   clear hz hrem hrle
   dsimp only[Option.map]at hen ⊢
   go_wp2
   go_roundw
   case rel=>exact⟨_,cnt1,by rw[← HZ.out,HREM.out];congr 1;push_cast;omega,HRG1.out,HBE1.out⟩
   case measure=>exact HLE.out
def DM.grew (M:DM) (no:Nat) (A:Option Addr) (c:Nat):DM:={ M with da:=fun i=>if i=no then A else M.da i,dc:=fun i=>if i=no then c else M.dc i }
def D.Dsk.wrote (s:D.Dsk) (no:Nat) (d:List UInt8):D.Dsk:={ s with data:=s.data.set no (s.data.getD no []++d) }
theorem D.Dsk.wrote_size (s:D.Dsk) {no:Nat} (hn:no < s.data.length) (d:List UInt8):(s.wrote no d).size no=s.size no+d.length:=by
 unfold D.Dsk.wrote D.Dsk.size
 simp [List.getD,hn]
theorem D.Dsk.wrote_same (s:D.Dsk) (no:Nat) (d:List UInt8) {i:Nat} (hi:i≠no):(s.wrote no d).data.getD i []=s.data.getD i []:=by
 unfold D.Dsk.wrote
 simp [List.getD,List.getElem?_set_ne (fun h=>hi h.symm)]
section
variable {B:Nat} {M:DM} {s:D.Dsk} {w w1 w':World} {A A':Option Addr} {c' n:Nat} {d:List UInt8} {no:Nat}
theorem Stepped.rd {M':DM} {s':D.Dsk} {size:Nat} {xs:List Value} (h:Stepped M s w M' s' w') (hx:Rd w A n size xs) (hA:0 < n→∀ a,A=some a→¬ M.foot s a.block):Rd w' A n size xs :=
 ⟨hx.1,fun hn=>by
  obtain⟨b,o,rfl,hlt,hc⟩:=hx.2 hn
  have hbl:w'.heap[b]?=w.heap[b]?:=h.block b hlt (hA hn _ rfl)
  exact⟨b,o,rfl,Nat.lt_of_lt_of_le hlt h.size,fun j u hu=>(World.cell?_of_block (w:=w) (a:=⟨b,o+j,none⟩) hbl).trans (hc j u hu)⟩⟩
theorem bU.wrote (h:bU B M s w) (hn:no < s.data.length) (ha:App w w1 (M.da no) (M.dc no) A' c') (hrow:Row w1 B 5 1 A' (s.size no+d.length) c' (aB (s.data.getD no []++d))) :
  bU B (M.grew no A' c') (s.wrote no d) (w1.setCell ⟨M.fa no,1,none⟩ (.slice A' (s.size no+d.length) c')):=by
 obtain⟨g1,g2,g3⟩:=h.files no hn
 have hg:=ha.grown
 have hT:∀ k,ownB (M.da no) (M.dc no)=some k→Tag w k 5:=fun k hk=>g2.tag hk
 have hb:∀ {k t},Tag w k t→t≠5→ownB (M.da no) (M.dc no)≠some k:=fun ht hn e=>ht.ne (hT _ e) hn rfl
 have hF1:=g1.keptG hg (hb g1.tag (by decide))
 have hg2:=aT w1 (M.fa no) 1 (.slice A' (s.size no+d.length) c')
 have hT2:=hF1.tag
 have hb2:∀ {k t},Tag w1 k t→t≠100→some (M.fa no)≠some k:=fun ht hn e=>ht.ne hT2 hn (by simpa using e.symm)
 have hmap:∀ {K:TypeId} {R:Value→Option (DataW Unit × List MemPlace)} {b n:Nat} {D:DataW Unit},w.ownsMap Tryz.prog K R b n D→(w1.setCell ⟨M.fa no,1,none⟩ (.slice A' (s.size no+d.length) c')).ownsMap Tryz.prog K R b n D:=fun hm=>by
  have h1:=hm.kept hg (fun e=>(hT _ e.symm).map (aF hm) rfl)
  exact h1.kept hg2 (fun e=>hT2.map (aF h1) (by simpa using e.symm))
 have hblk:∀ {k:Nat} {cs:Array Value} {t:TypeId},Blk w k cs t→t≠5→t≠100→Blk (w1.setCell ⟨M.fa no,1,none⟩ (.slice A' (s.size no+d.length) c')) k cs t:=fun hk h1 h2=>by
  have q:=hk.keptG hg (hb hk.tag h1)
  exact q.keptG hg2 (hb2 q.tag h2)
 have hrw:∀ {e:TypeId} {A:Option Addr} {n c:Nat} {xs:List Value},Row w B e 1 A n c xs→e≠5→e≠100→Row (w1.setCell ⟨M.fa no,1,none⟩ (.slice A' (s.size no+d.length) c')) B e 1 A n c xs:=fun hk h1 h2=>by
  have q:=hk.keptG hg (fun k hk2=>hb (hk.tag hk2) h1)
  exact q.keptG hg2 (fun k hk2=>hb2 (q.tag hk2) h2)
 have hlen:(s.wrote no d).data.length=s.data.length:=by unfold D.Dsk.wrote;simp
 refine⟨?_,hmap h.now,hmap h.safe,h.ne,hrw h.pend (by decide) (by decide),h.chg.imp (fun c v hc=>(hc.keptT hg hT (by decide)).keptT hg2 (fun k e=>by cases e;exact hT2) (by decide)),hrw h.fails (by decide) (by decide),fun i hi=>?_,fun i j hi hj hij=>?_,h.ge⟩
 ·show Blk _ _ #[_,_,_,.int .i64 ((s.wrote no d).data.length:Nat),_,_,_,_] _
  rw[hlen]
  exact hblk h.blk (by decide) (by decide)
 ·rw[hlen]at hi
  obtain⟨f1,f2,f3⟩:=h.files i hi
  by_cases e:i=no
  ·subst e
   have q1:(M.grew i A' c').da i=A':=if_pos rfl
   have q2:(M.grew i A' c').dc i=c':=if_pos rfl
   have q3:(s.wrote i d).data.getD i []=s.data.getD i []++d:=by unfold D.Dsk.wrote;simp [List.getD,hn]
   refine⟨?_,?_,f3⟩
   ·rw[q1,q2,s.wrote_size hn d]
    exact hF1.set 1 _
   ·rw[q1,q2,q3,s.wrote_size hn d]
    exact hrow.keptG hg2 (fun k hk=>hb2 (hrow.tag hk) (by decide))
  ·have q1:(M.grew no A' c').da i=M.da i:=if_neg e
   have q2:(M.grew no A' c').dc i=M.dc i:=if_neg e
   have q3:=s.wrote_same no d e
   have q4:(s.wrote no d).size i=s.size i:=by unfold D.Dsk.size;rw[q3]
   refine⟨?_,?_,f3⟩
   ·rw[q1,q2,q4]
    have x:=f1.keptG hg (hb f1.tag (by decide))
    exact x.keptG hg2 (fun e3=>(h.apart no i hn hi (fun h=>e h.symm)).1 (by simpa using e3))
   ·rw[q1,q2,q3,q4]
    have x:=f2.keptG hg (fun k hk e3=>(h.apart no i hn hi (fun h=>e h.symm)).2 k e3 hk)
    exact x.keptG hg2 (fun k hk=>hb2 (x.tag hk) (by decide))
 ·rw[hlen]at hi hj
  refine⟨(h.apart i j hi hj hij).1,?_⟩
  have hnew:∀ i,i < s.data.length→i≠no→∀ k,ownB A' c'=some k→ownB (M.da i) (M.dc i)≠some k:=fun i hi e k hk hk2=>by
   rcases ha.moved with ⟨rfl,rfl⟩ | ⟨g,rfl,hg⟩
   ·exact (h.apart no i hn hi (fun h=>e h.symm)).2 k hk hk2
   ·have:=((h.files i hi).row.lt k hk2).2
    unfold ownB at hk
    split at hk
    ·cases hk
    ·obtain rfl:g=k:=by simpa using hk
     omega
  by_cases e1:i=no
  ·subst e1
   have e2:j≠i:=fun h=>hij h.symm
   show ∀ k,ownB (if i=i then A' else M.da i) (if i=i then c' else M.dc i)=some k→ownB (if j=i then A' else M.da j) (if j=i then c' else M.dc j)≠some k
   rw[if_pos rfl,if_pos rfl,if_neg e2,if_neg e2]
   exact hnew j hj e2
  ·by_cases e2:j=no
   ·subst e2
    show ∀ k,ownB (if i=j then A' else M.da i) (if i=j then c' else M.dc i)=some k→ownB (if j=j then A' else M.da j) (if j=j then c' else M.dc j)≠some k
    rw[if_neg e1,if_neg e1,if_pos rfl,if_pos rfl]
    exact fun k hk hk2=>hnew i hi e1 k hk2 hk
   ·show ∀ k,ownB (if i=no then A' else M.da i) (if i=no then c' else M.dc i)=some k→ownB (if j=no then A' else M.da j) (if j=no then c' else M.dc j)≠some k
    rw[if_neg e1,if_neg e1,if_neg e2,if_neg e2]
    exact (h.apart i j hi hj hij).2
theorem Stepped.wrote (hn:no < s.data.length) (ha:App w w1 (M.da no) (M.dc no) A' c'):Stepped M s w (M.grew no A' c') (s.wrote no d) (w1.setCell ⟨M.fa no,1,none⟩ (.slice A' (s.size no+d.length) c')):=by
 have hlen:(s.wrote no d).data.length=s.data.length:=by unfold D.Dsk.wrote;simp
 have h1:Stepped M s w (M.grew no A' c') (s.wrote no d) w1:=by
  refine Stepped.grown ha.grown (fun k hk=>.inr (.inr (.inr (.inr ⟨no,hn,.inr hk⟩)))) (fun k hf=>?_) rfl
  rcases hf with hf | hf | hf | hf | ⟨i,hi,hf⟩
  ·exact .inl (.inl hf)
  ·exact .inl (.inr (.inl hf))
  ·exact .inl (.inr (.inr (.inl hf)))
  ·exact .inl (.inr (.inr (.inr (.inl hf))))
  ·rw[hlen]at hi
   rcases hf with hf | hf
   ·exact .inl (.inr (.inr (.inr (.inr ⟨i,hi,.inl hf⟩))))
   ·by_cases e:i=no
    ·subst e
     change ownB (if i=i then A' else M.da i) (if i=i then c' else M.dc i)=some k at hf
     rw[if_pos rfl,if_pos rfl]at hf
     rcases ha.moved with ⟨rfl,rfl⟩ | ⟨g,rfl,hg⟩
     ·exact .inl (.inr (.inr (.inr (.inr ⟨i,hi,.inr hf⟩))))
     ·refine .inr ?_
      unfold ownB at hf
      split at hf
      ·cases hf
      ·obtain rfl:g=k:=by simpa using hf
       exact hg
    ·change ownB (if i=no then A' else M.da i) (if i=no then c' else M.dc i)=some k at hf
     rw[if_neg e,if_neg e]at hf
     exact .inl (.inr (.inr (.inr (.inr ⟨i,hi,.inr hf⟩))))
 exact h1.trans (Stepped.file (M:=M.grew no A' c') (by rw[hlen];exact hn) rfl)
end
end Go.Proofs.YthjeglnkgdpijaaGreatDoor
namespace Go.Proofs.YthjeglnkgdpijaaGreatDoor
open Go.RowKit
theorem Row.apart {u:World} {base:Nat} {e t:TypeId} {size:Nat} {A:Option Addr} {n c b:Nat} {xs:List Value} {cs:Array Value} (h:Row u base e size A n c xs) (hb:Blk u b cs t) (hne:t≠e):∀ k,ownB A c=some k→k≠b:=by
 rintro k hk rfl
 have hb':u.heap[k]?=some (.cells cs t (0,0)):=hb
 unfold ownB at hk
 split at hk
 ·cases hk
 ·rename_i hc
  rcases h with ⟨_,h2⟩ | ⟨_,h2,_⟩
  ·rcases h2 with ⟨hv,_⟩ | ⟨g,cap,cur,hv,hg,hh,r⟩
   ·injection hv with _ _ h3
    exact hc h3
   ·injection hv with hA
    subst hA
    simp at hk
    subst hk
    rw[hb']at hh
    injection hh with hh
    injection hh with _ h2
    exact hne h2
  ·exact hc h2
def aKF (w:World) (b:Nat) (X X1:Array Value) (A1:Option Addr) (fs:List FD) (g:Nat) (body:List UInt8) (u:World):Prop :=
 Blk u w.heap.size X 38∧Blk u b X1 38∧Rd u A1 fs.length 2 (aI fs)∧Rd u (some ⟨g,0,none⟩) (body.length+marks.length) 1 (aB (body++marks))∧Below w.heap.size w u
theorem aKF.below {w u v:World} {b g:Nat} {X X1:Array Value} {A1:Option Addr} {fs:List FD} {body:List UInt8} (h:aKF w b X X1 A1 fs g body u) (hb:Below u.heap.size u v):aKF w b X X1 A1 fs g body v :=
 ⟨h.1.below hb,h.2.1.below hb,h.2.2.1.below hb,h.2.2.2.1.below hb,aA h.2.2.2.2.size h.2.2.2.2 hb⟩
end Go.Proofs.YthjeglnkgdpijaaGreatDoor
namespace Go.Proofs.YthjeglnkgdpijaaGreatDoor
namespace P
open T (Bs)
theorem xX {c:UInt8} (h:T.aCD c=true):c≠13∧c≠10∧c≠32∧c≠58∧c≠9 :=
 ⟨fun e=>by subst e;exact absurd h (by decide),fun e=>by subst e;exact absurd h (by decide),fun e=>by subst e;exact absurd h (by decide),fun e=>by subst e;exact absurd h (by decide),fun e=>by subst e;exact absurd h (by decide)⟩
theorem aAI {c:UInt8} (h:T.fQ c=true):c≠13∧c≠10 :=
 ⟨fun e=>by subst e;exact absurd h (by decide),fun e=>by subst e;exact absurd h (by decide)⟩
theorem aEY {c:UInt8} (h1:c≠13) (h2:c≠10):eol c=false:=by
 unfold eol
 rw[Bool.or_eq_false_iff,beq_eq_false_iff_ne,beq_eq_false_iff_ne]
 exact⟨h1,h2⟩
theorem aC6 {l:Bs} (h:T.token l=true) {x:UInt8} (hx:x∈l):T.aCD x=true:=by
 unfold T.token at h
 rw[Bool.and_eq_true,List.all_eq_true]at h
 exact h.1 x hx
theorem aPV {l:Bs} (h:T.token l=true):l≠[]:=by
 rintro rfl
 exact absurd h (by decide)
def bare (f:FD):Bs:=L f.1++58::32::L f.2
theorem aIR (f:FD):F.line f=bare f++[13,10]:=by
 unfold F.line bare
 simp
theorem aJX {f:FD} (h:F.okF f=true):(∀ y∈bare f,eol y=false)∧aEG (bare f)=0∧uX (bare f)=f∧∃ x t,bare f=x::t∧x≠13:=by
 unfold F.okF at h
 rw[Bool.and_eq_true]at h
 obtain⟨h1,h2⟩:=h
 have h3:=h2
 unfold F.good at h3
 rw[Bool.and_eq_true,List.all_eq_true,decide_eq_true_eq]at h3
 obtain⟨h3,h4⟩:=h3
 have hs:=lK (·==58) (L f.1) 58 (32::L f.2) (fun y hy=>by
  have:=(xX (aC6 h1 hy)).2.2.2.1
  simpa using this) (by decide)
 have hn:nameOf (bare f)=L f.1:=hs.1
 have hfr:from_ (·==58) (bare f)=58::32::L f.2:=hs.2
 have hv:valOf (bare f)=L f.2:=by
  unfold valOf
  rw[hfr]
  show T.trim (32::L f.2)=_
  have:T.trim (32::L f.2)=T.trim (L f.2):=by
   unfold T.trim
   rw[List.dropWhile_cons,if_pos (by decide)]
  rw[this,h4]
 obtain⟨x,t,hxt⟩:∃ x t,L f.1=x::t:=by
  cases h5:L f.1 with
  | nil=>exact absurd h5 (aPV h1)
  | cons x t=>exact⟨x,t,rfl⟩
 have hx:=xX (aC6 h1 (show x∈L f.1 by rw[hxt];simp))
 have hcons:bare f=x::(t++58::32::L f.2):=by
  unfold bare
  rw[hxt];rfl
 refine⟨?_,?_,?_,x,_,hcons,hx.1⟩
 ·intro y hy
  unfold bare at hy
  rw[List.mem_append,List.mem_cons,List.mem_cons]at hy
  rcases hy with hy | rfl | rfl | hy
  ·have:=xX (aC6 h1 hy)
   exact aEY this.1 this.2.1
  ·decide
  ·decide
  ·have:=aAI (h3 y hy)
   exact aEY this.1 this.2
 ·unfold aEG
  rw[if_neg,if_neg]
  ·rw[hfr,hn,hv,B_L,h1,h2]
   rintro (h | h | h)<;>cases h
  ·rw[hcons]
   simp only[List.head?_cons,Option.some.injEq]
   rintro (h | h)
   ·exact hx.2.2.1 h
   ·exact hx.2.2.2.2 h
 ·unfold uX
  rw[hn,hv,B_L,B_L]
theorem nX (f:FD) (fs:List FD):F.lines (f::fs)=bare f++13::10::F.lines fs:=by
 unfold F.lines
 rw[List.flatMap_cons,aIR]
 simp
theorem sQ:∀ (fs out:List FD),fs.all F.okF=true→out.length+fs.length≤100→parse out (F.lines fs)=(out++fs,0)
 | [],out,_,_=>by
  rw[show F.lines []=[] from rfl,parse_nil,List.append_nil]
 | f::fs,out,h,hl=>by
  rw[List.all_cons,Bool.and_eq_true]at h
  obtain⟨g1,g2,g3,x,t,hxt,_⟩:=aJX h.1
  have hs:=lK eol (bare f) 13 (10::F.lines fs) g1 (by decide)
  rw[nX,nU out (by rw[hxt];simp) hs.2,hs.1,g2,g3,if_neg (fun h=>h rfl)]
  simp only[List.length_cons]at hl
  rw[if_neg (by omega),sQ fs (out++[f]) h.2 (by rw[bC];simp only[List.length_cons,List.length_nil];omega)]
  simp
theorem jC {x:UInt8} {l:Bs} {sub:Bs} {i:Nat} (h:sub.isPrefixOf (x::l)=false) (hi:Lib.index l sub=(i:Int)):Lib.index (x::l) sub=((i+1:Nat):Int):=by
 unfold Lib.index
 rw[h,hi]
 have:((i:Int)==-1)=false:=by rw[beq_eq_false_iff_ne];omega
 simp [this]
theorem kR {x:UInt8} {l:Bs} {sub:Bs} (h:sub.isPrefixOf (x::l)=true):Lib.index (x::l) sub=0:=by
 unfold Lib.index
 rw[if_pos h]
theorem aH8 {x:UInt8} {l t:Bs} (h:x≠13):(13::t:Bs).isPrefixOf (x::l)=false:=by
 rw[List.isPrefixOf_cons_cons,Bool.and_eq_false_iff]
 exact .inl (by rw[beq_eq_false_iff_ne];exact fun e=>h e.symm)
theorem gK {t:Bs}:∀ (u r:Bs) (i:Nat),(∀ y∈u,eol y=false)→Lib.index r (13::t)=(i:Int)→Lib.index (u++r) (13::t)=((u.length+i:Nat):Int)
 | [],r,i,_,hi=>by simpa using hi
 | y::u,r,i,hu,hi=>by
  have hy:y≠13:=((eol_iff' y).1 (hu y (by simp))).1
  have:=gK u r i (fun z hz=>hu z (by simp [hz])) hi
  rw[List.cons_append,jC (aH8 hy) this]
  simp only[List.length_cons]
  congr 1
  omega
where
 eol_iff' (x:UInt8):eol x=false↔x≠13∧x≠10:=by
  unfold eol
  rw[Bool.or_eq_false_iff,beq_eq_false_iff_ne,beq_eq_false_iff_ne]
theorem aGC (r:Bs):Lib.index (13::10::r) aE1=0:=kR (by simp [aE1])
theorem aDE (r:Bs):Lib.index (13::10::13::10::r) qC=0:=kR (by simp [qC])
theorem aIW {x:UInt8} {l:Bs} {i:Nat} (hx:x≠13) (hi:Lib.index (x::l) qC=(i:Int)):Lib.index (13::10::x::l) qC=((i+2:Nat):Int):=by
 have h1:Lib.index (10::x::l) qC=((i+1:Nat):Int):=jC (aH8 (by decide)) hi
 refine jC ?_ h1
 unfold qC
 rw[List.isPrefixOf_cons_cons,List.isPrefixOf_cons_cons,aH8 hx]
 rfl
theorem wW:∀ (fs:List FD) (u rest:Bs),fs.all F.okF=true→(∀ y∈u,eol y=false)→Lib.index (u++13::10::(F.lines fs++13::10::rest)) qC=((u.length+(F.lines fs).length:Nat):Int)
 | [],u,rest,_,hu=>gK u _ 0 hu (aDE rest)
 | f::fs,u,rest,h,hu=>by
  rw[List.all_cons,Bool.and_eq_true]at h
  obtain⟨g1,_,_,x,t,hxt,hx⟩:=aJX h.1
  have ih:=wW fs (bare f) rest h.2 g1
  have e:F.lines (f::fs)++13::10::rest=bare f++13::10::(F.lines fs++13::10::rest):=by
   rw[nX];simp
  rw[e]
  have hl:(F.lines (f::fs)).length=(bare f).length+2+(F.lines fs).length:=by
   rw[nX]
   simp only[bC,List.length_cons]
   omega
  rw[hl]
  refine gK u _ _ hu ?_
  rw[hxt,List.cons_append]at ih ⊢
  refine (aIW hx ih).trans ?_
  congr 1
  omega
def dL (u:Bs) (fs:List FD):Bs:=u++[13,10]++F.lines fs++[13,10]
theorem wZ (u:Bs) (fs:List FD) (rest:Bs):dL u fs++rest=u++13::10::(F.lines fs++13::10::rest):=by
 unfold dL
 simp
theorem nZ (u:Bs) (fs:List FD):(dL u fs).length=u.length+(F.lines fs).length+4:=by
 unfold dL
 simp only[bC,List.length_cons,List.length_nil]
 omega
theorem wY (u:Bs) (fs:List FD) (rest:Bs) (h:fs.all F.okF=true) (hu:∀ y∈u,eol y=false) (hl:u.length+(F.lines fs).length+4≤8192) :
  hIdx (dL u fs++rest) 0=((u.length+(F.lines fs).length:Nat):Int)∧hE (dL u fs++rest) 0=0∧hN (dL u fs++rest) 0=((dL u fs).length:Int)∧oC (dL u fs++rest) 0=u∧jI (dL u fs++rest) 0=F.lines fs:=by
 have h0:hIdx (dL u fs++rest) 0=((u.length+(F.lines fs).length:Nat):Int):=by
  unfold hIdx
  rw[List.drop_zero,wZ]
  exact wW fs u rest h hu
 have ht:fZ (dL u fs++rest) 0=u++13::10::F.lines fs:=by
  unfold fZ
  rw[h0,List.drop_zero,wZ]
  have e:u++13::10::(F.lines fs++13::10::rest)=(u++13::10::F.lines fs)++(13::10::rest):=by simp
  rw[e]
  refine List.take_left' ?_
  simp only[bC,List.length_cons]
  omega
 have hx:Lib.index (u++13::10::F.lines fs) aE1=((u.length:Nat):Int):=by
  have:=gK (t:=[10]) u (13::10::F.lines fs) 0 hu (aGC _)
  rw[Nat.add_zero]at this
  exact this
 refine⟨h0,?_,?_,?_,?_⟩
 ·unfold hE
  rw[h0,if_neg (by omega),if_neg (by omega)]
 ·unfold hN
  rw[h0,if_neg (by omega),nZ]
  omega
 ·unfold oC
  rw[ht,hx,Int.toNat_natCast,List.take_left' rfl]
 ·unfold jI
  rw[ht,hx,Int.toNat_natCast]
  have e:u++13::10::F.lines fs=(u++[13,10])++F.lines fs:=by simp
  rw[e]
  exact List.drop_left' (by simp)
theorem aGK (u:Bs) (fs:List FD) (h:fs.all F.okF=true) (hu:∀ y∈u,eol y=false) (hl:u.length+(F.lines fs).length+4≤8192) :
  hIdx ((dL u fs).take ((dL u fs).length - 1)) 0 < 0:=by
 have h0:=(wY u fs [] h hu hl).1
 rw[List.append_nil]at h0
 have hlen:=nZ u fs
 rcases aIZ ((dL u fs).take ((dL u fs).length - 1)) 0 with h1 | ⟨i,h1,h2⟩
 ·exact h1
 ·rw[List.length_take]at h2
  have:=(aIY (b:=(dL u fs).take ((dL u fs).length - 1)) (b':=dL u fs) (m:=(dL u fs).length - 1) (by rw[List.take_take,Nat.min_self]) h1 (by omega) (by omega)).1
  omega
theorem whole_ok {l:Bs} {fs:List FD} (h:F.dK l fs=0):fs.all F.okF=true∧fs.length≤100∧l.length+(F.lines fs).length+4≤8192∧F.iC l fs=dL l fs:=by
 refine⟨?_,?_,?_,if_pos h⟩
 all_goals
  unfold F.dK at h
  split at h
  ·rename_i h1
   unfold F.dD at h1
   split at h1
   ·rename_i h2
    split at h1
    ·cases h1
    ·split at h
     ·cases h
     ·first | exact h2 | omega
   ·cases h1
  ·rename_i h1
   exact absurd h h1
theorem aQC {n:Int} (h0:0≤n) (h1:n≤1):(n=0∧Lib.itoa n=[48])∨(n=1∧Lib.itoa n=[49]):=by
 rcases (by omega:n=0∨n=1) with rfl | rfl
 ·exact .inl ⟨rfl,by unfold Lib.itoa;rw[if_neg (by decide),show (0:Int).toNat=0 from rfl,Lib.decDigits];rfl⟩
 ·exact .inr ⟨rfl,by rw[aBI 1 (by decide)];decide⟩
theorem yB:∀ k:Fin 500,lG (low (k.1+100)).reverse=true∧stat (low (k.1+100)).reverse=((k.1+100:Nat):Int):=by decide +kernel
theorem aCN {s:Int} (h0:100≤s) (h1:s≤599):lG (Lib.itoa s)=true∧stat (Lib.itoa s)=s:=by
 have h:=yB ⟨(s - 100).toNat,by omega⟩
 have e:(s - 100).toNat+100=s.natAbs:=by omega
 simp only[e]at h
 rw[aBI s (by omega),if_neg (by omega),List.append_nil]
 exact⟨h.1,h.2.trans (by omega)⟩
theorem aJL {c:UInt8} (h:dig c=true):c≠13∧c≠10∧c≠32 :=
 ⟨fun e=>by subst e;exact absurd h (by decide),fun e=>by subst e;exact absurd h (by decide),fun e=>by subst e;exact absurd h (by decide)⟩
theorem gW {s:Int} {r:ByteArray} {v:Int} {fs:List FD} (h:F.fK s r v fs=0) (rest:Bs) :
  response (F.dS s r v fs++rest)=⟨s,r,v,fs,((F.dS s r v fs).length:Int),0⟩∧(F.dS s r v fs).length≤8192∧0 < (F.dS s r v fs).length∧response ((F.dS s r v fs).take ((F.dS s r v fs).length - 1))=.bad 0:=by
 have hB0:F.dS s r v fs=F.iC (F.aZ s r v) fs:=if_pos h
 rw[hB0]
 unfold F.fK at h
 split at h
 case isTrue=>cases h
 case isFalse hok =>
  split at h
  case isTrue=>cases h
  case isFalse hst =>
   obtain⟨h1,h2,h3,h4⟩:=whole_ok h
   rw[h4]
   have htx:F.text r=true:=by
    cases ht:F.text r with
    | true=>rfl
    | false=>exact absurd (.inr (.inr ht)) hok
   have k3:0≤v:=by
    rcases (by omega:v < 0∨0≤v) with h | h
    ·exact absurd (.inl h) hok
    ·exact h
   have k4:v≤1:=by
    rcases (by omega:1 < v∨v≤1) with h | h
    ·exact absurd (.inr (.inl h)) hok
    ·exact h
   obtain⟨c1,c2⟩:=aCN (s:=s) (by omega) (by omega)
   obtain⟨d,hd,hdv⟩:∃ d:UInt8,Lib.itoa v=[d]∧((v=0∧d=48)∨(v=1∧d=49)):=by
    rcases aQC k3 k4 with ⟨e1,e2⟩ | ⟨e1,e2⟩
    ·exact⟨48,e2,.inl ⟨e1,rfl⟩⟩
    ·exact⟨49,e2,.inr ⟨e1,rfl⟩⟩
   have hline:F.aZ s r v=[72,84,84,80,47,49,46,d]++32::(Lib.itoa s++32::L r):=by
    unfold F.aZ
    rw[hd]
    simp
   generalize Lib.itoa s=cd at *
   have hcd:∀ y∈cd,dig y=true:=by
    have:=c1
    unfold lG at this
    rw[Bool.and_eq_true,List.all_eq_true]at this
    exact this.2
   have htr:∀ y∈L r,T.fQ y=true:=by
    have:=htx
    unfold F.text at this
    rwa [List.all_eq_true]at this
   have hpr:∀ y∈([72,84,84,80,47,49,46,d]:Bs),eol y=false∧sp y=false:=by
    rcases hdv with ⟨_,rfl⟩ | ⟨_,rfl⟩
    ·decide
    ·decide
   have hu:∀ y∈F.aZ s r v,eol y=false:=by
    rw[hline]
    intro y hy
    have hy2:y∈([72,84,84,80,47,49,46,d]:Bs)∨y=32∨y∈cd∨y=32∨y∈L r:=by
     rcases List.mem_append.1 hy with h | h
     ·exact .inl h
     ·rcases List.mem_cons.1 h with h | h
      ·exact .inr (.inl h)
      ·rcases List.mem_append.1 h with h | h
       ·exact .inr (.inr (.inl h))
       ·rcases List.mem_cons.1 h with h | h
        ·exact .inr (.inr (.inr (.inl h)))
        ·exact .inr (.inr (.inr (.inr h)))
    rcases hy2 with hy | rfl | hy | rfl | hy
    ·exact (hpr y hy).1
    ·decide
    ·have:=aJL (hcd y hy)
     exact aEY this.1 this.2.1
    ·decide
    ·have:=aAI (htr y hy)
     exact aEY this.1 this.2
   have hf:=wY (F.aZ s r v) fs rest h1 hu h3
   have e1:=lK sp [72,84,84,80,47,49,46,d] 32 (cd++32::L r) (fun y hy=>(hpr y hy).2) (by decide)
   have e2:=lK sp cd 32 (L r) (fun y hy=>by
    have:=(aJL (hcd y hy)).2.2
    unfold sp
    simpa using this) (by decide)
   have m1:methodOf (F.aZ s r v)=[72,84,84,80,47,49,46,d]:=by rw[hline];exact e1.1
   have m2:behind (F.aZ s r v)=cd++32::L r:=by
    rw[hline]
    unfold behind
    rw[e1.2]
    rfl
   have m3:methodOf (behind (F.aZ s r v))=cd:=by rw[m2];exact e2.1
   have m4:behind (behind (F.aZ s r v))=L r:=by
    rw[m2]
    unfold behind
    rw[e2.2]
    rfl
   have hve:rE [72,84,84,80,47,49,46,d]=0∧aCF [72,84,84,80,47,49,46,d]=v:=by
    rcases hdv with ⟨rfl,rfl⟩ | ⟨rfl,rfl⟩
    ·exact⟨by decide,by decide⟩
    ·exact⟨by decide,by decide⟩
   have hp:=sQ fs [] h1 (by simpa using h2)
   rw[List.nil_append]at hp
   have hlen:=nZ (F.aZ s r v) fs
   refine⟨?_,by omega,by omega,?_⟩
   ·unfold response
    rw[hf.2.1,hf.2.2.1,hf.2.2.2.1,hf.2.2.2.2,if_neg (by omega)]
    unfold aD9
    rw[m1,m3,m4,B_L,c1,c2,htx,hve.1,hve.2,hp,if_neg (by simp),if_neg (by omega),if_neg (by decide),if_neg (fun h=>h rfl)]
   ·have hsh:=aGK (F.aZ s r v) fs h1 hu h3
    rw[aCT hsh,hE_no hsh,if_pos (by rw[List.length_take];omega)]
end P
end Go.Proofs.YthjeglnkgdpijaaGreatDoor
