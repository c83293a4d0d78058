/- The walks of the document's hex and size. The walk of the document's size line. The walks of the document's tail and Decode of chunked bodies. The walk of the disk's Used: a range over the names. The walks of the disk's List and SyncNames, and of New without files. The walks of the document's body and Request. The walk of the document's Request of whole messages. The walk of SameMessage, of two messages that read alike. The walks of frame.OfResponse and the document's Bare and OfResponse. A response's message as a plain function on bytes; the walks of inbox.response and inbox.Response. The walk of the document's Response. Conditions: as each theorem states them. -/
import Derived.Test.YthjeglnkgdpijaaGreatDoorZ22
import Derived.Shelf.SlMaps.Clone
import Derived.Shelf.SlIter.Sorted
set_option maxHeartbeats 2000000
namespace Go.Proofs.YthjeglnkgdpijaaGreatDoor
open Go.RowKit
namespace C
theorem take_at {l:List UInt8} {p:UInt8→Bool} {k j:Nat} (h:(l.take k).all p=true) (hj:j < k) (hl:j < l.length):p l[j]=true:=by
 rw[List.all_eq_true]at h
 exact h _ (List.mem_take_iff_getElem.2 ⟨j,by omega,rfl⟩)
end C
def aLA (w:World) (l:List UInt8) (e:Ending) (w':World):Prop :=
 ∃ A c,e=.returned (.tuple #[.slice A (C.aGF l).length c,.int .i64 (C.aGE l),.int .i64 (C.tailE l)])∧Row w' w.heap.size 60 2 A (C.aGF l).length c (aJ (C.aGF l))∧Below w.heap.size w w'
theorem aLA.bad {w w':World} {l:List UInt8} {N:Nat} {code:Int} (hb:Below w.heap.size w w') (hf:C.aGF l=[]) (hn:C.aGE l=N) (he:C.tailE l=code):aLA w l (.returned (.tuple #[.slice none 0 0,.int .i64 N,.int .i64 code])) w':=by
 refine⟨none,0,?_,?_,hb⟩
 ·rw[hf,hn,he];rfl
 ·rw[hf];exact Row.none_ _ _ _ _
open Go Go.Maps
namespace D
def rem (f:Nat→Nat) (l:NM) (left:Lit→Bool):Nat:=((l.filter fun p=>left (key p.1)).map fun p=>f p.2).sum
theorem aMA {f:Nat→Nat} {l:NM} {left:Lit→Bool} (h:∀ kl,left kl=false):rem f l left=0:=by
 unfold rem
 rw[List.filter_eq_nil_iff.2 (fun p _=>by rw[h];decide)]
 rfl
theorem aPL (fa f:Nat→Nat) (l:NM):rem f l (Maps.has (datum fa l))=(l.map fun p=>f p.2).sum:=by
 unfold rem
 rw[List.filter_eq_self.2 (fun p hp=>?_)]
 unfold datum
 rw[Maps.has_eq,List.any_eq_true]
 exact⟨ent fa p,List.mem_map_of_mem hp,by show (key p.1).sameKey (key p.1)=true;rw[eY];simp⟩
theorem aE5 (f:Nat→Nat) (nm:ByteArray) (no:Nat) (left:Lit→Bool) (hl:left (key nm)=true):∀ {l:NM},Up l→find l nm=some no→rem f l left=f no+rem f l (fun z=>left z&&!z.sameKey (key nm))
 | [],_,h=>by cases h
 | p::r,hu,h=>by
  obtain⟨h1,h2⟩:=List.pairwise_cons.1 hu
  show ((List.filter (fun p=>left (key p.1)) (p::r)).map _).sum=f no+((List.filter (fun q=>left (key q.1)&&!(key q.1).sameKey (key nm)) (p::r)).map _).sum
  by_cases e:p.1=nm
  ·have hp:p.2=no:=by
    unfold find at h
    rw[List.find?_cons]at h
    simp only[e,decide_true]at h
    simpa using h
   have hr:∀ q∈r,(left (key q.1)&&!(key q.1).sameKey (key nm))=left (key q.1):=fun q hq=>by
    have hne:q.1≠nm:=fun e2=>by
     have:=h1 q hq
     rw[e,e2,lt_irrefl]at this
     cases this
    rw[eY,decide_eq_false hne]
    simp
   have hL:left (key p.1)=true:=by rw[e];exact hl
   have hk:(left (key p.1)&&!(key p.1).sameKey (key nm))=false:=by rw[e,eY];simp
   rw[List.filter_cons_of_pos (p:=fun p:ByteArray × Nat=>left (key p.1)) hL,List.filter_cons_of_neg (p:=fun q:ByteArray × Nat=>left (key q.1)&&!(key q.1).sameKey (key nm)) (by rw[hk];decide),List.filter_congr hr,List.map_cons,List.sum_cons,hp]
  ·have hf:find r nm=some no:=by
    unfold find at h ⊢
    rw[List.find?_cons]at h
    simpa only[decide_eq_false e] using h
   have ih:((List.filter (fun p=>left (key p.1)) r).map fun p=>f p.2).sum=f no+((List.filter (fun q=>left (key q.1)&&!(key q.1).sameKey (key nm)) r).map fun p=>f p.2).sum:=aE5 f nm no left hl h2 hf
   have hk:(left (key p.1)&&!(key p.1).sameKey (key nm))=left (key p.1):=by rw[eY,decide_eq_false e];simp
   by_cases hL:left (key p.1)=true
   ·rw[List.filter_cons_of_pos (p:=fun p:ByteArray × Nat=>left (key p.1)) hL,List.filter_cons_of_pos (p:=fun q:ByteArray × Nat=>left (key q.1)&&!(key q.1).sameKey (key nm)) (by rw[hk];exact hL),List.map_cons,List.map_cons,List.sum_cons,List.sum_cons,ih]
    omega
   ·rw[List.filter_cons_of_neg (p:=fun p:ByteArray × Nat=>left (key p.1)) hL,List.filter_cons_of_neg (p:=fun q:ByteArray × Nat=>left (key q.1)&&!(key q.1).sameKey (key nm)) (by rw[hk];exact hL)]
    exact ih
theorem aRA (f:Nat→Nat) (l:NM) (left:Lit→Bool):rem f l left≤(l.map fun p=>f p.2).sum:=by
 unfold rem
 induction l with
 | nil=>simp
 | cons p r ih =>
  rw[List.filter_cons]
  split<;>simp only[List.map_cons,List.sum_cons]<;>omega
end D
theorem aML {fa:Nat→Nat} {l:D.NM} {x:ByteArray} {c:Option Nat} {kl:Lit} {y:DataW Unit × List MemPlace} (hk:keyOf Tryz.prog 9 (.string x)=some kl) (hv:D.jA (.pointer (c.map fun b=>⟨b,0,none⟩))=some y) (hat:∀ zd,(D.datum fa l).atKey kl zd=y.1) :
  kl=D.key x∧∃ no,D.find l x=some no∧c=some (fa no):=by
 have hx:x.size≤maxLen:=by
  have h:=hk
  simp [keyOf,mapKey]at h
  exact h.1
 rw[jU x hx]at hk
 obtain rfl:=Option.some.inj hk
 refine⟨rfl,?_⟩
 cases hf:D.find l x with
 | none =>
  have h1:=hat .nil
  have h2:=hat (.lit (.bool true))
  rw[D.lC,hf]at h1 h2
  rw[← h1]at h2
  cases h2
 | some no =>
  refine⟨no,rfl,?_⟩
  have h1:=hat .nil
  rw[D.lC,hf]at h1
  dsimp only at h1
  obtain⟨d,ps⟩:=y
  dsimp only at h1
  subst h1
  have h2:=D.zG hv
  cases c with
  | none=>cases h2
  | some b=>simpa using h2
theorem aET (B:Nat) (M:DM) (s:D.Dsk) (w:World) (h:dD B M s w) (hs:∀ no,s.size no≤1099511627776) (ok:s.Ok) (hu:s.used≤1152921504606846976) :
  Calls Tryz.prog 140 #[.pointer (some ⟨M.d,0,none⟩)] w (fun e w'=>e=.returned (.int .i64 s.used)∧Below w.heap.size w w'):=by
 have HD:=aH h
 have HSZ:=aH hs
 have HOK:=aH ok
 have hlt:=h.now.lt
 obtain⟨y0,y1,y2,y3,y4,y5,y6,y7⟩:=h.cells
 clear h y1 y2 y3 y4 y5 y6 y7 hs ok
 go_enter Tryz.func140,Tryz.ntmps140
 go_wp2_with (first
  | (at_range;refine wpList_range_own _ rfl _ 91 rfl 9 98 (string_keyed dA) xP D.jA M.mN s.now.length (D.datum M.fa s.now) rfl HD.out.now ?_;intro w0 hrg0 hg0 hs0)
  | go_in)
 go_frame
 have HB0:=aH (grown_below hg0)
 clear hg0
 go_loopw [3] (fun i wr=>∃ (left:Lit→Bool) (cnt:Nat),i=.int .i64 ((s.used:Int) - D.rem s.size s.now left)∧wr.ranges Tryz.prog 9 D.jA M.mN w.heap.size s.now.length (D.datum M.fa s.now) left cnt∧Below w.heap.size w wr)
  (fun _ wr=>wr.rangeLeft M.mN w.heap.size)
 case atStart =>
  refine⟨_,_,?_,hrg0,HB0.out⟩
  rw[D.aPL]
  show _=Value.int IntKind.i64 ((s.used:Int) - s.used)
  rw[Int.sub_self]
 case round =>
  obtain⟨left,cnt,rfl,hrg,hbe⟩:=hrel
  have HBE:=aH hbe
  have HRG:=aH hrg
  clear hbe hrg hrg0
  go_wp2_with (first
   | (at_next;refine wpList_next_ranges _ rfl _ rfl 9 (string_keyed dA) D.jA Value.string (fun c:Option Nat=>Value.pointer (c.map fun b=>⟨b,0,none⟩)) ?_ ?_ M.mN w.heap.size s.now.length _ left cnt rfl HRG.out ?_ ?_)
   | go_in)
  ·intro key kl hkey
   obtain⟨x,rfl,_⟩:=Maps.keyOf_str dA hkey
   exact⟨_,rfl⟩
  ·intro v y hv
   unfold D.jA at hv
   split at hv
   ·exact⟨some _,rfl⟩
   ·exact⟨none,rfl⟩
   ·cases hv
  ·intro _ hl0
   have hr0:D.rem s.size s.now left=0:=D.aMA hl0
   rw[hr0]
   clear hr0 hl0
   go_wp2
   go_ret
   exact⟨by simp,HBE.out⟩
  ·intro x c kl yd yp w1 cnt1 hkey hlx hv hat hrg1 hlt1 hg1 hs1 hen
   obtain⟨hkl,no,hf,hc⟩:=aML (fa:=M.fa) (l:=s.now) (y:=(yd,yp)) hkey hv hat
   subst hkl
   subst hc
   have hrem:=D.aE5 s.size x no left hlx HOK.out.upN hf
   have hrle:=D.aRA s.size s.now left
   have hno:=D.find_lt HOK.out hf
   have hBE1:Below w.heap.size w w1:=HBE.out.grown hg1 (HBE.out.size) (fun j hj=>by cases hj;exact zA _)
   have HBE1:=aH hBE1
   have z1:w1.cell? ⟨M.fa no,1,none⟩=some (.slice (M.da no) (s.size no) (M.dc no)):=((HD.out.files no hno).blk.under hBE1 (HD.out.files no hno).blk.lt).cell 1 rfl
   have hs2:=HSZ.out no
   have HRG1:=aH hrg1
   have hu2:(s.now.map fun p=>s.size p.2).sum=s.used:=rfl
   rw[hu2]at hrle
   have HLE:Hid (w1.rangeLeft M.mN w.heap.size < wr.rangeLeft M.mN w.heap.size):=aH (by rw[hrg1.left_eq,HRG.out.left_eq];exact hlt1)
   have HREM:=aH hrem
   clear hkey hlx hv hat hrg1 hlt1 hf hno hBE1 hu2
   obtain⟨z,hz⟩:∃ z:Int,(s.used:Int) - (D.rem s.size s.now left:Nat)=z:=⟨_,rfl⟩
   have hz0:0≤z:=by omega
   have hz1:z≤1152921504606846976:=by omega
   rw[hz]
   have HZ:=aH hz
   clear hz hrem hrle
   dsimp only[Option.map]at hen ⊢
   go_wp2
   go_roundw
   case rel=>exact⟨_,cnt1,by rw[← HZ.out,HREM.out];congr 1;push_cast;omega,HRG1.out,HBE1.out⟩
   case measure=>exact HLE.out
open Go.Sort Go.Shelf
def Tryz.renKD:Go.Shelf.Ren:=⟨fun | 7=>110 | 10=>142 | n=>n,fun | 0=>0 | 3=>98 | 4=>4 | 23=>91 | 26=>9 | 27=>161 | 28=>162 | 33=>77 | n=>n,fun n=>n⟩
theorem Tryz.keysD:SlLaysZ.n7 Tryz.prog Tryz.renKD:={
 mixed:=by kernel_rfl,
 f7:=⟨Tryz.f110.name,by decide,Tryz.func110.trans (congrArg some (by kernel_rfl))⟩,
 f10:=⟨Tryz.f142.name,by decide,Tryz.func142.trans (congrArg some (by kernel_rfl))⟩,
 t0:=Tryz.underlying0,a0:=Tryz.isAgg0,z0:=Tryz.sizeOf0,v0:=Tryz.zeroValue0,
 t4:=Tryz.underlying4,a4:=Tryz.isAgg4,z4:=Tryz.sizeOf4,v4:=Tryz.zeroValue4,
 t23:=Tryz.underlying91,a23:=Tryz.isAgg91,z23:=Tryz.sizeOf91,v23:=Tryz.zeroValue91,
 t26:=Tryz.underlying9,a26:=Tryz.isAgg9,z26:=Tryz.sizeOf9,v26:=Tryz.zeroValue9,
 t27:=Tryz.underlying161,a27:=Tryz.isAgg161,z27:=Tryz.sizeOf161,v27:=Tryz.zeroValue161,
 t28:=Tryz.underlying162,a28:=Tryz.isAgg162,z28:=Tryz.sizeOf162,v28:=Tryz.zeroValue162,
 t33:=Tryz.underlying77,a33:=Tryz.isAgg77,z33:=Tryz.sizeOf77,v33:=Tryz.zeroValue77
}
def Tryz.renKT:Go.Shelf.Ren:=⟨fun | 7=>99 | 10=>137 | n=>n,fun | 0=>0 | 3=>3 | 4=>4 | 23=>106 | 26=>9 | 27=>161 | 28=>162 | 33=>77 | n=>n,fun n=>n⟩
theorem Tryz.keysT:SlLaysZ.n7 Tryz.prog Tryz.renKT:={
 mixed:=by kernel_rfl,
 f7:=⟨Tryz.f99.name,by decide,Tryz.func99.trans (congrArg some (by kernel_rfl))⟩,
 f10:=⟨Tryz.f137.name,by decide,Tryz.func137.trans (congrArg some (by kernel_rfl))⟩,
 t0:=Tryz.underlying0,a0:=Tryz.isAgg0,z0:=Tryz.sizeOf0,v0:=Tryz.zeroValue0,
 t4:=Tryz.underlying4,a4:=Tryz.isAgg4,z4:=Tryz.sizeOf4,v4:=Tryz.zeroValue4,
 t23:=Tryz.underlying106,a23:=Tryz.isAgg106,z23:=Tryz.sizeOf106,v23:=Tryz.zeroValue106,
 t26:=Tryz.underlying9,a26:=Tryz.isAgg9,z26:=Tryz.sizeOf9,v26:=Tryz.zeroValue9,
 t27:=Tryz.underlying161,a27:=Tryz.isAgg161,z27:=Tryz.sizeOf161,v27:=Tryz.zeroValue161,
 t28:=Tryz.underlying162,a28:=Tryz.isAgg162,z28:=Tryz.sizeOf162,v28:=Tryz.zeroValue162,
 t33:=Tryz.underlying77,a33:=Tryz.isAgg77,z33:=Tryz.sizeOf77,v33:=Tryz.zeroValue77
}
def Tryz.renS:Go.Shelf.Ren:=⟨fun | 6=>98 | 8=>136 | 9=>63 | 11=>170 | n=>n,fun | 0=>0 | 24=>55 | 26=>9 | 28=>162 | 33=>77 | n=>n,fun n=>n⟩
theorem Tryz.sortedL:SlLaysZ.n6 Tryz.prog Tryz.renS:={
 mixed:=by kernel_rfl,
 f6:=⟨Tryz.f98.name,by decide,Tryz.func98.trans (congrArg some (by kernel_rfl))⟩,
 f8:=⟨Tryz.f136.name,by decide,Tryz.func136.trans (congrArg some (by kernel_rfl))⟩,
 f11:=⟨Tryz.f170.name,by decide,Tryz.func170.trans (congrArg some (by kernel_rfl))⟩,
 t0:=Tryz.underlying0,a0:=Tryz.isAgg0,z0:=Tryz.sizeOf0,v0:=Tryz.zeroValue0,
 t24:=Tryz.underlying55,a24:=Tryz.isAgg55,z24:=Tryz.sizeOf55,v24:=Tryz.zeroValue55,
 t26:=Tryz.underlying9,a26:=Tryz.isAgg9,z26:=Tryz.sizeOf9,v26:=Tryz.zeroValue9,
 t28:=Tryz.underlying162,a28:=Tryz.isAgg162,z28:=Tryz.sizeOf162,v28:=Tryz.zeroValue162,
 i26:=Tryz.infoS
}
def Tryz.renC:Go.Shelf.Ren:=⟨fun | 5=>50 | 7=>89 | n=>n,fun | 3=>98 | 4=>4 | 20=>20 | 23=>91 | 25=>9 | n=>n,fun n=>n⟩
theorem Tryz.cloneD:SlLaysW.n5 Tryz.prog Tryz.renC:={
 mixed:=by kernel_rfl,
 f5:=⟨Tryz.f50.name,by decide,Tryz.func50.trans (congrArg some (by kernel_rfl))⟩,
 f7:=Tryz.func89.trans (congrArg some (by kernel_rfl)),
 t4:=Tryz.underlying4,a4:=Tryz.isAgg4,z4:=Tryz.sizeOf4,v4:=Tryz.zeroValue4,
 t20:=Tryz.underlying20,a20:=Tryz.isAgg20,z20:=Tryz.sizeOf20,v20:=Tryz.zeroValue20,
 t23:=Tryz.underlying91,a23:=Tryz.isAgg91,z23:=Tryz.sizeOf91,v23:=Tryz.zeroValue91
}
theorem uG {w0 w':World} {v:Value} {ss:List (List UInt8)} {l:List ByteArray} (hss:ss.mergeSort (fun x y=>decide (x≤y))=l.map L) (hln:ss.length=l.length)
  (hrow:w'.ownsRow w0.heap.size 9 1 v ss.length ((ss.mergeSort (fun x y=>decide (x≤y))).map encStr)) (hb:Below w0.heap.size w0 w') :
  eP w0 9 1 l.length (aF l) (.returned v) w':=by
 rw[hss,hln]at hrow
 have e:(l.map L).map encStr=aF l:=by
  rw[List.map_map]
  apply List.map_congr_left
  intro x _
  rfl
 rw[e]at hrow
 rcases hrow.2 with ⟨rfl,h0⟩ | ⟨g,cap,cur,rfl,r⟩
 ·have:l=[]:=List.eq_nil_of_length_eq_zero h0
  subst this
  exact⟨none,0,rfl,Row.none_ _ _ _ _,hb⟩
 ·exact⟨some ⟨g,0,none⟩,cap,rfl,.inl hrow,hb⟩
theorem aFA {fa:Nat→Nat} {l:D.NM} {ss:List (List UInt8)} (h:ss.Perm (strKeys (D.datum fa l))):ss.length=(l.map (·.1)).length:=by
 rw[h.length_eq,D.xR,List.length_map,List.length_map]
theorem aE1 (m:Nat):AnyZ.SortsIn Tryz.prog Tryz.renS Fence.wide m :=
 ⟨fun blk off cap ss W hH hblk hsz=>callsIn_wide.2 (Tryz.slices_Sort_string blk off cap ss W hH hblk hsz),
  fun p cap W=>callsIn_wide.2 (Tryz.slices_Sort_string_none p cap W)⟩
theorem aJT (mb:Option Nat) (w:World):Calls Tryz.prog 110 #[.map mb] w (fun e w'=>e=.returned (.func (.func 142) #[] #[.pointer (some ⟨w.heap.size,0,none⟩)])∧w'=w.alloc (.cells #[.map mb] 91)) :=
 (callsIn_wide (n:=5)).1 (AnyZ.keys_in Tryz.keysD Fence.wide 5 trivial rfl mb w)
theorem aDC {R:Value→Option (DataW Unit × List MemPlace)} (fa:Nat→Nat) (l:D.NM) (k b:Nat) (w:World) (hk:k < w.heap.size) (hm:w.cell? ⟨k,0,none⟩=some (.map (some b))) (h:w.ownsMap Tryz.prog 9 R b l.length (D.datum fa l)) (hu:D.Up l) (hl:l.length≤1073741824) :
  Calls Tryz.prog 98 #[.func (.func 142) #[] #[.pointer (some ⟨k,0,none⟩)]] w (eP w 9 1 (l.map (·.1)).length (aF (l.map (·.1)))):=by
 have hsz:Maps.size (D.datum fa l)=l.length:=by
  unfold D.datum
  rw[Maps.size_eq]
  simp
 have hseq:SeqGives Fence.wide 2 Tryz.prog 142 #[.pointer (some ⟨k,0,none⟩)] encStr (fun ss=>ss.Perm (strKeys (D.datum fa l))) (Maps.size (D.datum fa l)) w :=
  AnyZ.keys_gives (ρ:=Tryz.renKD) { Tryz.keysD with } Fence.wide 2 trivial rfl (by omega) k b l.length (D.datum fa l) w hk hm h
 have cS:=AnyZ.sorted_in Tryz.sortedL Fence.wide 5 trivial trivial trivial trivial rfl (by omega) (aE1 _) (enters_of Tryz.func63 (by kernel_rfl) rfl) 142 #[.pointer (some ⟨k,0,none⟩)] trivial (enters_of Tryz.func142 (by kernel_rfl) rfl) _ _ (by rw[hsz];simp only[maxLen];omega) (by rw[hsz];omega) w hseq
 refine ((callsIn_wide (n:=5)).1 cS).mono ?_
 rintro e w' ⟨v,ss,rfl,hS,hrow,hnil,hb⟩
 exact uG ((D.uM hu hS).trans (by rw[List.map_map];rfl)) (aFA hS) hrow hb
theorem aJS (mb:Option Nat) (w:World):Calls Tryz.prog 99 #[.map mb] w (fun e w'=>e=.returned (.func (.func 137) #[] #[.pointer (some ⟨w.heap.size,0,none⟩)])∧w'=w.alloc (.cells #[.map mb] 106)) :=
 (callsIn_wide (n:=5)).1 (AnyZ.keys_in Tryz.keysT Fence.wide 5 trivial rfl mb w)
theorem aDB {R:Value→Option (DataW Unit × List MemPlace)} (fa:Nat→Nat) (l:D.NM) (k b:Nat) (w:World) (hk:k < w.heap.size) (hm:w.cell? ⟨k,0,none⟩=some (.map (some b))) (h:w.ownsMap Tryz.prog 9 R b l.length (D.datum fa l)) (hu:D.Up l) (hl:l.length≤1073741824) :
  Calls Tryz.prog 98 #[.func (.func 137) #[] #[.pointer (some ⟨k,0,none⟩)]] w (eP w 9 1 (l.map (·.1)).length (aF (l.map (·.1)))):=by
 have hsz:Maps.size (D.datum fa l)=l.length:=by
  unfold D.datum
  rw[Maps.size_eq]
  simp
 have hseq:SeqGives Fence.wide 2 Tryz.prog 137 #[.pointer (some ⟨k,0,none⟩)] encStr (fun ss=>ss.Perm (strKeys (D.datum fa l))) (Maps.size (D.datum fa l)) w :=
  AnyZ.keys_gives (ρ:=Tryz.renKT) { Tryz.keysT with } Fence.wide 2 trivial rfl (by omega) k b l.length (D.datum fa l) w hk hm h
 have cS:=AnyZ.sorted_in Tryz.sortedL Fence.wide 5 trivial trivial trivial trivial rfl (by omega) (aE1 _) (enters_of Tryz.func63 (by kernel_rfl) rfl) 137 #[.pointer (some ⟨k,0,none⟩)] trivial (enters_of Tryz.func137 (by kernel_rfl) rfl) _ _ (by rw[hsz];simp only[maxLen];omega) (by rw[hsz];omega) w hseq
 refine ((callsIn_wide (n:=5)).1 cS).mono ?_
 rintro e w' ⟨v,ss,rfl,hS,hrow,hnil,hb⟩
 exact uG ((D.uM hu hS).trans (by rw[List.map_map];rfl)) (aFA hS) hrow hb
theorem yJ (M:DM) (l:D.NM) (b:Nat) (w:World) (h:w.ownsMap Tryz.prog 9 D.jA b l.length (D.datum M.fa l)) :
  Calls Tryz.prog 50 #[.map (some b)] w (fun e w'=>e=.returned (.map (some w.heap.size))∧w'.ownsMap Tryz.prog 9 D.jA w.heap.size l.length (D.datum M.fa l)∧Below w.heap.size w w'∧w.heap.size < w'.heap.size) :=
 (AnyW.maps_Clone_owns Tryz.cloneD 9 D.jA b l.length (D.datum M.fa l) w h).mono fun _ _ ⟨h1,h2,_,h4⟩=>⟨h1,h2,h4,h2.lt⟩
end Go.Proofs.YthjeglnkgdpijaaGreatDoor
namespace Go.Proofs.YthjeglnkgdpijaaGreatDoor
open Go Go.RowKit Go.Maps
theorem uU (B:Nat) (M:DM) (s:D.Dsk) (w:World) (h:dD B M s w) (ok:s.Ok) (hl:s.now.length≤1073741824) :
  Calls Tryz.prog 57 #[.pointer (some ⟨M.d,0,none⟩)] w (eP w 9 1 s.list.length (aF s.list)):=by
 have HD:=aH h
 have HDW:=aH (aAF B M s w h)
 obtain⟨G,hG⟩:∃ G,s.list=G:=⟨_,rfl⟩
 have HG:Hid (G=if s.down then [] else s.now.map (·.1)):=aH hG.symm
 have hup:=ok.upN
 rw[hG]
 clear h hG ok
 cases hd:s.down
 rotate_left
 ·rw[hd]at HDW HG
  rw[if_pos rfl]at HG
  go_enter Tryz.func57,Tryz.ntmps57
  go_wp2_with fail
  refine HDW.out.mono ?_
  rintro e w1 ⟨rfl,hb1⟩
  go_wp2
  go_ret
  rw[HG.out]
  exact⟨none,0,rfl,Row.none_ _ _ _ _,hb1⟩
 rw[hd]at HDW HG
 rw[if_neg (by decide)]at HG
 have HKE:=aH (fun u=>aJT (some M.mN) u)
 go_enter Tryz.func57,Tryz.ntmps57
 go_wp2_with fail
 refine HDW.out.mono ?_
 rintro e w1 ⟨rfl,hb1⟩
 have HD1:=aH (HD.out.below hb1)
 have HB1:=aH hb1
 obtain⟨y0,y1,y2,y3,y4,y5,y6,y7⟩:=HD1.out.cells
 clear hb1 HD y1 y2 y3 y4 y5 y6 y7 HDW
 go_wp2_with fail
 refine (HKE.out _).mono ?_
 rintro e w2 ⟨rfl,rfl⟩
 have hb2:Below w1.heap.size w1 (w1.alloc (.cells #[.map (some M.mN)] 91)):=(zB _ _).alloc (zA _) _
 have HSO:=aH (aDC M.fa s.now w1.heap.size M.mN (w1.alloc (.cells #[.map (some M.mN)] 91)) (by simp) ((Blk.new w1 _ _).cell 0 rfl) (HD1.out.below hb2).now hup hl)
 have HB2:=aH (aA HB1.out.size HB1.out hb2)
 clear hb2 HB1 y0
 go_wp2_with fail
 refine HSO.out.mono ?_
 rintro e w3 ⟨A,c,rfl,hr,hb3⟩
 have HR:=aH (hr.mono HB2.out.size)
 have HB3:=aH (aA HB2.out.size HB2.out hb3)
 clear hr hb3 HSO HB2
 go_wp2
 go_ret
 rw[HG.out]
 exact⟨A,c,by rw[List.length_map];rfl,HR.out,HB3.out⟩
section
variable {B:Nat} {M:DM} {s:D.Dsk} {w w1 w2:World} {k:Nat}
def DM.safed (M:DM) (k:Nat):DM:={ M with mS:=k,PA:=none,pc:=0,pv:=[] }
theorem dD.synced (h:dD B M s w) (hm:w1.ownsMap Tryz.prog 9 D.jA w.heap.size s.now.length (D.datum M.fa s.now)) (hb:Below w.heap.size w w1) :
  dD B (M.safed w.heap.size) { s with safe:=s.now,pend:=[] } ((w1.setCell ⟨M.d,1,none⟩ (.map (some w.heap.size))).setCell ⟨M.d,2,none⟩ (.slice none 0 0)) ∧
  Stepped M s w (M.safed w.heap.size) { s with safe:=s.now,pend:=[] } ((w1.setCell ⟨M.d,1,none⟩ (.map (some w.heap.size))).setCell ⟨M.d,2,none⟩ (.slice none 0 0)):=by
 have h1:=h.below hb
 have hT:=h1.blk.tag
 have hg1:=aT w1 M.d 1 (.map (some w.heap.size))
 have hT2:Tag (w1.setCell ⟨M.d,1,none⟩ (.map (some w.heap.size))) M.d 95:=(h1.blk.set 1 _).tag
 have hg2:=aT (w1.setCell ⟨M.d,1,none⟩ (.map (some w.heap.size))) M.d 2 (.slice none 0 0)
 have hg:w1.grownBy ((w1.setCell ⟨M.d,1,none⟩ (.map (some w.heap.size))).setCell ⟨M.d,2,none⟩ (.slice none 0 0)) (some M.d):=hg1.trans hg2
 have hb':∀ {k t},Tag w1 k t→t≠95→some M.d≠some k:=fun ht hn e=>ht.ne hT hn (by simpa using e.symm)
 refine⟨⟨?_,h1.now.kept hg (fun e=>hT.map (aC h1.now) (by simpa using e.symm)),hm.kept hg (fun e=>hT.map (aC hm) (by simpa using e.symm)),?_,Row.none_ _ _ _ _,trivial,h1.fails.keptG hg (fun k hk=>hb' (h1.fails.tag hk) (by decide)),
  fun no hn=>⟨(h1.files no hn).blk.keptG hg (hb' (h1.files no hn).blk.tag (by decide)),(h1.files no hn).row.keptG hg (fun k hk=>hb' ((h1.files no hn).row.tag hk) (by decide)),(h1.files no hn).ge⟩,h1.apart,⟨h.ge.1,h.ge.2.1,h.base⟩⟩,?_⟩
 ·exact (h1.blk.set 1 (.map (some w.heap.size))).set 2 (.slice none 0 0)
 ·have:=h.now.lt
  show M.mN≠w.heap.size
  omega
 ·refine⟨hg.os.trans hb.os,hg.tape.trans hb.tape,hg.output.trans hb.output,bD hb.size hg.size,fun i hi hn=>(hg.block i (Nat.lt_of_lt_of_le hi hb.size) (fun e=>hn (.inl (by simpa using e)))).trans (hb.block i hi),fun i hf=>?_,rfl⟩
  rcases hf with hf | hf | hf | hf | ⟨no,hn,hf⟩
  ·exact .inl (.inl hf)
  ·exact .inl (.inr (.inl hf))
  ·exact .inr (Nat.le_of_eq hf.symm)
  ·cases hf
  ·exact .inl (.inr (.inr (.inr (.inr ⟨no,hn,hf⟩))))
end
theorem jD (B:Nat) (M:DM) (s:D.Dsk) (w:World) (h:dD B M s w) (hs:s.Sml) :
  Calls Tryz.prog 96 #[.pointer (some ⟨M.d,0,none⟩)] w (bF B M s w s.syncNames):=by
 have HBG:=aH (vN B M s none 0 0 [] w h ⟨hs.n0,hs.n⟩ hs.fails (by omega) rfl (fun x hx=>by cases hx) (Rd.nil _ _ _) (fun h=>absurd h (by decide)))
 obtain⟨n,hbn⟩:=s.begin_as []
 obtain⟨G,hG⟩:∃ G,s.syncNames=G:=⟨_,rfl⟩
 have HG:Hid (G=if (s.begin []).2≠0 then ({ s with n:=n },(s.begin []).2) else (({ s with n:=n,safe:=s.now,pend:=[] }:D.Dsk),0)):=aH (by
  rw[← hG]
  unfold D.Dsk.syncNames
  cases hb:s.begin [] with
  | mk s1 e =>
   rw[hb]at hbn
   dsimp only at hbn ⊢
   subst hbn
   rfl)
 rw[hG]
 rw[hbn]at HBG
 generalize (s.begin []).2=e at *
 clear hG h hbn
 go_enter Tryz.func96,Tryz.ntmps96
 go_wp2_with fail
 refine HBG.out.mono ?_
 rintro e2 w2 ⟨rfl,hd2,hs2⟩
 have HD2:=aH hd2
 have HS2:=aH hs2
 clear hd2 hs2 HBG
 by_cases he:e=0
 ·subst he
  rw[if_neg (by simp)]at HG
  have HCL:=aH (yJ M s.now M.mN w2 HD2.out.now)
  obtain⟨y0,y1,y2,y3,y4,y5,y6,y7⟩:=HD2.out.cells
  clear y1 y2 y3 y4 y5 y6 y7
  go_wp2_with fail
  refine HCL.out.mono ?_
  rintro e w3 ⟨rfl,hm3,hb3,_⟩
  obtain⟨HD4,HS4⟩:=HD2.out.synced hm3 hb3
  have HD4:=aH HD4
  have HS4:=aH HS4
  have hD3:=HD2.out.below hb3
  have z1:w3.cell? ⟨M.d,1,none⟩=some (.map (some M.mS)):=hD3.blk.cell 1 rfl
  have z2:w3.cell? ⟨M.d,2,none⟩=some (.slice M.PA s.pend.length M.pc):=hD3.blk.cell 2 rfl
  have f1:=hD3.blk.free 1
  have f2:=hD3.blk.free 2
  clear hm3 hb3 HCL y0 hD3
  go_wp2
  go_ret
  exact⟨by rw[HG.out]<;>rfl,_,by rw[HG.out];exact HD4.out,by rw[HG.out];exact HS2.out.trans HS4.out⟩
 ·rw[if_pos he]at HG
  have heb:(e==0)=false:=beq_eq_false_iff_ne.2 he
  go_wp2
  go_ret
  exact⟨by rw[HG.out]<;>rfl,M,by rw[HG.out];exact HD2.out,by rw[HG.out];exact HS2.out⟩
theorem aCK (w:World):Calls Tryz.prog 47 #[.slice none 0 0] w (vX w (.slice none 0 0)):=by
 have he:=fun w=>Lib.run_eql_slice_nil (P:=Tryz.prog) w 23 _ none 0 0 (h:=Tryz.underlying23)
 go_enter Tryz.func47,Tryz.ntmps47
 go_wp2
 go_ret
 exact⟨rfl,rfl⟩
def D.none_ (room power:Int):D.Dsk:=⟨[],[],[],[],[],room,[],power,0⟩
theorem dD.new (w w1:World) (room power:Int) (_hb:Below w.heap.size w w1) (a b d:Nat) (ha:w.heap.size≤a) (hB:w.heap.size≤b) (hd:w.heap.size≤d) (hab:a≠b)
  (hN:w1.ownsMap Tryz.prog 9 D.jA a 0 (.map [])) (hS:w1.ownsMap Tryz.prog 9 D.jA b 0 (.map []))
  (hk:Blk w1 d #[.map (some a),.map (some b),.slice none 0 0,.int .i64 0,.int .i64 room,.slice none 0 0,.int .i64 power,.int .i64 0] 95) :
  dD w.heap.size ⟨d,a,b,none,0,[],fun _=>0,fun _=>none,fun _=>0,none,0⟩ (D.none_ room power) w1 :=
 ⟨hk,hN,hS,hab,Row.none_ _ _ _ _,trivial,Row.none_ _ _ _ _,fun _ hn=>absurd hn (Nat.not_lt_zero _),fun _ _ hi=>absurd hi (Nat.not_lt_zero _),⟨hd,ha,hB⟩⟩
end Go.Proofs.YthjeglnkgdpijaaGreatDoor
namespace Go.Proofs.YthjeglnkgdpijaaGreatDoor
open Go.RowKit
def aLD (w:World) (r:M.BD) (e:Ending) (w':World):Prop :=
 ∃ D d T j,e=.returned (.tuple #[.slice D r.d.length d,.slice T r.f.length j,.int .i64 r.n,.int .i64 r.e])∧bZ w' w.heap.size D r.d.length d r.d∧Row w' w.heap.size 60 2 T r.f.length j (aJ r.f)∧Below w.heap.size w w'
theorem aLD.bad {w w':World} {r:M.BD} {code:Int} (hb:Below w.heap.size w w') (h:r=.bad code):aLD w r (.returned (.tuple #[.slice none 0 0,.slice none 0 0,.int .i64 0,.int .i64 code])) w':=by
 subst h
 exact⟨none,0,none,0,rfl,bZ.none_ _ _,Row.none_ _ _ _ _,hb⟩
namespace F
def headW:List UInt8:=[72,69,65,68]
def connW:List UInt8:=[67,79,78,78,69,67,84]
def bareR (s:Int) (method:ByteArray):Bool:=decide (L method=headW∨s=204∨s=304∨(100≤s∧s≤199)∨(L method=connW∧200≤s∧s≤299))
def aRT (s m:Int) (fs:List FD) (method:ByteArray):FR:=if bareR s method=true then ⟨0,0,0⟩ else frame m fs 3
end F
namespace M
structure MP where
 s:Int
 r:ByteArray
 v:Int
 fs:List FD
 d:List UInt8
 f:List FD
 n:Int
 e:Int
def MP.bad (e:Int):MP:=⟨0,⟨#[]⟩,0,[],[],[],0,e⟩
def cutE (b:Bool):Int:=if b then 80 else 0
def aQ3 (q:P.RS) (b:BD) (cut:Int):MP:=if b.e≠0 then .bad b.e else if b.n=0 then .bad cut else ⟨q.s,q.r,q.v,q.fs,b.d,b.f,b.n,0⟩
def closed (bs:List UInt8) (q:P.RS) (ended:Bool):MP:=if (65536:Int) < (bs.length:Int) - q.n then .bad 71 else if ended=true then ⟨q.s,q.r,q.v,q.fs,bs.drop q.n.toNat,[],bs.length,0⟩ else .bad 0
def aP8 (bs:List UInt8) (q:P.RS) (f:F.FR) (ended:Bool):MP:=if f.e≠0 then .bad f.e else if f.k=3 then closed bs q ended else aQ3 q (body bs q.n.toNat f.k f.n) (cutE ended)
def response (bs:List UInt8) (method:ByteArray) (ended:Bool):MP :=
 if (P.response bs).e≠0 then .bad (P.response bs).e else if (P.response bs).n=0 then .bad (cutE ended) else aP8 bs (P.response bs) (F.aRT (P.response bs).s (P.response bs).v (P.response bs).fs method) ended
end M
def aOW (w:World) (r:M.MP) (e:Ending) (w':World):Prop :=
 ∃ A c D d T k,e=.returned (.tuple #[.agg #[.string ⟨#[]⟩,.string ⟨#[]⟩,.int .i64 0,.slice none 0 0,.int .i64 r.s,.string r.r,.int .i64 r.v,.slice A r.fs.length c,.slice D r.d.length d,.slice T r.f.length k],.int .i64 r.n,.int .i64 r.e]) ∧
  Row w' w.heap.size 60 2 A r.fs.length c (aJ r.fs)∧bZ w' w.heap.size D r.d.length d r.d∧Row w' w.heap.size 60 2 T r.f.length k (aJ r.f)∧Below w.heap.size w w'
theorem aOW.bad {w w':World} {r:M.MP} {code:Int} (hb:Below w.heap.size w w') (h:r=.bad code):aOW w r (.returned (.tuple #[.agg #[.string ⟨#[]⟩,.string ⟨#[]⟩,.int .i64 0,.slice none 0 0,.int .i64 0,.string ⟨#[]⟩,.int .i64 0,.slice none 0 0,.slice none 0 0,.slice none 0 0],.int .i64 0,.int .i64 code])) w':=by
 subst h
 exact⟨none,0,none,0,none,0,rfl,Row.none_ _ _ _ _,bZ.none_ _ _,Row.none_ _ _ _ _,hb⟩
end Go.Proofs.YthjeglnkgdpijaaGreatDoor
