/- The walk of the disk's Read. Conditions: names and files of at most 2^40 bytes. The walk of the disk's Used: a range over the names. Conditions: at most 2^40 bytes of a file, 2^40 names; the sum within 2^60. The walks of the law ObjectEncodes: alive, CopyEntry, SameEntry. Conditions: texts and lists of at most 2^30 bytes, the library's table of powers of ten. -/
import Derived.Test.YtkempjcphpnocaaGreatDoorZ11
import Derived.Maps.RangeWalk
import Derived.Sort.KeysCollected
namespace Go.Proofs.YtkempjcphpnocaaGreatDoor
open Go Go.RowKit Go.Maps
set_option maxRecDepth 100000 in
set_option maxHeartbeats 1000000 in
theorem cloneD_any (A:Option Addr) (n c:Nat) (bs:List UInt8) (w:World) (hn:n≤1099511627776) (hl:bs.length=n) (hA:A=none→n=0∧c=0) (hx:Rd w A n 1 (bcells bs)) :
  Calls Tryz.prog 28 #[.slice A n c] w (RetRow w 5 1 bs.length (bcells bs)):=by
 subst hl
 cases A with
 | none =>
  obtain⟨h1,rfl⟩:=hA rfl
  have h2:bs=[]:=List.length_eq_zero_iff.1 h1
  subst h2
  have he:=fun w=>Lib.run_eql_slice_nil (P:=Tryz.prog) w 26 _ none 0 0 (h:=Tryz.underlying26)
  clear hx h1
  go_enter Tryz.func28,Tryz.ntmps28
  go_wp2
  go_ret
  exact⟨none,0,rfl,Row.none_ _ _ _ _,Below.refl _ _⟩
 | some a =>
  have HX:=Lib.hid (hx.alloc (.cells #[] 5))
  have he:=fun w=>Lib.run_eql_slice_nil (P:=Tryz.prog) w 26 _ (some a) bs.length c (h:=Tryz.underlying26)
  clear hx
  go_enter Tryz.func28,Tryz.ntmps28
  go_wp2_with (at_builtin;refine appB _ rfl (.tmp 5) (.tmp 6) rfl w.heap.size _ 0 0 [] rfl (Row.empty _ _ _ _ _) (some a) bs.length c bs rfl HX.out (by omega) (by rw[World.size_alloc];omega) ?_;intro A1 c1 w1 hr1 ha1)
  have hb:=((Below.refl w.heap.size w).alloc (Nat.le_refl _) (.cells #[] 5)).trans (ha1.below (Row.empty _ w.heap.size 5 1 _) (by rw[World.size_alloc];omega))
  have e:0+bs.length=bs.length:=Nat.zero_add _
  rw[e]at hr1
  go_ret
  exact⟨A1,c1,rfl,hr1,hb⟩
theorem nilD {u:World} {base size n c:Nat} {e:TypeId} {A:Option Addr} {xs:List Value} (h:Row u base e size A n c xs) (hA:A=none):n=0∧c=0:=by
 rcases h with h | ⟨h1,h2,_⟩
 ·subst hA
  rcases h.2 with ⟨hv,h0⟩ | ⟨g,cap,cur,hv,_⟩
  ·injection hv with _ h1 h2
   exact⟨h1,h2⟩
  ·cases hv
 ·exact⟨h1,h2⟩
def RetRead (w:World) (x:List UInt8 × Int) (e:Ending) (w':World):Prop :=
 ∃ A c,e=.returned (.tuple #[.slice A x.1.length c,.int .i64 x.2])∧Row w' w.heap.size 5 1 A x.1.length c (bcells x.1)∧Below w.heap.size w w'
set_option maxHeartbeats 2000000 in
theorem read_any (B:Nat) (M:DM) (s:D.Dsk) (nm:ByteArray) (w:World) (h:DkAt B M s w) (hs:s.Sml) (ok:s.Ok) (hn:nm.size≤1099511627776) :
  Calls Tryz.prog 57 #[.pointer (some ⟨M.d,0,none⟩),.string nm] w (RetRead w (s.read nm)):=by
 have HD:=Lib.hid h
 have HDW:=Lib.hid (down_any B M s w h)
 have HGN:=Lib.hid (fun u=>goodName_any nm u hn)
 obtain⟨y0,y1,y2,y3,y4,y5,y6,y7⟩:=h.cells
 have hlk:=names_look h.now nm (by simp only[maxLen];omega)
 obtain⟨G,hG⟩:∃ G,s.read nm=G:=⟨_,rfl⟩
 have HG:Hid (G=if s.down then (([]:List UInt8),(93:Int)) else if D.good nm=false then ([],95) else match D.find s.now nm with | none=>([],90) | some no=>(s.data.getD no [],0)):=Lib.hid (by rw[← hG];rfl)
 rw[hG]
 clear hG h y1 y2 y3 y4 y5 y6 y7
 cases hd:s.down
 rotate_left
 ·rw[hd]at HDW HG
  rw[if_pos rfl]at HG
  cases hf:D.find s.now nm<;>rw[hf]at hlk<;>dsimp only[D.ptrOf]at hlk
  all_goals
   go_enter Tryz.func57,Tryz.ntmps57
   go_wp2_with fail
   refine HDW.out.mono ?_
   rintro e w1 ⟨rfl,hb1⟩
   go_wp2
   go_ret2
   rw[HG.out]
   exact⟨none,0,rfl,Row.none_ _ _ _ _,hb1⟩
 rw[hd]at HDW HG
 rw[if_neg (by decide)]at HG
 cases hg:D.good nm
 ·rw[hg]at HGN HG
  rw[if_pos rfl]at HG
  cases hf:D.find s.now nm<;>rw[hf]at hlk<;>dsimp only[D.ptrOf]at hlk
  all_goals
   go_enter Tryz.func57,Tryz.ntmps57
   go_wp2_with fail
   refine HDW.out.mono ?_
   rintro e w1 ⟨rfl,hb1⟩
   have HG2:=Lib.hid (HGN.out w1)
   go_wp2_with fail
   refine HG2.out.mono ?_
   rintro e w2 ⟨rfl,hb2⟩
   go_wp2
   go_ret2
   rw[HG.out]
   exact⟨none,0,rfl,Row.none_ _ _ _ _,below_then hb1.size hb1 hb2⟩
 rw[hg]at HGN HG
 rw[if_neg (by decide)]at HG
 cases hf:D.find s.now nm with
 | none =>
  rw[hf]at hlk HG
  dsimp only[D.ptrOf]at hlk HG
  go_enter Tryz.func57,Tryz.ntmps57
  go_wp2_with fail
  refine HDW.out.mono ?_
  rintro e w1 ⟨rfl,hb1⟩
  have HG2:=Lib.hid (HGN.out w1)
  go_wp2_with fail
  refine HG2.out.mono ?_
  rintro e w2 ⟨rfl,hb2⟩
  go_wp2
  go_ret2
  rw[HG.out]
  exact⟨none,0,rfl,Row.none_ _ _ _ _,below_then hb1.size hb1 hb2⟩
 | some no =>
  have hno:=D.find_lt ok hf
  rw[hf]at hlk HG
  dsimp only[D.ptrOf]at hlk HG
  have HF:=Lib.hid (HD.out.files no hno)
  have hsz:=hs.size no
  clear hf hno
  go_enter Tryz.func57,Tryz.ntmps57
  go_wp2_with fail
  refine HDW.out.mono ?_
  rintro e w1 ⟨rfl,hb1⟩
  have HG2:=Lib.hid (HGN.out w1)
  have HB1:=Lib.hid hb1
  clear hb1
  go_wp2_with fail
  refine HG2.out.mono ?_
  rintro e w2 ⟨rfl,hb2⟩
  have HB2:=Lib.hid (below_then HB1.out.size HB1.out hb2)
  clear hb2 HG2 HB1
  have z1:w2.cell? ⟨M.fa no,1,none⟩=some (.slice (M.da no) (s.size no) (M.dc no)):=(HF.out.blk.below HB2.out).cell 1 rfl
  have hrow:=HF.out.row.below HB2.out
  have HC:=Lib.hid (cloneD_any (M.da no) (s.size no) (M.dc no) (s.data.getD no []) w2 hsz rfl (nilD hrow) hrow.rd)
  clear hrow
  go_wp2_with fail
  refine HC.out.mono ?_
  rintro e w3 ⟨A3,c3,rfl,hr3,hb3⟩
  go_wp2
  go_ret2
  rw[HG.out]
  exact⟨A3,c3,rfl,hr3.mono HB2.out.size,below_then HB2.out.size HB2.out hb3⟩
end Go.Proofs.YtkempjcphpnocaaGreatDoor
namespace Go.Proofs.YtkempjcphpnocaaGreatDoor
open Go Go.RowKit Go.Maps
namespace D
def rem (f:Nat→Nat) (l:NM) (left:Lit→Bool):Nat:=((l.filter fun p=>left (key p.1)).map fun p=>f p.2).sum
theorem rem_none {f:Nat→Nat} {l:NM} {left:Lit→Bool} (h:∀ kl,left kl=false):rem f l left=0:=by
 unfold rem
 rw[List.filter_eq_nil_iff.2 (fun p _=>by rw[h];decide)]
 rfl
theorem rem_all (fa f:Nat→Nat) (l:NM):rem f l (Maps.has (datum fa l))=(l.map fun p=>f p.2).sum:=by
 unfold rem
 rw[List.filter_eq_self.2 (fun p hp=>?_)]
 unfold datum
 rw[Maps.has_eq,List.any_eq_true]
 exact⟨ent fa p,List.mem_map_of_mem hp,by show (key p.1).sameKey (key p.1)=true;rw[same_key];simp⟩
theorem rem_step (f:Nat→Nat) (nm:ByteArray) (no:Nat) (left:Lit→Bool) (hl:left (key nm)=true):∀ {l:NM},Up l→find l nm=some no→rem f l left=f no+rem f l (fun z=>left z&&!z.sameKey (key nm))
 | [],_,h=>by cases h
 | p::r,hu,h=>by
  obtain⟨h1,h2⟩:=List.pairwise_cons.1 hu
  show ((List.filter (fun p=>left (key p.1)) (p::r)).map _).sum=f no+((List.filter (fun q=>left (key q.1)&&!(key q.1).sameKey (key nm)) (p::r)).map _).sum
  by_cases e:p.1=nm
  ·have hp:p.2=no:=by
    unfold find at h
    rw[List.find?_cons]at h
    simp only[e,decide_true]at h
    simpa using h
   have hr:∀ q∈r,(left (key q.1)&&!(key q.1).sameKey (key nm))=left (key q.1):=fun q hq=>by
    have hne:q.1≠nm:=fun e2=>by
     have:=h1 q hq
     rw[e,e2,lt_irrefl]at this
     cases this
    rw[same_key,decide_eq_false hne]
    simp
   have hL:left (key p.1)=true:=by rw[e];exact hl
   have hk:(left (key p.1)&&!(key p.1).sameKey (key nm))=false:=by rw[e,same_key];simp
   rw[List.filter_cons_of_pos (p:=fun p:ByteArray × Nat=>left (key p.1)) hL,List.filter_cons_of_neg (p:=fun q:ByteArray × Nat=>left (key q.1)&&!(key q.1).sameKey (key nm)) (by rw[hk];decide),List.filter_congr hr,List.map_cons,List.sum_cons,hp]
  ·have hf:find r nm=some no:=by
    unfold find at h ⊢
    rw[List.find?_cons]at h
    simpa only[decide_eq_false e] using h
   have ih:((List.filter (fun p=>left (key p.1)) r).map fun p=>f p.2).sum=f no+((List.filter (fun q=>left (key q.1)&&!(key q.1).sameKey (key nm)) r).map fun p=>f p.2).sum:=rem_step f nm no left hl h2 hf
   have hk:(left (key p.1)&&!(key p.1).sameKey (key nm))=left (key p.1):=by rw[same_key,decide_eq_false e];simp
   by_cases hL:left (key p.1)=true
   ·rw[List.filter_cons_of_pos (p:=fun p:ByteArray × Nat=>left (key p.1)) hL,List.filter_cons_of_pos (p:=fun q:ByteArray × Nat=>left (key q.1)&&!(key q.1).sameKey (key nm)) (by rw[hk];exact hL),List.map_cons,List.map_cons,List.sum_cons,List.sum_cons,ih]
    omega
   ·rw[List.filter_cons_of_neg (p:=fun p:ByteArray × Nat=>left (key p.1)) hL,List.filter_cons_of_neg (p:=fun q:ByteArray × Nat=>left (key q.1)&&!(key q.1).sameKey (key nm)) (by rw[hk];exact hL)]
    exact ih
theorem sum_le (f:Nat→Nat) (l:NM) (left:Lit→Bool):rem f l left≤(l.map fun p=>f p.2).sum:=by
 unfold rem
 induction l with
 | nil=>simp
 | cons p r ih =>
  rw[List.filter_cons]
  split<;>simp only[List.map_cons,List.sum_cons]<;>omega
end D
theorem names_at {fa:Nat→Nat} {l:D.NM} {x:ByteArray} {c:Option Nat} {kl:Lit} {y:DataW Unit × List MemPlace} (hk:keyOf Tryz.prog 9 (.string x)=some kl) (hv:D.ptrR (.pointer (c.map fun b=>⟨b,0,none⟩))=some y) (hat:∀ zd,(D.datum fa l).atKey kl zd=y.1) :
  kl=D.key x∧∃ no,D.find l x=some no∧c=some (fa no):=by
 have hx:x.size≤maxLen:=by
  have h:=hk
  simp [keyOf,mapKey]at h
  exact h.1
 rw[nmKey x hx]at hk
 obtain rfl:=Option.some.inj hk
 refine⟨rfl,?_⟩
 cases hf:D.find l x with
 | none =>
  have h1:=hat .nil
  have h2:=hat (.lit (.bool true))
  rw[D.datum_at,hf]at h1 h2
  rw[← h1]at h2
  cases h2
 | some no =>
  refine⟨no,rfl,?_⟩
  have h1:=hat .nil
  rw[D.datum_at,hf]at h1
  dsimp only at h1
  obtain⟨d,ps⟩:=y
  dsimp only at h1
  subst h1
  have h2:=D.ptrR_inv hv
  cases c with
  | none=>cases h2
  | some b=>simpa using h2
set_option maxHeartbeats 2000000 in
theorem used_any (B:Nat) (M:DM) (s:D.Dsk) (w:World) (h:DkAt B M s w) (hs:∀ no,s.size no≤1099511627776) (ok:s.Ok) (hu:s.used≤1152921504606846976) :
  Calls Tryz.prog 16 #[.pointer (some ⟨M.d,0,none⟩)] w (fun e w'=>e=.returned (.int .i64 s.used)∧Below w.heap.size w w'):=by
 have HD:=Lib.hid h
 have HSZ:=Lib.hid hs
 have HOK:=Lib.hid ok
 have hlt:=h.now.lt
 obtain⟨y0,y1,y2,y3,y4,y5,y6,y7⟩:=h.cells
 clear h y1 y2 y3 y4 y5 y6 y7 hs ok
 go_enter Tryz.func16,Tryz.ntmps16
 go_wp2_with (first
  | (at_range;refine wpList_range_own _ rfl _ 67 rfl 9 75 (string_keyed strT_ul) nmT_ul D.ptrR M.mN s.now.length (D.datum M.fa s.now) rfl HD.out.now ?_;intro w0 hrg0 hg0 hs0)
  | go_in)
 go_frame
 have HB0:=Lib.hid (grown_below hg0)
 clear hg0
 go_loopw [3] (fun i wr=>∃ (left:Lit→Bool) (cnt:Nat),i=.int .i64 ((s.used:Int) - D.rem s.size s.now left)∧wr.ranges Tryz.prog 9 D.ptrR M.mN w.heap.size s.now.length (D.datum M.fa s.now) left cnt∧Below w.heap.size w wr)
  (fun _ wr=>wr.rangeLeft M.mN w.heap.size)
 case atStart =>
  refine⟨_,_,?_,hrg0,HB0.out⟩
  rw[D.rem_all]
  show _=Value.int IntKind.i64 ((s.used:Int) - s.used)
  rw[Int.sub_self]
 case round =>
  obtain⟨left,cnt,rfl,hrg,hbe⟩:=hrel
  have HBE:=Lib.hid hbe
  have HRG:=Lib.hid hrg
  clear hbe hrg hrg0
  go_wp2_with (first
   | (at_next;refine wpList_next_ranges _ rfl _ rfl 9 (string_keyed strT_ul) D.ptrR Value.string (fun c:Option Nat=>Value.pointer (c.map fun b=>⟨b,0,none⟩)) ?_ ?_ M.mN w.heap.size s.now.length _ left cnt rfl HRG.out ?_ ?_)
   | go_in)
  ·intro key kl hkey
   obtain⟨x,rfl,_⟩:=Maps.keyOf_str strT_ul hkey
   exact⟨_,rfl⟩
  ·intro v y hv
   unfold D.ptrR at hv
   split at hv
   ·exact⟨some _,rfl⟩
   ·exact⟨none,rfl⟩
   ·cases hv
  ·intro _ hl0
   have hr0:D.rem s.size s.now left=0:=D.rem_none hl0
   rw[hr0]
   clear hr0 hl0
   go_wp2
   go_ret
   exact⟨by simp,HBE.out⟩
  ·intro x c kl yd yp w1 cnt1 hkey hlx hv hat hrg1 hlt1 hg1 hs1 hen
   obtain⟨hkl,no,hf,hc⟩:=names_at (fa:=M.fa) (l:=s.now) (y:=(yd,yp)) hkey hv hat
   subst hkl
   subst hc
   have hrem:=D.rem_step s.size x no left hlx HOK.out.upN hf
   have hrle:=D.sum_le s.size s.now left
   have hno:=D.find_lt HOK.out hf
   have hBE1:Below w.heap.size w w1:=HBE.out.grown hg1 (HBE.out.size) (fun j hj=>by cases hj;exact Nat.le_refl _)
   have HBE1:=Lib.hid hBE1
   have z1:w1.cell? ⟨M.fa no,1,none⟩=some (.slice (M.da no) (s.size no) (M.dc no)):=((HD.out.files no hno).blk.under hBE1 (HD.out.files no hno).blk.lt).cell 1 rfl
   have hs2:=HSZ.out no
   have HRG1:=Lib.hid hrg1
   have hu2:(s.now.map fun p=>s.size p.2).sum=s.used:=rfl
   rw[hu2]at hrle
   have HLE:Hid (w1.rangeLeft M.mN w.heap.size < wr.rangeLeft M.mN w.heap.size):=Lib.hid (by rw[hrg1.left_eq,HRG.out.left_eq];exact hlt1)
   have HREM:=Lib.hid hrem
   clear hkey hlx hv hat hrg1 hlt1 hf hno hBE1 hu2
   obtain⟨z,hz⟩:∃ z:Int,(s.used:Int) - (D.rem s.size s.now left:Nat)=z:=⟨_,rfl⟩
   have hz0:0≤z:=by omega
   have hz1:z≤1152921504606846976:=by omega
   rw[hz]
   have HZ:=Lib.hid hz
   clear hz hrem hrle
   dsimp only[Option.map]at hen ⊢
   go_wp2
   go_roundw
   case rel=>exact⟨_,cnt1,by rw[← HZ.out,HREM.out];congr 1;push_cast;omega,HRG1.out,HBE1.out⟩
   case measure=>exact HLE.out
end Go.Proofs.YtkempjcphpnocaaGreatDoor
namespace Go.Proofs.YtkempjcphpnocaaGreatDoor
open Go.RowKit
theorem Rd.farB {w:World} {A:Option Addr} {n size b:Nat} {xs:List Value} (h:Rd w A n size xs) (ha:0 < n→∀ a,A=some a→a.block≠b) (i:Nat) (x:Value):Rd (w.setCell ⟨b,i,none⟩ x) A n size xs :=
 ⟨h.1,fun hn=>by
  obtain⟨b',o,e,hlt,hc⟩:=h.2 hn
  have hne:b'≠b:=ha hn _ e
  exact⟨b',o,e,by simpa [World.setCell] using hlt,fun j u hu=>(World.cell?_setCell_far _ _ _ _ (fun e=>hne e.symm)).trans (hc j u hu)⟩⟩
theorem CRow.apartB {w:World} {base:Nat} {A:Option Addr} {n c:Nat} {bs:List UInt8} (h:CRow w base A n c bs) {b:Nat} (hb:b < base):0 < n→∀ a,A=some a→a.block≠b:=fun hn a ha=>by
 rcases h.2.2 with h0 | ⟨g,hg,hB,_⟩
 ·have:=h.2.1;omega
 ·rw[hg]at ha
  cases ha
  show g≠b
  omega
theorem Row.apartB {w:World} {base:Nat} {e:TypeId} {size:Nat} {A:Option Addr} {n c:Nat} {xs:List Value} (h:Row w base e size A n c xs) {b:Nat} (hb:b < base):0 < n→∀ a,A=some a→a.block≠b:=fun hn a ha=>by
 have hc:=h.cap.1
 have:=h.lt a.block (by unfold ownB;rw[if_neg (by omega),ha];rfl)
 omega
def RetEnt (k v:ByteArray) (s:Int) (r:ByteArray) (m:Int) (fs:List FD) (body:List UInt8) (asked got:Int) (w:World) (e:Ending) (w':World):Prop :=
 ∃ A c X d,e=.returned (.agg #[.string k,.string v,.int .i64 s,.string r,.int .i64 m,.slice A fs.length c,.slice X body.length d,.int .i64 asked,.int .i64 got])∧Rd w' A fs.length 2 (fcells fs)∧Rd w' X body.length 1 (bcells body)∧Below w.heap.size w w'
set_option maxRecDepth 100000 in
set_option maxHeartbeats 2000000 in
theorem copyEntry_any (k v:ByteArray) (s:Int) (r:ByteArray) (m:Int) (A:Option Addr) (cf:Nat) (fs:List FD) (X:Option Addr) (cb:Nat) (body:List UInt8) (asked got:Int) (w:World) (hn:fs.length≤1099511627776) (hbn:body.length≤1099511627776) (hx:Rd w A fs.length 2 (fcells fs)) (hX:Rd w X body.length 1 (bcells body)) :
  Calls Tryz.prog 11 #[.agg #[.string k,.string v,.int .i64 s,.string r,.int .i64 m,.slice A fs.length cf,.slice X body.length cb,.int .i64 asked,.int .i64 got]] w (RetEnt k v s r m fs body asked got w):=by
 have HCR:=Lib.hid (fun (u:World) (hu:Below w.heap.size w u)=>copyResponse_any s m r A fs.length cf fs u rfl hn (hx.below hu))
 have HCB:=Lib.hid (fun (u:World) (hu:Below w.heap.size w u)=>copyBytes_any X cb body u hbn (hX.below hu))
 have HK:=Lib.hid ((Blk.new w #[.string k,.string v,.int .i64 s,.string r,.int .i64 m,.slice A fs.length cf,.slice X body.length cb,.int .i64 asked,.int .i64 got] 28).alloc (.cells #[.string ⟨#[]⟩,.string ⟨#[]⟩,.int .i64 0,.string ⟨#[]⟩,.int .i64 0,.slice none 0 0,.slice none 0 0,.int .i64 0,.int .i64 0] 28))
 have HL:=Lib.hid (Blk.new (w.alloc (.cells #[.string k,.string v,.int .i64 s,.string r,.int .i64 m,.slice A fs.length cf,.slice X body.length cb,.int .i64 asked,.int .i64 got] 28)) #[.string ⟨#[]⟩,.string ⟨#[]⟩,.int .i64 0,.string ⟨#[]⟩,.int .i64 0,.slice none 0 0,.slice none 0 0,.int .i64 0,.int .i64 0] 28)
 have HB:=Lib.hid (((Below.refl w.heap.size w).alloc (Nat.le_refl _) (.cells #[.string k,.string v,.int .i64 s,.string r,.int .i64 m,.slice A fs.length cf,.slice X body.length cb,.int .i64 asked,.int .i64 got] 28)).alloc (by rw[World.size_alloc];omega) (.cells #[.string ⟨#[]⟩,.string ⟨#[]⟩,.int .i64 0,.string ⟨#[]⟩,.int .i64 0,.slice none 0 0,.slice none 0 0,.int .i64 0,.int .i64 0] 28))
 have hz0:w.heap.size+2=((w.alloc (.cells #[.string k,.string v,.int .i64 s,.string r,.int .i64 m,.slice A fs.length cf,.slice X body.length cb,.int .i64 asked,.int .i64 got] 28)).alloc (.cells #[.string ⟨#[]⟩,.string ⟨#[]⟩,.int .i64 0,.string ⟨#[]⟩,.int .i64 0,.slice none 0 0,.slice none 0 0,.int .i64 0,.int .i64 0] 28)).heap.size:=by rw[World.size_alloc,World.size_alloc]
 rw[World.size_alloc]at HL
 clear hx hX
 go_enter Tryz.func11,Tryz.ntmps11
 obtain⟨x0,x1,x2,x3,x4,x5,x6,x7,x8⟩:=HK.out.cells9
 go_wp2_with fail
 clear x0 x1 x2 x3 x4 x5 x6 x7 x8
 refine (HCR.out _ HB.out).mono ?_
 rintro e w1 ⟨A1,c1,rfl,hr1,hb1⟩
 rw[← hz0]at hr1
 have HR1:=Lib.hid hr1
 have HK1:=Lib.hid (HK.out.below hb1)
 have HL1:=Lib.hid (HL.out.below hb1)
 have HB1:=Lib.hid (below_then HB.out.size HB.out hb1)
 clear HK HL HB HCR hb1 hr1 hz0
 obtain⟨x0,x1,x2,x3,x4,x5,x6,x7,x8⟩:=HK1.out.cells9
 obtain⟨f2,f3,f4,f5⟩:_∧_∧_∧_:=⟨HK1.out.free 2,HK1.out.free 3,HK1.out.free 4,HK1.out.free 5⟩
 have HK2:Hid (Blk ((((w1.setCell ⟨w.heap.size,2,none⟩ (.int .i64 s)).setCell ⟨w.heap.size,3,none⟩ (.string r)).setCell ⟨w.heap.size,4,none⟩ (.int .i64 m)).setCell ⟨w.heap.size,5,none⟩ (.slice A1 fs.length c1)) w.heap.size #[.string k,.string v,.int .i64 s,.string r,.int .i64 m,.slice A1 fs.length c1,.slice X body.length cb,.int .i64 asked,.int .i64 got] 28):=Lib.hid ((((HK1.out.set 2 (.int .i64 s)).set 3 (.string r)).set 4 (.int .i64 m)).set 5 (.slice A1 fs.length c1))
 have y6:=HK2.out.cell 6 (v:=.slice X body.length cb) rfl
 have hne:w.heap.size≠w.heap.size+1:=by omega
 have HL2:Hid (Blk ((((w1.setCell ⟨w.heap.size,2,none⟩ (.int .i64 s)).setCell ⟨w.heap.size,3,none⟩ (.string r)).setCell ⟨w.heap.size,4,none⟩ (.int .i64 m)).setCell ⟨w.heap.size,5,none⟩ (.slice A1 fs.length c1)) (w.heap.size+1) #[.string ⟨#[]⟩,.string ⟨#[]⟩,.int .i64 0,.string ⟨#[]⟩,.int .i64 0,.slice none 0 0,.slice none 0 0,.int .i64 0,.int .i64 0] 28):=Lib.hid ((((HL1.out.far 2 (.int .i64 s) hne).far 3 (.string r) hne).far 4 (.int .i64 m) hne).far 5 (.slice A1 fs.length c1) hne)
 have HB2:Hid (Below w.heap.size w ((((w1.setCell ⟨w.heap.size,2,none⟩ (.int .i64 s)).setCell ⟨w.heap.size,3,none⟩ (.string r)).setCell ⟨w.heap.size,4,none⟩ (.int .i64 m)).setCell ⟨w.heap.size,5,none⟩ (.slice A1 fs.length c1))):=Lib.hid (below_set (below_set (below_set (below_set HB1.out (Nat.le_refl _) 2 _) (Nat.le_refl _) 3 _) (Nat.le_refl _) 4 _) (Nat.le_refl _) 5 _)
 have hl2:w.heap.size < w.heap.size+2:=by omega
 have HR2:Hid (Row ((((w1.setCell ⟨w.heap.size,2,none⟩ (.int .i64 s)).setCell ⟨w.heap.size,3,none⟩ (.string r)).setCell ⟨w.heap.size,4,none⟩ (.int .i64 m)).setCell ⟨w.heap.size,5,none⟩ (.slice A1 fs.length c1)) (w.heap.size+2) 167 2 A1 fs.length c1 (fcells fs)):=Lib.hid ((((HR1.out.far (i:=2) hl2 (.int .i64 s)).far (i:=3) hl2 (.string r)).far (i:=4) hl2 (.int .i64 m)).far (i:=5) hl2 (.slice A1 fs.length c1))
 go_wp2_with fail
 clear x0 x1 x2 x3 x4 x5 x6 x7 x8 f2 f3 f4 f5 y6 HK1 HL1 HB1 HR1
 generalize ((((w1.setCell ⟨w.heap.size,2,none⟩ (.int .i64 s)).setCell ⟨w.heap.size,3,none⟩ (.string r)).setCell ⟨w.heap.size,4,none⟩ (.int .i64 m)).setCell ⟨w.heap.size,5,none⟩ (.slice A1 fs.length c1))=w2 at *
 refine (HCB.out _ HB2.out).mono ?_
 rintro e w3 ⟨X1,d1,rfl,hr3,hb3⟩
 have hz2:w.heap.size+1 < w2.heap.size:=HL2.out.lt
 have HXA:=Lib.hid (hr3.apartB (b:=w.heap.size+1) hz2)
 have HXB:=Lib.hid (hr3.apartB (b:=w.heap.size) (by omega))
 have HAA:=Lib.hid (HR2.out.apartB (b:=w.heap.size+1) (by omega))
 have HAB:=Lib.hid (HR2.out.apartB (b:=w.heap.size) hl2)
 have HR3:=Lib.hid (HR2.out.rd.below hb3)
 have HX3:=Lib.hid hr3.rd
 have HK3:=Lib.hid (HK2.out.below hb3)
 have HL3:=Lib.hid (HL2.out.below hb3)
 have HB3:=Lib.hid (below_then HB2.out.size HB2.out hb3)
 clear HCB hr3 hb3 HK2 HL2 HB2 HR2 hz2
 have k6:=HK3.out.cell 6 (v:=.slice X body.length cb) rfl
 have f6:=HK3.out.free 6
 have HK4:Hid (Blk (w3.setCell ⟨w.heap.size,6,none⟩ (.slice X1 body.length d1)) w.heap.size #[.string k,.string v,.int .i64 s,.string r,.int .i64 m,.slice A1 fs.length c1,.slice X1 body.length d1,.int .i64 asked,.int .i64 got] 28):=Lib.hid (HK3.out.set 6 (.slice X1 body.length d1))
 have HL4:Hid (Blk (w3.setCell ⟨w.heap.size,6,none⟩ (.slice X1 body.length d1)) (w.heap.size+1) #[.string ⟨#[]⟩,.string ⟨#[]⟩,.int .i64 0,.string ⟨#[]⟩,.int .i64 0,.slice none 0 0,.slice none 0 0,.int .i64 0,.int .i64 0] 28):=Lib.hid (HL3.out.far 6 (.slice X1 body.length d1) hne)
 have HB4:Hid (Below w.heap.size w (w3.setCell ⟨w.heap.size,6,none⟩ (.slice X1 body.length d1))):=Lib.hid (below_set HB3.out (Nat.le_refl _) 6 _)
 have HR4:Hid (Rd (w3.setCell ⟨w.heap.size,6,none⟩ (.slice X1 body.length d1)) A1 fs.length 2 (fcells fs)):=Lib.hid (HR3.out.farB HAB.out 6 _)
 have HX4:Hid (Rd (w3.setCell ⟨w.heap.size,6,none⟩ (.slice X1 body.length d1)) X1 body.length 1 (bcells body)):=Lib.hid (HX3.out.farB HXB.out 6 _)
 obtain⟨x0,x1,x2,x3,x4,x5,x6,x7,x8⟩:=HK4.out.cells9
 obtain⟨y0,y1,y2,y3,y4,y5,y6,y7,y8⟩:=HL4.out.cells9
 obtain⟨g0,g1,g2,g3,g4,g5,g6,g7,g8⟩:_∧_∧_∧_∧_∧_∧_∧_∧_:=⟨HL4.out.free 0,HL4.out.free 1,HL4.out.free 2,HL4.out.free 3,HL4.out.free 4,HL4.out.free 5,HL4.out.free 6,HL4.out.free 7,HL4.out.free 8⟩
 go_wp2
 clear x0 x1 x2 x3 x4 x5 x6 x7 x8 y0 y1 y2 y3 y4 y5 y6 y7 y8 g0 g1 g2 g3 g4 g5 g6 g7 g8 k6 f6 HK3 HL3 HB3 HR3 HX3
 generalize (w3.setCell ⟨w.heap.size,6,none⟩ (.slice X1 body.length d1))=w4 at *
 have hle:w.heap.size≤w.heap.size+1:=Nat.le_succ _
 obtain⟨b1,hb1⟩:∃ b1,b1=w.heap.size+1:=⟨_,rfl⟩
 rw[← hb1]at HL4 HXA HAA hle ⊢
 clear hb1
 have K0:Hid (Blk (w4.setCell ⟨b1,0,none⟩ (.string k)) b1 #[.string k,.string ⟨#[]⟩,.int .i64 0,.string ⟨#[]⟩,.int .i64 0,.slice none 0 0,.slice none 0 0,.int .i64 0,.int .i64 0] 28):=Lib.hid (HL4.out.set 0 (.string k))
 have R0:Hid (Rd (w4.setCell ⟨b1,0,none⟩ (.string k)) A1 fs.length 2 (fcells fs)):=Lib.hid (HR4.out.farB HAA.out 0 (.string k))
 have XX0:Hid (Rd (w4.setCell ⟨b1,0,none⟩ (.string k)) X1 body.length 1 (bcells body)):=Lib.hid (HX4.out.farB HXA.out 0 (.string k))
 have B0:Hid (Below w.heap.size w (w4.setCell ⟨b1,0,none⟩ (.string k))):=Lib.hid (below_set HB4.out hle 0 (.string k))
 clear HL4 HR4 HX4 HB4
 generalize (w4.setCell ⟨b1,0,none⟩ (.string k))=v0 at *
 have K1:Hid (Blk (v0.setCell ⟨b1,1,none⟩ (.string v)) b1 #[.string k,.string v,.int .i64 0,.string ⟨#[]⟩,.int .i64 0,.slice none 0 0,.slice none 0 0,.int .i64 0,.int .i64 0] 28):=Lib.hid (K0.out.set 1 (.string v))
 have R1:Hid (Rd (v0.setCell ⟨b1,1,none⟩ (.string v)) A1 fs.length 2 (fcells fs)):=Lib.hid (R0.out.farB HAA.out 1 (.string v))
 have XX1:Hid (Rd (v0.setCell ⟨b1,1,none⟩ (.string v)) X1 body.length 1 (bcells body)):=Lib.hid (XX0.out.farB HXA.out 1 (.string v))
 have B1:Hid (Below w.heap.size w (v0.setCell ⟨b1,1,none⟩ (.string v))):=Lib.hid (below_set B0.out hle 1 (.string v))
 clear K0 R0 XX0 B0
 generalize (v0.setCell ⟨b1,1,none⟩ (.string v))=v1 at *
 have K2:Hid (Blk (v1.setCell ⟨b1,2,none⟩ (.int .i64 s)) b1 #[.string k,.string v,.int .i64 s,.string ⟨#[]⟩,.int .i64 0,.slice none 0 0,.slice none 0 0,.int .i64 0,.int .i64 0] 28):=Lib.hid (K1.out.set 2 (.int .i64 s))
 have R2:Hid (Rd (v1.setCell ⟨b1,2,none⟩ (.int .i64 s)) A1 fs.length 2 (fcells fs)):=Lib.hid (R1.out.farB HAA.out 2 (.int .i64 s))
 have XX2:Hid (Rd (v1.setCell ⟨b1,2,none⟩ (.int .i64 s)) X1 body.length 1 (bcells body)):=Lib.hid (XX1.out.farB HXA.out 2 (.int .i64 s))
 have B2:Hid (Below w.heap.size w (v1.setCell ⟨b1,2,none⟩ (.int .i64 s))):=Lib.hid (below_set B1.out hle 2 (.int .i64 s))
 clear K1 R1 XX1 B1
 generalize (v1.setCell ⟨b1,2,none⟩ (.int .i64 s))=v2 at *
 have K3:Hid (Blk (v2.setCell ⟨b1,3,none⟩ (.string r)) b1 #[.string k,.string v,.int .i64 s,.string r,.int .i64 0,.slice none 0 0,.slice none 0 0,.int .i64 0,.int .i64 0] 28):=Lib.hid (K2.out.set 3 (.string r))
 have R3:Hid (Rd (v2.setCell ⟨b1,3,none⟩ (.string r)) A1 fs.length 2 (fcells fs)):=Lib.hid (R2.out.farB HAA.out 3 (.string r))
 have XX3:Hid (Rd (v2.setCell ⟨b1,3,none⟩ (.string r)) X1 body.length 1 (bcells body)):=Lib.hid (XX2.out.farB HXA.out 3 (.string r))
 have B3:Hid (Below w.heap.size w (v2.setCell ⟨b1,3,none⟩ (.string r))):=Lib.hid (below_set B2.out hle 3 (.string r))
 clear K2 R2 XX2 B2
 generalize (v2.setCell ⟨b1,3,none⟩ (.string r))=v3 at *
 have K4:Hid (Blk (v3.setCell ⟨b1,4,none⟩ (.int .i64 m)) b1 #[.string k,.string v,.int .i64 s,.string r,.int .i64 m,.slice none 0 0,.slice none 0 0,.int .i64 0,.int .i64 0] 28):=Lib.hid (K3.out.set 4 (.int .i64 m))
 have R4:Hid (Rd (v3.setCell ⟨b1,4,none⟩ (.int .i64 m)) A1 fs.length 2 (fcells fs)):=Lib.hid (R3.out.farB HAA.out 4 (.int .i64 m))
 have XX4:Hid (Rd (v3.setCell ⟨b1,4,none⟩ (.int .i64 m)) X1 body.length 1 (bcells body)):=Lib.hid (XX3.out.farB HXA.out 4 (.int .i64 m))
 have B4:Hid (Below w.heap.size w (v3.setCell ⟨b1,4,none⟩ (.int .i64 m))):=Lib.hid (below_set B3.out hle 4 (.int .i64 m))
 clear K3 R3 XX3 B3
 generalize (v3.setCell ⟨b1,4,none⟩ (.int .i64 m))=v4 at *
 have K5:Hid (Blk (v4.setCell ⟨b1,5,none⟩ (.slice A1 fs.length c1)) b1 #[.string k,.string v,.int .i64 s,.string r,.int .i64 m,.slice A1 fs.length c1,.slice none 0 0,.int .i64 0,.int .i64 0] 28):=Lib.hid (K4.out.set 5 (.slice A1 fs.length c1))
 have R5:Hid (Rd (v4.setCell ⟨b1,5,none⟩ (.slice A1 fs.length c1)) A1 fs.length 2 (fcells fs)):=Lib.hid (R4.out.farB HAA.out 5 (.slice A1 fs.length c1))
 have XX5:Hid (Rd (v4.setCell ⟨b1,5,none⟩ (.slice A1 fs.length c1)) X1 body.length 1 (bcells body)):=Lib.hid (XX4.out.farB HXA.out 5 (.slice A1 fs.length c1))
 have B5:Hid (Below w.heap.size w (v4.setCell ⟨b1,5,none⟩ (.slice A1 fs.length c1))):=Lib.hid (below_set B4.out hle 5 (.slice A1 fs.length c1))
 clear K4 R4 XX4 B4
 generalize (v4.setCell ⟨b1,5,none⟩ (.slice A1 fs.length c1))=v5 at *
 have K6:Hid (Blk (v5.setCell ⟨b1,6,none⟩ (.slice X1 body.length d1)) b1 #[.string k,.string v,.int .i64 s,.string r,.int .i64 m,.slice A1 fs.length c1,.slice X1 body.length d1,.int .i64 0,.int .i64 0] 28):=Lib.hid (K5.out.set 6 (.slice X1 body.length d1))
 have R6:Hid (Rd (v5.setCell ⟨b1,6,none⟩ (.slice X1 body.length d1)) A1 fs.length 2 (fcells fs)):=Lib.hid (R5.out.farB HAA.out 6 (.slice X1 body.length d1))
 have XX6:Hid (Rd (v5.setCell ⟨b1,6,none⟩ (.slice X1 body.length d1)) X1 body.length 1 (bcells body)):=Lib.hid (XX5.out.farB HXA.out 6 (.slice X1 body.length d1))
 have B6:Hid (Below w.heap.size w (v5.setCell ⟨b1,6,none⟩ (.slice X1 body.length d1))):=Lib.hid (below_set B5.out hle 6 (.slice X1 body.length d1))
 clear K5 R5 XX5 B5
 generalize (v5.setCell ⟨b1,6,none⟩ (.slice X1 body.length d1))=v6 at *
 have K7:Hid (Blk (v6.setCell ⟨b1,7,none⟩ (.int .i64 asked)) b1 #[.string k,.string v,.int .i64 s,.string r,.int .i64 m,.slice A1 fs.length c1,.slice X1 body.length d1,.int .i64 asked,.int .i64 0] 28):=Lib.hid (K6.out.set 7 (.int .i64 asked))
 have R7:Hid (Rd (v6.setCell ⟨b1,7,none⟩ (.int .i64 asked)) A1 fs.length 2 (fcells fs)):=Lib.hid (R6.out.farB HAA.out 7 (.int .i64 asked))
 have XX7:Hid (Rd (v6.setCell ⟨b1,7,none⟩ (.int .i64 asked)) X1 body.length 1 (bcells body)):=Lib.hid (XX6.out.farB HXA.out 7 (.int .i64 asked))
 have B7:Hid (Below w.heap.size w (v6.setCell ⟨b1,7,none⟩ (.int .i64 asked))):=Lib.hid (below_set B6.out hle 7 (.int .i64 asked))
 clear K6 R6 XX6 B6
 generalize (v6.setCell ⟨b1,7,none⟩ (.int .i64 asked))=v7 at *
 have K8:Hid (Blk (v7.setCell ⟨b1,8,none⟩ (.int .i64 got)) b1 #[.string k,.string v,.int .i64 s,.string r,.int .i64 m,.slice A1 fs.length c1,.slice X1 body.length d1,.int .i64 asked,.int .i64 got] 28):=Lib.hid (K7.out.set 8 (.int .i64 got))
 have R8:Hid (Rd (v7.setCell ⟨b1,8,none⟩ (.int .i64 got)) A1 fs.length 2 (fcells fs)):=Lib.hid (R7.out.farB HAA.out 8 (.int .i64 got))
 have XX8:Hid (Rd (v7.setCell ⟨b1,8,none⟩ (.int .i64 got)) X1 body.length 1 (bcells body)):=Lib.hid (XX7.out.farB HXA.out 8 (.int .i64 got))
 have B8:Hid (Below w.heap.size w (v7.setCell ⟨b1,8,none⟩ (.int .i64 got))):=Lib.hid (below_set B7.out hle 8 (.int .i64 got))
 clear K7 R7 XX7 B7
 generalize (v7.setCell ⟨b1,8,none⟩ (.int .i64 got))=v8 at *
 obtain⟨z0,z1,z2,z3,z4,z5,z6,z7,z8⟩:=K8.out.cells9
 refine bodyPost_ret (v:=.agg #[.string k,.string v,.int .i64 s,.string r,.int .i64 m,.slice A1 fs.length c1,.slice X1 body.length d1,.int .i64 asked,.int .i64 got]) (by simp [results,Tryz.results11,go_sem,z0,z1,z2,z3,z4,z5,z6,z7,z8]) rfl ?_
 exact⟨A1,c1,X1,d1,rfl,R8.out,XX8.out,B8.out⟩
end Go.Proofs.YtkempjcphpnocaaGreatDoor
