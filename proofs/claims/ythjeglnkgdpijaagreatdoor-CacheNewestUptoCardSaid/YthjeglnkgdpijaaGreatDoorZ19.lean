/- The plain disk's steps keep its form; what they do where nothing fails. No program here. The walks of Reply, of the words of a status, of SameBytes and SameResponse. Conditions: the number is of 64 bits; for Itoa the library's table of powers of ten is as its text lays it. The walks of Reply. Conditions: the number is of 64 bits; for Itoa the library's table of powers of ten is as its text lays it. The walks of SameResponse, CopyResponse, SameRequest, CopyRequest, and of the law's alive. Conditions: lists of at most 2^40 elements; the library's table of powers of ten is as its text lays it. -/
import Derived.Test.YthjeglnkgdpijaaGreatDoorZ12
import Derived.Deep.RegionHeld3
import Derived.Lib.ItoaLen
set_option maxHeartbeats 400000
namespace Go.Proofs.YthjeglnkgdpijaaGreatDoor
namespace D
theorem length_ins (l:NM) (nm:ByteArray) (no:Nat):(ins l nm no).length=l.length+1:=by
 induction l with
 | nil=>rfl
 | cons p r ih =>
  unfold ins
  split
  ·rfl
  ·rw[List.length_cons,ih,List.length_cons]
theorem length_del (l:NM) (nm:ByteArray):(del l nm).length≤l.length:=List.length_filter_le _ _
theorem length_put (l:NM) (nm:ByteArray) (no:Nat):(put l nm no).length≤l.length+1:=by
 unfold put
 rw[length_ins]
 have:=length_del l nm
 omega
theorem length_app (l:NM) (c:Chg):(c.app l).length≤l.length+1:=by
 cases c with
 | put nm no=>exact length_put l nm no
 | del nm=>exact Nat.le_succ_of_le (length_del l nm)
 | ren a b no =>
  have h1:=length_put (del l a) b no
  have h2:=length_del l a
  show (put (del l a) b no).length≤_
  omega
theorem mem_app {l:NM} {c:Chg} {p:ByteArray × Nat} {n:Nat} (hp:p∈c.app l) (hl:∀ p∈l,p.2 < n) (hc:c.within n):p.2 < n:=by
 cases c with
 | put nm no =>
  rcases mem_put.1 hp with rfl | h
  ·exact hc
  ·exact hl p h.1
 | del nm=>exact hl p (mem_del.1 hp).1
 | ren a b no =>
  rcases mem_put.1 hp with rfl | h
  ·exact hc
  ·exact hl p (mem_del.1 h.1).1
theorem Chg.within.mono {c:Chg} {n m:Nat} (h:c.within n) (hm:n≤m):c.within m:=by
 cases c with
 | put nm no=>exact Nat.lt_of_lt_of_le h hm
 | del nm=>trivial
 | ren a b no=>exact Nat.lt_of_lt_of_le h hm
theorem Dsk.Ok.alter {s:Dsk} (h:s.Ok) {c:Chg} (hc:c.within s.data.length):(s.alter c).Ok :=
 ⟨h.lens,up_app h.upN c,h.upS,fun _ hp=>mem_app hp h.inN hc,h.inS,fun d hd=>by
  rcases List.mem_append.1 hd with hd | hd
  ·exact h.inP d hd
  ·rw[List.mem_singleton.1 hd];exact hc,by
  show c.app s.now=(s.pend++[c]).foldl Chg.app s.safe
  rw[List.foldl_append,← h.fold]
  rfl,h.firms⟩
theorem Dsk.Ok.count {s:Dsk} (h:s.Ok) (n:Int):({ s with n:=n }:Dsk).Ok:=⟨h.lens,h.upN,h.upS,h.inN,h.inS,h.inP,h.fold,h.firms⟩
theorem Dsk.Ok.newFile {s:Dsk} (h:s.Ok):({ s with data:=s.data++[[]],firm:=s.firm++[0] }:Dsk).Ok:=by
 have hl:(s.data++[([]:List UInt8)]).length=s.data.length+1:=by simp
 refine⟨by simp [h.lens],h.upN,h.upS,fun p hp=>?_,fun p hp=>?_,fun c hc=>(h.inP c hc).mono ?_,h.fold,fun no hn=>?_⟩
 ·show _ < (s.data++[([]:List UInt8)]).length
  rw[hl];have:=h.inN p hp;omega
 ·show _ < (s.data++[([]:List UInt8)]).length
  rw[hl];have:=h.inS p hp;omega
 ·show _≤(s.data++[([]:List UInt8)]).length
  rw[hl];omega
 ·change no < (s.data++[([]:List UInt8)]).length at hn
  rw[hl]at hn
  unfold Dsk.size
  dsimp only
  by_cases e:no=s.data.length
  ·subst e
   have:(s.firm++[0]).getD s.data.length 0=0:=by simp [List.getD,← h.lens]
   rw[this]
   exact Nat.zero_le _
  ·have hi:no < s.data.length:=by omega
   have h1:(s.data++[([]:List UInt8)]).getD no []=s.data.getD no []:=by simp [List.getD,List.getElem?_append_left hi]
   have h2:(s.firm++[0]).getD no 0=s.firm.getD no 0:=by simp [List.getD,List.getElem?_append_left (show no < s.firm.length by rw[h.lens];exact hi)]
   rw[h1,h2]
   exact h.firms no hi
theorem Dsk.Ok.data {s:Dsk} (h:s.Ok) (no:Nat) (d:List UInt8):({ s with data:=s.data.set no (s.data.getD no []++d) }:Dsk).Ok:=by
 refine⟨by simp [h.lens],h.upN,h.upS,fun p hp=>by have:=h.inN p hp;simpa using this,fun p hp=>by have:=h.inS p hp;simpa using this,fun c hc=>by have:=h.inP c hc;simpa using this,h.fold,fun i hi=>?_⟩
 have hi2:i < s.data.length:=by simpa using hi
 have:=h.firms i hi2
 unfold Dsk.size at this ⊢
 dsimp only
 by_cases e:i=no
 ·subst e
  simp [List.getD,hi2]at this ⊢
  omega
 ·rw[show (s.data.set no (s.data.getD no []++d)).getD i []=s.data.getD i [] by simp [List.getD,List.getElem?_set_ne (fun h=>e h.symm)]]
  exact this
theorem Dsk.Ok.firm {s:Dsk} (h:s.Ok) (no:Nat):({ s with firm:=s.firm.set no (s.size no) }:Dsk).Ok:=by
 refine⟨by simp [h.lens],h.upN,h.upS,h.inN,h.inS,h.inP,h.fold,fun i hi=>?_⟩
 have:=h.firms i hi
 show (s.firm.set no (s.size no)).getD i 0≤s.size i
 by_cases e:i=no
 ·subst e
  by_cases hl:i < s.firm.length
  ·simp [List.getD,hl]
  ·simp [List.getD,hl]
 ·rw[show (s.firm.set no (s.size no)).getD i 0=s.firm.getD i 0 by simp [List.getD,List.getElem?_set_ne (fun h=>e h.symm)]]
  exact this
theorem Dsk.Ok.synced {s:Dsk} (h:s.Ok):({ s with safe:=s.now,pend:=[] }:Dsk).Ok :=
 ⟨h.lens,h.upN,h.upN,h.inN,h.inN,(fun _ hc=>by cases hc),rfl,h.firms⟩
def Chg.nmd:Chg→Bool
 | .put nm _=>good nm
 | .del nm=>good nm
 | .ren a b _=>good a&&good b
structure Dsk.Nmd (s:Dsk):Prop where
 now:∀ p∈s.now,good p.1=true
 safe:∀ p∈s.safe,good p.1=true
 pend:∀ c∈s.pend,c.nmd=true
theorem nmd_app {l:NM} {c:Chg} (hl:∀ p∈l,good p.1=true) (hc:c.nmd=true):∀ p∈c.app l,good p.1=true:=by
 intro p hp
 cases c with
 | put nm no =>
  rcases mem_put.1 hp with rfl | hp
  ·exact hc
  ·exact hl p hp.1
 | del nm=>exact hl p (mem_del.1 hp).1
 | ren a b no =>
  rcases mem_put.1 hp with rfl | hp
  ·exact (Bool.and_eq_true _ _ ▸ hc:good a=true∧good b=true).2
  ·exact hl p (mem_del.1 hp.1).1
theorem Dsk.Nmd.alter {s:Dsk} (h:s.Nmd) {c:Chg} (hc:c.nmd=true):(s.alter c).Nmd :=
 ⟨nmd_app h.now hc,h.safe,fun x hx=>by
  rcases List.mem_append.1 hx with hx | hx
  ·exact h.pend x hx
  ·rw[List.mem_singleton.1 hx];exact hc⟩
structure Fit (k:Nat) (s:Dsk):Prop where
 nmd:s.Nmd
 ok:s.Ok
 n0:0≤s.n
 n:s.n≤k
 now:s.now.length≤k
 pend:s.pend.length≤k
 data:s.data.length≤k
 fails:s.fails.length≤1099511627776
 room:0≤s.room∧s.room≤1073741824
 size:∀ no,s.size no≤1073741824
theorem Fit.mono {k m:Nat} {s:Dsk} (h:Fit k s) (hm:k≤m):Fit m s :=
 ⟨h.nmd,h.ok,h.n0,by have:=h.n;omega,Nat.le_trans h.now hm,Nat.le_trans h.pend hm,Nat.le_trans h.data hm,h.fails,h.room,h.size⟩
theorem Fit.sml {k:Nat} {s:Dsk} (h:Fit k s) (hk:k≤268435456):s.Sml :=
 ⟨h.n0,by have:=h.n;omega,h.fails,by have:=h.now;omega,by have:=h.pend;omega,by have:=h.data;omega,fun no=>by have:=h.size no;omega⟩
theorem sum_bound {f:ByteArray × Nat→Nat} {Z:Nat}:∀ l:NM,(∀ p,f p≤Z)→(l.map f).sum≤l.length * Z
 | [],_=>by simp
 | p::r,h=>by
  have h1:=sum_bound r h
  have h2:=h p
  rw[List.map_cons,List.sum_cons,List.length_cons,Nat.succ_mul]
  omega
theorem Fit.used {k:Nat} {s:Dsk} (h:Fit k s) (hk:k≤268435456):s.used≤1152921504606846976:=by
 have h1:s.used≤s.now.length * 1073741824:=sum_bound s.now (fun p=>h.size p.2)
 have h2:=h.now
 have h3:s.now.length * 1073741824≤268435456 * 1073741824:=Nat.mul_le_mul_right _ (by omega)
 omega
theorem size_le_used {s:Dsk} {nm:ByteArray} {no:Nat} (h:(nm,no)∈s.now):s.size no≤s.used:=by
 unfold Dsk.used
 generalize s.now=l at *
 induction l with
 | nil=>cases h
 | cons p r ih =>
  rw[List.map_cons,List.sum_cons]
  rcases List.mem_cons.1 h with rfl | h
  ·exact Nat.le_add_right _ _
  ·have:=ih h
   omega
section
variable {k:Nat} {s:Dsk}
theorem Fit.count (h:Fit k s):Fit (k+1) { s with n:=s.n+1 } :=
 ⟨⟨h.nmd.now,h.nmd.safe,h.nmd.pend⟩,h.ok.count _,by have:=h.n0;show 0≤s.n+1;omega,by have:=h.n;show s.n+1≤_;omega,Nat.le_succ_of_le h.now,Nat.le_succ_of_le h.pend,Nat.le_succ_of_le h.data,h.fails,h.room,h.size⟩
theorem Fit.begin (h:Fit k s) (ns:List ByteArray):Fit (k+1) (s.begin ns).1:=by
 unfold Dsk.begin
 split
 ·exact h.mono (Nat.le_succ k)
 ·exact h.count
theorem Dsk.begin_good (s:Dsk) (ns:List ByteArray):(s.begin ns).2=0→ns.all good=true:=by
 unfold Dsk.begin
 split
 ·intro h;cases h
 ·dsimp only
  split
  ·intro h;cases h
  ·split
   ·intro _;assumption
   ·intro h;cases h
theorem Fit.on (h:Fit k s) (nm:ByteArray) (more:List ByteArray) (f:Dsk→Nat→Dsk × Int) (hf:∀ (u:Dsk) (no:Nat),u.now=s.now→u.pend=s.pend→u.data=s.data→Fit (k+1) u→find u.now nm=some no→(more++[nm]).all good=true→Fit (k+1) (f u no).1):Fit (k+1) (s.on nm more f).1:=by
 have hg:=s.begin_good (more++[nm])
 obtain⟨n,hn⟩:=s.begin_as (more++[nm])
 have hb:=h.begin (more++[nm])
 unfold Dsk.on
 cases hbe:s.begin (more++[nm]) with
 | mk s1 e =>
  rw[hbe]at hn hb hg
  dsimp only at hn hb hg ⊢
  split
  ·exact hb
  ·rename_i he
   cases hfd:find s1.now nm with
   | none=>exact hb
   | some no=>exact hf s1 no (by rw[hn]) (by rw[hn]) (by rw[hn]) hb hfd (hg (by omega))
theorem Fit.alter {c:Chg} (hu:Fit (k+1) s) (hp:s.pend.length≤k) (hn:s.now.length≤k) (hc:c.within s.data.length) (hm:c.nmd=true):Fit (k+1) (s.alter c) :=
 ⟨hu.nmd.alter hm,hu.ok.alter hc,hu.n0,hu.n,by have:=length_app s.now c;show (c.app s.now).length≤_;omega,by show (s.pend++[c]).length≤_;rw[List.length_append];simp;exact hp,hu.data,hu.fails,hu.room,hu.size⟩
theorem Fit.remove (h:Fit k s) (nm:ByteArray):Fit (k+1) (s.remove nm).1 :=
 h.on nm [] _ (fun u no h1 h2 _ hu _ hg=>hu.alter (by rw[h2];exact h.pend) (by rw[h1];exact h.now) trivial (by simpa [Chg.nmd] using hg))
theorem Fit.rename (h:Fit k s) (a b:ByteArray):Fit (k+1) (s.rename a b).1 :=
 h.on a [b] _ (fun u no h1 h2 h3 hu hf hg=>by
  split
  ·exact hu
  ·exact hu.alter (by rw[h2];exact h.pend) (by rw[h1];exact h.now) (hu.ok.inN _ (find_mem hf)) (by simp [Chg.nmd]at hg ⊢;exact⟨hg.2,hg.1⟩))
theorem Fit.sync (h:Fit k s) (nm:ByteArray):Fit (k+1) (s.sync nm).1 :=
 h.on nm [] _ (fun _ no _ _ _ hu _ _=>⟨⟨hu.nmd.now,hu.nmd.safe,hu.nmd.pend⟩,hu.ok.firm no,hu.n0,hu.n,hu.now,hu.pend,hu.data,hu.fails,hu.room,hu.size⟩)
theorem Fit.append (h:Fit k s) (nm:ByteArray) (d:List UInt8):Fit (k+1) (s.append nm d).1 :=
 h.on nm [] _ (fun u no _ _ _ hu hf _=>by
  split
  ·exact hu
  ·rename_i hr
   refine⟨⟨hu.nmd.now,hu.nmd.safe,hu.nmd.pend⟩,hu.ok.data no d,hu.n0,hu.n,hu.now,hu.pend,by show (u.data.set no _).length≤_;rw[List.length_set];exact hu.data,hu.fails,hu.room,fun i=>?_⟩
   unfold Dsk.size
   dsimp only
   have hi:=hu.size i
   unfold Dsk.size at hi
   by_cases e:i=no
   ·subst e
    by_cases hl:i < u.data.length
    ·have hg:(u.data.set i (u.data.getD i []++d)).getD i []=u.data.getD i []++d:=by simp [List.getD,hl]
     rw[hg,List.length_append]
     by_cases h0:d.length=0
     ·omega
     ·have h1:=size_le_used (find_mem hf)
      unfold Dsk.size at h1
      have h2:=hu.room.2
      have h3:¬ u.room < (u.used:Int)+d.length:=fun h3=>hr ⟨by omega,h3⟩
      omega
    ·rw[List.set_eq_of_length_le (by omega)]
     exact hi
   ·rw[show (u.data.set no (u.data.getD no []++d)).getD i []=u.data.getD i [] by simp [List.getD,List.getElem?_set_ne (fun h=>e h.symm)]]
    exact hi)
theorem Fit.syncNames (h:Fit k s):Fit (k+1) s.syncNames.1:=by
 have hb:=h.begin []
 unfold Dsk.syncNames
 cases hbe:s.begin [] with
 | mk s1 e =>
  rw[hbe]at hb
  dsimp only at hb ⊢
  split
  ·exact hb
  ·exact⟨⟨hb.nmd.now,hb.nmd.now,(fun _ h=>by cases h)⟩,hb.ok.synced,hb.n0,hb.n,hb.now,Nat.zero_le _,hb.data,hb.fails,hb.room,hb.size⟩
theorem Fit.create (h:Fit k s) (nm:ByteArray):Fit (k+1) (s.create nm).1:=by
 obtain⟨n,hn⟩:=s.begin_as [nm]
 have hb:=h.begin [nm]
 have hg:=s.begin_good [nm]
 unfold Dsk.create
 cases hbe:s.begin [nm] with
 | mk s1 e =>
  rw[hbe]at hb hn hg
  dsimp only at hb hn hg ⊢
  split
  ·exact hb
  ·rename_i he
   split
   ·exact hb
   ·have hl:(s1.data++[([]:List UInt8)]).length=s1.data.length+1:=by simp
    have h1:s1.data.length≤k:=by rw[hn];exact h.data
    have h2:s1.pend.length≤k:=by rw[hn];exact h.pend
    have h3:s1.now.length≤k:=by rw[hn];exact h.now
    refine Fit.alter (s:={ s1 with data:=s1.data++[[]],firm:=s1.firm++[0] }) ⟨⟨hb.nmd.now,hb.nmd.safe,hb.nmd.pend⟩,hb.ok.newFile,hb.n0,hb.n,hb.now,hb.pend,by show (s1.data++[([]:List UInt8)]).length≤_;rw[hl];omega,hb.fails,hb.room,fun i=>?_⟩ h2 h3 ?_ (by simpa [Chg.nmd] using hg (by omega))
    ·unfold Dsk.size
     dsimp only
     have:=hb.size i
     unfold Dsk.size at this
     by_cases hi:i < s1.data.length
     ·rw[show (s1.data++[([]:List UInt8)]).getD i []=s1.data.getD i [] by simp [List.getD,List.getElem?_append_left hi]]
      exact this
     ·have:(s1.data++[([]:List UInt8)]).getD i []=[]:=by
       rw[List.getD,List.getElem?_append_right (by omega)]
       cases h9:i - s1.data.length<;>simp
      rw[this]
      exact Nat.zero_le _
    ·show s1.data.length < (s1.data++[([]:List UInt8)]).length
     rw[hl]
     omega
end
end D
open Go.RowKit
theorem sameBytes_any (A B:Option Addr) (n m c d:Nat) (xs ys:List UInt8) (w:World) (hn:n≤1099511627776) (hm:m≤1099511627776) (hx:Rd w A n 1 (bcells xs)) (hy:Rd w B m 1 (bcells ys)) (hxl:xs.length=n) (hyl:ys.length=m) :
  Calls Tryz.prog 42 #[.slice A n c,.slice B m d] w (RetB w (decide (xs=ys))):=by
 have HX:=Lib.hid hxl
 have HY:=Lib.hid hyl
 clear hxl hyl
 by_cases hnm:n=m
 ·subst hnm
  go_enter Tryz.func42,Tryz.ntmps42
  go_wp2
  go_loopw [5] (fun i wr=>∃ k:Nat,k≤n∧i=.int .i64 k∧xs.take k=ys.take k∧∃ q,wr=w.drewN q) (fun i _=>n - (intOf i).toNat)
  case atStart=>exact⟨0,Nat.zero_le _,rfl,rfl,0,rfl⟩
  case round =>
   obtain⟨k,hk,rfl,he,q,rfl⟩:=hrel
   have HE:=Lib.hid he;clear he
   by_cases hlt:k < n
   ·obtain⟨b1,o1,rfl,hl1,c1⟩:=hx.byte hlt HX.out
    obtain⟨b2,o2,rfl,hl2,d1⟩:=hy.byte hlt HY.out
    have hsnoc:∀ h:xs[k]'(by have:=HX.out;omega)=ys[k]'(by have:=HY.out;omega),xs.take (k+1)=ys.take (k+1):=fun h=>take_eq_snoc _ _ HE.out h
    have hne:∀ h:¬ xs[k]'(by have:=HX.out;omega)=ys[k]'(by have:=HY.out;omega),¬ xs=ys:=fun h e=>h (by subst e;rfl)
    obtain⟨x,hx1⟩:∃ x,x=xs[k]'(by have:=HX.out;omega):=⟨_,rfl⟩
    obtain⟨y,hy1⟩:∃ y,y=ys[k]'(by have:=HY.out;omega):=⟨_,rfl⟩
    rw[← hx1]at c1 hsnoc hne
    rw[← hy1]at d1 hsnoc hne
    have HS:=Lib.hid hsnoc
    have HN:=Lib.hid hne
    clear hx1 hy1 hsnoc hne
    by_cases hd:x=y
    ·have hb:((x.toNat:Int) != (y.toNat:Int))=false:=by rw[hd];simp
     have hyes:=HS.out hd
     have HYS:=Lib.hid hyes
     clear hyes hd
     go_wp2
     go_region
     go_wp2
     go_roundw
     case rel=>exact⟨k+1,by omega,by go_num,HYS.out,_,rfl⟩
     case measure=>simp [intOf];omega
    ·have hb:((x.toNat:Int) != (y.toNat:Int))=true:=by
      rw[bne_iff_ne];intro e;exact hd (UInt8.toNat_inj.1 (by omega))
     have hno:=decide_eq_false (HN.out hd)
     have HNO:=Lib.hid hno
     clear hno hd
     go_wp2
     go_region
     go_wp2
     go_ret
     exact⟨ret_bool HNO.out.symm,below_drewN (Below.refl _ _) _⟩
   ·have hfin:xs=ys:=by
     have:=HE.out
     have h1:=HX.out
     have h2:=HY.out
     rw[List.take_of_length_le (by omega),List.take_of_length_le (by omega)]at this
     exact this
    have HF:=Lib.hid hfin
    clear hfin
    go_wp2
    go_ret
    exact⟨ret_bool (by rw[decide_eq_true HF.out]),below_drewN (Below.refl _ _) _⟩
 ·have h1:((n:Int)==(m:Int))=false:=by simp;omega
  have h2:((n:Int) != (m:Int))=true:=by simp;omega
  go_enter Tryz.func42,Tryz.ntmps42
  go_wp2
  go_ret
  exact⟨ret_bool (by have:=HX.out;have:=HY.out;symm;apply decide_eq_false;rintro rfl;omega),Below.refl _ _⟩
def words:List (Int × ByteArray):=[(400,⟨#[66,97,100,32,82,101,113,117,101,115,116]⟩),(403,⟨#[70,111,114,98,105,100,100,101,110]⟩),(404,⟨#[78,111,116,32,70,111,117,110,100]⟩),(413,⟨#[67,111,110,116,101,110,116,32,84,111,111,32,76,97,114,103,101]⟩),(431,⟨#[82,101,113,117,101,115,116,32,72,101,97,100,101,114,32,70,105,101,108,100,115,32,84,111,111,32,76,97,114,103,101]⟩),(501,⟨#[78,111,116,32,73,109,112,108,101,109,101,110,116,101,100]⟩),(502,⟨#[66,97,100,32,71,97,116,101,119,97,121]⟩),(504,⟨#[71,97,116,101,119,97,121,32,84,105,109,101,111,117,116]⟩),(505,⟨#[72,84,84,80,32,86,101,114,115,105,111,110,32,78,111,116,32,83,117,112,112,111,114,116,101,100]⟩)]
def wordOf (s:Int):List (Int × ByteArray)→ByteArray
 | []=>⟨#[69,114,114,111,114]⟩
 | x::l=>if x.1=s then x.2 else wordOf s l
def word (s:Int):ByteArray:=wordOf s words
def plainF:FD:=(⟨#[67,111,110,116,101,110,116,45,84,121,112,101]⟩,⟨#[116,101,120,116,47,112,108,97,105,110]⟩)
def at_ (w:World) (p:Addr):Value:=(w.cell? p).getD undef
theorem at_of {w:World} {p:Addr} {v:Value} (h:w.cell? p=some v):w.cell? p=some (at_ w p):=by
 unfold at_;rw[h];rfl
def Four (w:World) (b:Nat):Prop:=(w.cell? ⟨b,0,none⟩=some (at_ w ⟨b,0,none⟩)∧w.frozen? ⟨b,0,none⟩=false)∧(w.cell? ⟨b,1,none⟩=some (at_ w ⟨b,1,none⟩)∧w.frozen? ⟨b,1,none⟩=false)∧(w.cell? ⟨b,2,none⟩=some (at_ w ⟨b,2,none⟩)∧w.frozen? ⟨b,2,none⟩=false)∧(w.cell? ⟨b,3,none⟩=some (at_ w ⟨b,3,none⟩)∧w.frozen? ⟨b,3,none⟩=false)
def Four4 (w:World) (b:Nat) (x0 x1 x2 x3:Value):Prop:=w.cell? ⟨b,0,none⟩=some x0∧w.cell? ⟨b,1,none⟩=some x1∧w.cell? ⟨b,2,none⟩=some x2∧w.cell? ⟨b,3,none⟩=some x3
theorem Four.below {w w1:World} {b:Nat} (h:Four w b) (hb:Below w.heap.size w w1):Four w1 b:=by
 obtain⟨⟨a0,f0⟩,⟨a1,f1⟩,⟨a2,f2⟩,⟨a3,f3⟩⟩:=h
 have lt:=World.block_lt_of_cell? w _ a0
 exact⟨⟨at_of ((hb.cell (p:=⟨b,0,none⟩) lt).trans a0),(hb.frozen (p:=⟨b,0,none⟩) lt).trans f0⟩,⟨at_of ((hb.cell (p:=⟨b,1,none⟩) lt).trans a1),(hb.frozen (p:=⟨b,1,none⟩) lt).trans f1⟩,⟨at_of ((hb.cell (p:=⟨b,2,none⟩) lt).trans a2),(hb.frozen (p:=⟨b,2,none⟩) lt).trans f2⟩,⟨at_of ((hb.cell (p:=⟨b,3,none⟩) lt).trans a3),(hb.frozen (p:=⟨b,3,none⟩) lt).trans f3⟩⟩
theorem Four4.below {w w1:World} {b:Nat} {x0 x1 x2 x3:Value} (h:Four4 w b x0 x1 x2 x3) (hb:Below w.heap.size w w1):Four4 w1 b x0 x1 x2 x3:=by
 obtain⟨a0,a1,a2,a3⟩:=h
 have lt:=World.block_lt_of_cell? w _ a0
 exact⟨(hb.cell (p:=⟨b,0,none⟩) lt).trans a0,(hb.cell (p:=⟨b,1,none⟩) lt).trans a1,(hb.cell (p:=⟨b,2,none⟩) lt).trans a2,(hb.cell (p:=⟨b,3,none⟩) lt).trans a3⟩
theorem Four4.four {w:World} {b:Nat} {x0 x1 x2 x3:Value} (h:Four4 w b x0 x1 x2 x3) (h0:∀ i,w.frozen? ⟨b,i,none⟩=false):Four w b :=
 ⟨⟨at_of h.1,h0 0⟩,⟨at_of h.2.1,h0 1⟩,⟨at_of h.2.2.1,h0 2⟩,⟨at_of h.2.2.2,h0 3⟩⟩
def HeldR (w:World) (b b4:Nat) (x0 x1 x2 x3:Value) (A:Option Addr) (w':World):Prop :=
 Four4 w' b4 x0 x1 x2 x3∧Four w' b∧(TabOk w'∧Rd w' A 1 2 (fcells [plainF])∧Below w.heap.size w w')
theorem HeldR.below {w:World} {b b4:Nat} {x0 x1 x2 x3:Value} {A:Option Addr} {u v:World} (h:HeldR w b b4 x0 x1 x2 x3 A u) (hb:Below u.heap.size u v):HeldR w b b4 x0 x1 x2 x3 A v :=
 ⟨Four4.below h.1 hb,Four.below h.2.1 hb,h.2.2.1.below hb,h.2.2.2.1.below hb,below_then h.2.2.2.2.size h.2.2.2.2 hb⟩
theorem HeldR.drew {w:World} {b b4:Nat} {x0 x1 x2 x3:Value} {A:Option Addr} {u:World} (h:HeldR w b b4 x0 x1 x2 x3 A u):HeldR w b b4 x0 x1 x2 x3 A u.drew:=h.below (Below.refl _ _).drew
theorem Four.set4 {u:World} {b:Nat} (h:Four u b) (x0 x1 x2 x3:Value):Four4 ((((u.setCell ⟨b,0,none⟩ x0).setCell ⟨b,1,none⟩ x1).setCell ⟨b,2,none⟩ x2).setCell ⟨b,3,none⟩ x3) b x0 x1 x2 x3:=by
 obtain⟨⟨a0,f0⟩,⟨a1,f1⟩,⟨a2,f2⟩,⟨a3,f3⟩⟩:=h
 have o:∀ (w:World) (i j:Nat) (v:Value),i≠j→(w.setCell ⟨b,i,none⟩ v).cell? ⟨b,j,none⟩=w.cell? ⟨b,j,none⟩:=fun w i j v h=>World.cell?_setCell_other _ _ _ _ (fun e=>h (by injection e))
 refine⟨?_,?_,?_,?_⟩
 ·rw[o _ _ _ _ (by decide),o _ _ _ _ (by decide),o _ _ _ _ (by decide)]
  exact World.cell?_setCell_same _ _ _ a0
 ·rw[o _ _ _ _ (by decide),o _ _ _ _ (by decide)]
  exact World.cell?_setCell_same _ _ _ (u:=at_ u ⟨b,1,none⟩) (by rw[o _ _ _ _ (by decide)];exact a1)
 ·rw[o _ _ _ _ (by decide)]
  exact World.cell?_setCell_same _ _ _ (u:=at_ u ⟨b,2,none⟩) (by rw[o _ _ _ _ (by decide),o _ _ _ _ (by decide)];exact a2)
 ·exact World.cell?_setCell_same _ _ _ (u:=at_ u ⟨b,3,none⟩) (by rw[o _ _ _ _ (by decide),o _ _ _ _ (by decide),o _ _ _ _ (by decide)];exact a3)
theorem Four.set4_four {u:World} {b:Nat} (h:Four u b) (x0 x1 x2 x3:Value):Four ((((u.setCell ⟨b,0,none⟩ x0).setCell ⟨b,1,none⟩ x1).setCell ⟨b,2,none⟩ x2).setCell ⟨b,3,none⟩ x3) b:=by
 obtain⟨h0,h1,h2,h3⟩:=h.set4 x0 x1 x2 x3
 obtain⟨⟨a0,f0⟩,⟨a1,f1⟩,⟨a2,f2⟩,⟨a3,f3⟩⟩:=h
 refine⟨⟨at_of h0,?_⟩,⟨at_of h1,?_⟩,⟨at_of h2,?_⟩,⟨at_of h3,?_⟩⟩<;>simp [*]
theorem Four4.far {u:World} {b b':Nat} {y0 y1 y2 y3:Value} (h:Four4 u b' y0 y1 y2 y3) (hne:b'≠b) (i:Nat) (x:Value):Four4 (u.setCell ⟨b,i,none⟩ x) b' y0 y1 y2 y3:=by
 obtain⟨a0,a1,a2,a3⟩:=h
 refine⟨?_,?_,?_,?_⟩<;>rw[World.cell?_setCell_far _ _ _ _ (fun e=>hne e.symm)]<;>assumption
theorem Rd.far {u:World} {B:Option Addr} {n size:Nat} {xs:List Value} (h:Rd u B n size xs) (b:Nat) (hne:0 < n→∀ p,B=some p→p.block≠b) (i:Nat) (x:Value):Rd (u.setCell ⟨b,i,none⟩ x) B n size xs :=
 ⟨h.1,fun hn=>by
  obtain⟨c,o,rfl,hlt,hc⟩:=h.2 hn
  refine⟨c,o,rfl,by simpa using hlt,fun j v hv=>?_⟩
  rw[World.cell?_setCell_far _ _ _ _ (fun e=>hne hn _ rfl e.symm)]
  exact hc j v hv⟩
theorem Rd.set4 {u:World} {B:Option Addr} {n size:Nat} {xs:List Value} (h:Rd u B n size xs) (b:Nat) (hne:0 < n→∀ p,B=some p→p.block≠b) (x0 x1 x2 x3:Value):Rd ((((u.setCell ⟨b,0,none⟩ x0).setCell ⟨b,1,none⟩ x1).setCell ⟨b,2,none⟩ x2).setCell ⟨b,3,none⟩ x3) B n size xs :=
 (((h.far b hne _ _).far b hne _ _).far b hne _ _).far b hne _ _
theorem Four.lt {u:World} {b:Nat} (h:Four u b):b < u.heap.size:=World.block_lt_of_cell? u _ h.1.1
theorem HeldR.set4 {w:World} {b b4:Nat} {x0 x1 x2 x3:Value} {A:Option Addr} {u:World} (h:HeldR w b b4 x0 x1 x2 x3 A u) (hb:w.heap.size≤b) (hne:b4≠b) (hA:∀ p,A=some p→p.block≠b) (ht:TabOk w) (y0 y1 y2 y3:Value) :
  HeldR w b b4 x0 x1 x2 x3 A ((((u.setCell ⟨b,0,none⟩ y0).setCell ⟨b,1,none⟩ y1).setCell ⟨b,2,none⟩ y2).setCell ⟨b,3,none⟩ y3):=by
 have hB:Below w.heap.size w ((((u.setCell ⟨b,0,none⟩ y0).setCell ⟨b,1,none⟩ y1).setCell ⟨b,2,none⟩ y2).setCell ⟨b,3,none⟩ y3) :=
  (((h.2.2.2.2.setCell (p:=⟨b,0,none⟩) hb _).setCell (p:=⟨b,1,none⟩) hb _).setCell (p:=⟨b,2,none⟩) hb _).setCell (p:=⟨b,3,none⟩) hb _
 have h4:Four4 u b4 x0 x1 x2 x3:=h.1
 exact⟨(((h4.far hne _ _).far hne _ _).far hne _ _).far hne _ _,h.2.1.set4_four _ _ _ _,ht.below hB,h.2.2.2.1.set4 b (fun _=>hA) _ _ _ _,hB⟩
theorem sameResponse_any (s1 m1 s2 m2:Int) (r1 r2:ByteArray) (A B:Option Addr) (n m c d:Nat) (xs ys:List FD) (w:World) (hn:n≤1099511627776) (hm:m≤1099511627776) (hx:Rd w A n 2 (fcells xs)) (hy:Rd w B m 2 (fcells ys)) (hxl:xs.length=n) (hyl:ys.length=m) :
  Calls Tryz.prog 41 #[.agg #[.int .i64 s1,.string r1,.int .i64 m1,.slice A n c],.agg #[.int .i64 s2,.string r2,.int .i64 m2,.slice B m d]] w (RetB w (decide (s1=s2)&&decide (r1=r2)&&decide (m1=m2)&&decide (xs=ys))):=by
 have HS:=Lib.hid (fun w' (hb:Below w.heap.size w w')=>sameFields_any A B n m c d xs ys w' hn hm (hx.below hb) (hy.below hb) hxl hyl)
 obtain⟨b4,hb4⟩:∃ b4,b4=decide (xs=ys):=⟨_,rfl⟩
 rw[← hb4]at HS ⊢
 clear hx hy hxl hyl hb4 hn hm
 rcases tf (decide (s1=s2)) with h1 | h1
 ·have e1:(s1==s2)=true:=by rw[of_decide_eq_true h1];simp
  rw[h1]
  clear h1
  rcases tf (decide (r1=r2)) with h2 | h2
  ·have e2:(r1.toList==r2.toList)=true:=by rw[beq_bytes,h2]
   rw[h2]
   clear h2
   rcases tf (decide (m1=m2)) with h3 | h3
   ·have e3:(m1==m2)=true:=by rw[of_decide_eq_true h3];simp
    rw[h3]
    clear h3
    go_enter Tryz.func41,Tryz.ntmps41
    go_wp2_with fail
    refine (HS.out _ (((Below.refl _ _).alloc (Nat.le_refl _) _).alloc (by rw[World.size_alloc];omega) _)).mono ?_
    rintro e w1 ⟨rfl,hb1⟩
    go_wp2
    go_ret
    exact⟨ret_bool (by simp),below_then (by simp;omega) (((Below.refl _ _).alloc (Nat.le_refl _) _).alloc (by rw[World.size_alloc];omega) _) hb1⟩
   ·have e3:(m1==m2)=false:=by simpa using of_decide_eq_false h3
    rw[h3]
    clear h3
    go_enter Tryz.func41,Tryz.ntmps41
    go_wp2
    go_ret
    exact⟨ret_bool (by simp),(((Below.refl _ _).alloc (Nat.le_refl _) _).alloc (by rw[World.size_alloc];omega) _)⟩
  ·have e2:(r1.toList==r2.toList)=false:=by rw[beq_bytes,h2]
   rw[h2]
   clear h2
   go_enter Tryz.func41,Tryz.ntmps41
   go_wp2
   go_ret
   exact⟨ret_bool (by simp),(((Below.refl _ _).alloc (Nat.le_refl _) _).alloc (by rw[World.size_alloc];omega) _)⟩
 ·have e1:(s1==s2)=false:=by simpa using of_decide_eq_false h1
  rw[h1]
  clear h1
  go_enter Tryz.func41,Tryz.ntmps41
  go_wp2
  go_ret
  exact⟨ret_bool (by simp),(((Below.refl _ _).alloc (Nat.le_refl _) _).alloc (by rw[World.size_alloc];omega) _)⟩
end Go.Proofs.YthjeglnkgdpijaaGreatDoor
