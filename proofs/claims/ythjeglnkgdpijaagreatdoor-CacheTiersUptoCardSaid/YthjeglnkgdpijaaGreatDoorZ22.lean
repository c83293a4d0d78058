/- The plain disk's steps keep its form; what they do where nothing fails. The walks of tok.tokenByte, Token, head.visible, fields.good and of their twins in the document. The walks of the document's Byte, Token, Text, Value and visible, and of fields.good. Conditions: as each theorem states them. -/
import Derived.Test.YthjeglnkgdpijaaGreatDoorZ31
set_option maxHeartbeats 1000000
namespace Go.Proofs.YthjeglnkgdpijaaGreatDoor
namespace D
theorem aF8 (l:NM) (nm:ByteArray) (no:Nat):(ins l nm no).length=l.length+1:=by
 induction l with
 | nil=>rfl
 | cons p r ih =>
  unfold ins
  split
  ·rfl
  ·rw[List.length_cons,ih,List.length_cons]
theorem kH (l:NM) (nm:ByteArray):(del l nm).length≤l.length:=List.length_filter_le _ _
theorem fP (l:NM) (nm:ByteArray) (no:Nat):(put l nm no).length≤l.length+1:=by
 unfold put
 rw[aF8]
 have:=kH l nm
 omega
theorem aF9 (l:NM) (c:Chg):(c.app l).length≤l.length+1:=by
 cases c with
 | put nm no=>exact fP l nm no
 | del nm=>exact Nat.le_succ_of_le (kH l nm)
 | ren a b no =>
  have h1:=fP (del l a) b no
  have h2:=kH l a
  show (put (del l a) b no).length≤_
  omega
theorem aOP {l:NM} {c:Chg} {p:ByteArray × Nat} {n:Nat} (hp:p∈c.app l) (hl:∀ p∈l,p.2 < n) (hc:c.within n):p.2 < n:=by
 cases c with
 | put nm no =>
  rcases cZ.1 hp with rfl | h
  ·exact hc
  ·exact hl p h.1
 | del nm=>exact hl p (bY.1 hp).1
 | ren a b no =>
  rcases cZ.1 hp with rfl | h
  ·exact hc
  ·exact hl p (bY.1 h.1).1
theorem Chg.within.mono {c:Chg} {n m:Nat} (h:c.within n) (hm:n≤m):c.within m:=by
 cases c with
 | put nm no=>exact Nat.lt_of_lt_of_le h hm
 | del nm=>trivial
 | ren a b no=>exact Nat.lt_of_lt_of_le h hm
theorem Dsk.Ok.alter {s:Dsk} (h:s.Ok) {c:Chg} (hc:c.within s.data.length):(s.alter c).Ok :=
 ⟨h.lens,aPU h.upN c,h.upS,fun _ hp=>aOP hp h.inN hc,h.inS,fun d hd=>by
  rcases List.mem_append.1 hd with hd | hd
  ·exact h.inP d hd
  ·rw[List.mem_singleton.1 hd];exact hc,by
  show c.app s.now=(s.pend++[c]).foldl Chg.app s.safe
  rw[List.foldl_append,← h.fold]
  rfl,h.firms⟩
theorem Dsk.Ok.count {s:Dsk} (h:s.Ok) (n:Int):({ s with n:=n }:Dsk).Ok:=⟨h.lens,h.upN,h.upS,h.inN,h.inS,h.inP,h.fold,h.firms⟩
theorem Dsk.Ok.newFile {s:Dsk} (h:s.Ok):({ s with data:=s.data++[[]],firm:=s.firm++[0] }:Dsk).Ok:=by
 have hl:(s.data++[([]:List UInt8)]).length=s.data.length+1:=by simp
 refine⟨by simp [h.lens],h.upN,h.upS,fun p hp=>?_,fun p hp=>?_,fun c hc=>(h.inP c hc).mono ?_,h.fold,fun no hn=>?_⟩
 ·show _ < (s.data++[([]:List UInt8)]).length
  rw[hl];have:=h.inN p hp;omega
 ·show _ < (s.data++[([]:List UInt8)]).length
  rw[hl];have:=h.inS p hp;omega
 ·show _≤(s.data++[([]:List UInt8)]).length
  rw[hl];omega
 ·change no < (s.data++[([]:List UInt8)]).length at hn
  rw[hl]at hn
  unfold Dsk.size
  dsimp only
  by_cases e:no=s.data.length
  ·subst e
   have:(s.firm++[0]).getD s.data.length 0=0:=by simp [List.getD,← h.lens]
   rw[this]
   exact zF _
  ·have hi:no < s.data.length:=by omega
   have h1:(s.data++[([]:List UInt8)]).getD no []=s.data.getD no []:=by simp [List.getD,List.getElem?_append_left hi]
   have h2:(s.firm++[0]).getD no 0=s.firm.getD no 0:=by simp [List.getD,List.getElem?_append_left (show no < s.firm.length by rw[h.lens];exact hi)]
   rw[h1,h2]
   exact h.firms no hi
theorem Dsk.Ok.data {s:Dsk} (h:s.Ok) (no:Nat) (d:List UInt8):({ s with data:=s.data.set no (s.data.getD no []++d) }:Dsk).Ok:=by
 refine⟨by simp [h.lens],h.upN,h.upS,fun p hp=>by have:=h.inN p hp;simpa using this,fun p hp=>by have:=h.inS p hp;simpa using this,fun c hc=>by have:=h.inP c hc;simpa using this,h.fold,fun i hi=>?_⟩
 have hi2:i < s.data.length:=by simpa using hi
 have:=h.firms i hi2
 unfold Dsk.size at this ⊢
 dsimp only
 by_cases e:i=no
 ·subst e
  simp [List.getD,hi2]at this ⊢
  omega
 ·rw[show (s.data.set no (s.data.getD no []++d)).getD i []=s.data.getD i [] by simp [List.getD,List.getElem?_set_ne (fun h=>e h.symm)]]
  exact this
theorem Dsk.Ok.firm {s:Dsk} (h:s.Ok) (no:Nat):({ s with firm:=s.firm.set no (s.size no) }:Dsk).Ok:=by
 refine⟨by simp [h.lens],h.upN,h.upS,h.inN,h.inS,h.inP,h.fold,fun i hi=>?_⟩
 have:=h.firms i hi
 show (s.firm.set no (s.size no)).getD i 0≤s.size i
 by_cases e:i=no
 ·subst e
  by_cases hl:i < s.firm.length
  ·simp [List.getD,hl]
  ·simp [List.getD,hl]
 ·rw[show (s.firm.set no (s.size no)).getD i 0=s.firm.getD i 0 by simp [List.getD,List.getElem?_set_ne (fun h=>e h.symm)]]
  exact this
theorem Dsk.Ok.synced {s:Dsk} (h:s.Ok):({ s with safe:=s.now,pend:=[] }:Dsk).Ok :=
 ⟨h.lens,h.upN,h.upN,h.inN,h.inN,(fun _ hc=>by cases hc),rfl,h.firms⟩
def Chg.nmd:Chg→Bool
 | .put nm _=>good nm
 | .del nm=>good nm
 | .ren a b _=>good a&&good b
structure Dsk.Nmd (s:Dsk):Prop where
 now:∀ p∈s.now,good p.1=true
 safe:∀ p∈s.safe,good p.1=true
 pend:∀ c∈s.pend,c.nmd=true
theorem aOM {l:NM} {c:Chg} (hl:∀ p∈l,good p.1=true) (hc:c.nmd=true):∀ p∈c.app l,good p.1=true:=by
 intro p hp
 cases c with
 | put nm no =>
  rcases cZ.1 hp with rfl | hp
  ·exact hc
  ·exact hl p hp.1
 | del nm=>exact hl p (bY.1 hp).1
 | ren a b no =>
  rcases cZ.1 hp with rfl | hp
  ·exact (Bool.and_eq_true _ _ ▸ hc:good a=true∧good b=true).2
  ·exact hl p (bY.1 hp.1).1
theorem Dsk.Nmd.alter {s:Dsk} (h:s.Nmd) {c:Chg} (hc:c.nmd=true):(s.alter c).Nmd :=
 ⟨aOM h.now hc,h.safe,fun x hx=>by
  rcases List.mem_append.1 hx with hx | hx
  ·exact h.pend x hx
  ·rw[List.mem_singleton.1 hx];exact hc⟩
structure Fit (k:Nat) (s:Dsk):Prop where
 nmd:s.Nmd
 ok:s.Ok
 n0:0≤s.n
 n:s.n≤k
 now:s.now.length≤k
 pend:s.pend.length≤k
 data:s.data.length≤k
 fails:s.fails.length≤1099511627776
 room:0≤s.room∧s.room≤1073741824
 size:∀ no,s.size no≤1073741824
theorem Fit.mono {k m:Nat} {s:Dsk} (h:Fit k s) (hm:k≤m):Fit m s :=
 ⟨h.nmd,h.ok,h.n0,by have:=h.n;omega,bD h.now hm,bD h.pend hm,bD h.data hm,h.fails,h.room,h.size⟩
theorem Fit.sml {k:Nat} {s:Dsk} (h:Fit k s) (hk:k≤268435456):s.Sml :=
 ⟨h.n0,by have:=h.n;omega,h.fails,by have:=h.now;omega,by have:=h.pend;omega,by have:=h.data;omega,fun no=>by have:=h.size no;omega⟩
theorem aAL {f:ByteArray × Nat→Nat} {Z:Nat}:∀ l:NM,(∀ p,f p≤Z)→(l.map f).sum≤l.length * Z
 | [],_=>by simp
 | p::r,h=>by
  have h1:=aAL r h
  have h2:=h p
  rw[List.map_cons,List.sum_cons,List.length_cons,Nat.succ_mul]
  omega
theorem Fit.used {k:Nat} {s:Dsk} (h:Fit k s) (hk:k≤268435456):s.used≤1152921504606846976:=by
 have h1:s.used≤s.now.length * 1073741824:=aAL s.now (fun p=>h.size p.2)
 have h2:=h.now
 have h3:s.now.length * 1073741824≤268435456 * 1073741824:=Nat.mul_le_mul_right _ (by omega)
 omega
theorem aAP {s:Dsk} {nm:ByteArray} {no:Nat} (h:(nm,no)∈s.now):s.size no≤s.used:=by
 unfold Dsk.used
 generalize s.now=l at *
 induction l with
 | nil=>cases h
 | cons p r ih =>
  rw[List.map_cons,List.sum_cons]
  rcases List.mem_cons.1 h with rfl | h
  ·exact Nat.le_add_right _ _
  ·have:=ih h
   omega
section
variable {k:Nat} {s:Dsk}
theorem Fit.count (h:Fit k s):Fit (k+1) { s with n:=s.n+1 } :=
 ⟨⟨h.nmd.now,h.nmd.safe,h.nmd.pend⟩,h.ok.count _,by have:=h.n0;show 0≤s.n+1;omega,by have:=h.n;show s.n+1≤_;omega,Nat.le_succ_of_le h.now,Nat.le_succ_of_le h.pend,Nat.le_succ_of_le h.data,h.fails,h.room,h.size⟩
theorem Fit.begin (h:Fit k s) (ns:List ByteArray):Fit (k+1) (s.begin ns).1:=by
 unfold Dsk.begin
 split
 ·exact h.mono (Nat.le_succ k)
 ·exact h.count
theorem Dsk.begin_good (s:Dsk) (ns:List ByteArray):(s.begin ns).2=0→ns.all good=true:=by
 unfold Dsk.begin
 split
 ·intro h;cases h
 ·dsimp only
  split
  ·intro h;cases h
  ·split
   ·intro _;assumption
   ·intro h;cases h
theorem Fit.on (h:Fit k s) (nm:ByteArray) (more:List ByteArray) (f:Dsk→Nat→Dsk × Int) (hf:∀ (u:Dsk) (no:Nat),u.now=s.now→u.pend=s.pend→u.data=s.data→Fit (k+1) u→find u.now nm=some no→(more++[nm]).all good=true→Fit (k+1) (f u no).1):Fit (k+1) (s.on nm more f).1:=by
 have hg:=s.begin_good (more++[nm])
 obtain⟨n,hn⟩:=s.begin_as (more++[nm])
 have hb:=h.begin (more++[nm])
 unfold Dsk.on
 cases hbe:s.begin (more++[nm]) with
 | mk s1 e =>
  rw[hbe]at hn hb hg
  dsimp only at hn hb hg ⊢
  split
  ·exact hb
  ·rename_i he
   cases hfd:find s1.now nm with
   | none=>exact hb
   | some no=>exact hf s1 no (by rw[hn]) (by rw[hn]) (by rw[hn]) hb hfd (hg (by omega))
theorem Fit.alter {c:Chg} (hu:Fit (k+1) s) (hp:s.pend.length≤k) (hn:s.now.length≤k) (hc:c.within s.data.length) (hm:c.nmd=true):Fit (k+1) (s.alter c) :=
 ⟨hu.nmd.alter hm,hu.ok.alter hc,hu.n0,hu.n,by have:=aF9 s.now c;show (c.app s.now).length≤_;omega,by show (s.pend++[c]).length≤_;rw[bC];simp;exact hp,hu.data,hu.fails,hu.room,hu.size⟩
theorem Fit.remove (h:Fit k s) (nm:ByteArray):Fit (k+1) (s.remove nm).1 :=
 h.on nm [] _ (fun u no h1 h2 _ hu _ hg=>hu.alter (by rw[h2];exact h.pend) (by rw[h1];exact h.now) trivial (by simpa [Chg.nmd] using hg))
theorem Fit.rename (h:Fit k s) (a b:ByteArray):Fit (k+1) (s.rename a b).1 :=
 h.on a [b] _ (fun u no h1 h2 h3 hu hf hg=>by
  split
  ·exact hu
  ·exact hu.alter (by rw[h2];exact h.pend) (by rw[h1];exact h.now) (hu.ok.inN _ (aN hf)) (by simp [Chg.nmd]at hg ⊢;exact⟨hg.2,hg.1⟩))
theorem Fit.sync (h:Fit k s) (nm:ByteArray):Fit (k+1) (s.sync nm).1 :=
 h.on nm [] _ (fun _ no _ _ _ hu _ _=>⟨⟨hu.nmd.now,hu.nmd.safe,hu.nmd.pend⟩,hu.ok.firm no,hu.n0,hu.n,hu.now,hu.pend,hu.data,hu.fails,hu.room,hu.size⟩)
theorem Fit.append (h:Fit k s) (nm:ByteArray) (d:List UInt8):Fit (k+1) (s.append nm d).1 :=
 h.on nm [] _ (fun u no _ _ _ hu hf _=>by
  split
  ·exact hu
  ·rename_i hr
   refine⟨⟨hu.nmd.now,hu.nmd.safe,hu.nmd.pend⟩,hu.ok.data no d,hu.n0,hu.n,hu.now,hu.pend,by show (u.data.set no _).length≤_;rw[List.length_set];exact hu.data,hu.fails,hu.room,fun i=>?_⟩
   unfold Dsk.size
   dsimp only
   have hi:=hu.size i
   unfold Dsk.size at hi
   by_cases e:i=no
   ·subst e
    by_cases hl:i < u.data.length
    ·have hg:(u.data.set i (u.data.getD i []++d)).getD i []=u.data.getD i []++d:=by simp [List.getD,hl]
     rw[hg,bC]
     by_cases h0:d.length=0
     ·omega
     ·have h1:=aAP (aN hf)
      unfold Dsk.size at h1
      have h2:=hu.room.2
      have h3:¬ u.room < (u.used:Int)+d.length:=fun h3=>hr ⟨by omega,h3⟩
      omega
    ·rw[List.set_eq_of_length_le (by omega)]
     exact hi
   ·rw[show (u.data.set no (u.data.getD no []++d)).getD i []=u.data.getD i [] by simp [List.getD,List.getElem?_set_ne (fun h=>e h.symm)]]
    exact hi)
theorem Fit.syncNames (h:Fit k s):Fit (k+1) s.syncNames.1:=by
 have hb:=h.begin []
 unfold Dsk.syncNames
 cases hbe:s.begin [] with
 | mk s1 e =>
  rw[hbe]at hb
  dsimp only at hb ⊢
  split
  ·exact hb
  ·exact⟨⟨hb.nmd.now,hb.nmd.now,(fun _ h=>by cases h)⟩,hb.ok.synced,hb.n0,hb.n,hb.now,zF _,hb.data,hb.fails,hb.room,hb.size⟩
theorem Fit.create (h:Fit k s) (nm:ByteArray):Fit (k+1) (s.create nm).1:=by
 obtain⟨n,hn⟩:=s.begin_as [nm]
 have hb:=h.begin [nm]
 have hg:=s.begin_good [nm]
 unfold Dsk.create
 cases hbe:s.begin [nm] with
 | mk s1 e =>
  rw[hbe]at hb hn hg
  dsimp only at hb hn hg ⊢
  split
  ·exact hb
  ·rename_i he
   split
   ·exact hb
   ·have hl:(s1.data++[([]:List UInt8)]).length=s1.data.length+1:=by simp
    have h1:s1.data.length≤k:=by rw[hn];exact h.data
    have h2:s1.pend.length≤k:=by rw[hn];exact h.pend
    have h3:s1.now.length≤k:=by rw[hn];exact h.now
    refine Fit.alter (s:={ s1 with data:=s1.data++[[]],firm:=s1.firm++[0] }) ⟨⟨hb.nmd.now,hb.nmd.safe,hb.nmd.pend⟩,hb.ok.newFile,hb.n0,hb.n,hb.now,hb.pend,by show (s1.data++[([]:List UInt8)]).length≤_;rw[hl];omega,hb.fails,hb.room,fun i=>?_⟩ h2 h3 ?_ (by simpa [Chg.nmd] using hg (by omega))
    ·unfold Dsk.size
     dsimp only
     have:=hb.size i
     unfold Dsk.size at this
     by_cases hi:i < s1.data.length
     ·rw[show (s1.data++[([]:List UInt8)]).getD i []=s1.data.getD i [] by simp [List.getD,List.getElem?_append_left hi]]
      exact this
     ·have:(s1.data++[([]:List UInt8)]).getD i []=[]:=by
       rw[List.getD,List.getElem?_append_right (by omega)]
       cases h9:i - s1.data.length<;>simp
      rw[this]
      exact zF _
    ·show s1.data.length < (s1.data++[([]:List UInt8)]).length
     rw[hl]
     omega
end
end D
open Go.RowKit
def uY (w:World) (v:Value) (e:Ending) (w':World):Prop:=e=.returned v∧w=w'
theorem seven (n:Nat):n < 48∨(48≤n∧n≤57)∨(57 < n∧n < 65)∨(65≤n∧n≤90)∨(90 < n∧n < 97)∨(97≤n∧n≤122)∨122 < n:=by omega
theorem aKX {c:UInt8} (h:48≤c.toNat∧c.toNat≤57∨65≤c.toNat∧c.toNat≤90∨97≤c.toNat∧c.toNat≤122):T.aCD c=true:=by
 unfold T.aCD
 rcases h with h | h | h
 ·simp [h.1,h.2]
 ·simp [h.1,h.2]
 ·simp [h.1,h.2]
theorem aFG {c:UInt8} (h1:¬ (48≤c.toNat∧c.toNat≤57)) (h2:¬ (65≤c.toNat∧c.toNat≤90)) (h3:¬ (97≤c.toNat∧c.toNat≤122)):T.aCD c=T.others.contains c:=by
 unfold T.aCD
 have e1:(decide (48≤c.toNat)&&decide (c.toNat≤57))=false:=by simp;omega
 have e2:(decide (65≤c.toNat)&&decide (c.toNat≤90))=false:=by simp;omega
 have e3:(decide (97≤c.toNat)&&decide (c.toNat≤122))=false:=by simp;omega
 rw[e1,e2,e3]
 rfl
theorem gQ:∀ (l:List UInt8) (c:UInt8),(l.contains c=true∧0≤Lib.indexByte l c)∨(l.contains c=false∧Lib.indexByte l c < 0)
 | [],_=>.inr ⟨rfl,by simp [Lib.indexByte]⟩
 | b::l,c=>by
  have ih:=gQ l c
  by_cases h:b=c
  ·subst h
   left
   simp [Lib.indexByte]
  ·have h1:(b==c)=false:=by simpa using h
   have h2:(c==b)=false:=by simpa using Ne.symm h
   have hcc:(b::l).contains c=l.contains c:=by rw[List.contains_cons,h2,Bool.false_or]
   rw[hcc]
   unfold Lib.indexByte
   rw[h1]
   simp only[Bool.false_eq_true,if_false]
   rcases ih with ⟨i1,i2⟩ | ⟨i1,i2⟩
   ·left
    refine⟨i1,?_⟩
    split
    ·rename_i h3
     have:Lib.indexByte l c=-1:=by simpa using h3
     omega
    ·omega
   ·right
    refine⟨i1,?_⟩
    split
    ·omega
    ·rename_i h3
     have:¬ Lib.indexByte l c=-1:=by simpa using h3
     have lo:∀ (l:List UInt8),-1≤Lib.indexByte l c:=by
      intro l
      induction l with
      | nil=>simp [Lib.indexByte]
      | cons x l ih =>
       unfold Lib.indexByte
       split
       ·omega
       ·split
        ·omega
        ·omega
     have:=lo l
     omega
theorem aNW (c:UInt8):((c.toNat:Int).toNat).toUInt8=c:=by simp
theorem aIX (c:UInt8) (w:World):Calls Tryz.prog 204 #[.string ⟨#[33,35,36,37,38,39,42,43,45,46,94,95,124,126,96]⟩,.int .u8 c.toNat] w (uY w (.int .i64 (Lib.indexByte T.others c))):=by
 refine (Tryz.strings_IndexByte ⟨#[33,35,36,37,38,39,42,43,45,46,94,95,124,126,96]⟩ c.toNat w).mono ?_
 rintro e w' ⟨rfl,rfl⟩
 rw[aNW]
 exact⟨rfl,rfl⟩
theorem xW (c:UInt8) (w:World):Calls Tryz.prog 216 #[.int .u8 c.toNat] w (uY w (.bool (T.aCD c))):=by
 have HI:=aH (aIX c)
 have hc:=gQ T.others c
 have hc2:c.toNat < 256:=c.toNat_lt
 rcases seven c.toNat with h | ⟨h,h'⟩ | ⟨h,h'⟩ | ⟨h,h'⟩ | ⟨h,h'⟩ | ⟨h,h'⟩ | h
 case inr.inl | inr.inr.inr.inl | inr.inr.inr.inr.inr.inl =>
  rw[aKX (by omega)]
  clear hc HI
  go_enter Tryz.func216,Tryz.ntmps216
  go_wp2
  go_ret
  exact⟨rfl,rfl⟩
 all_goals
  rw[aFG (by omega) (by omega) (by omega)]
  generalize Lib.indexByte T.others c=i at *
  rcases hc with ⟨e1,e2⟩ | ⟨e1,e2⟩
  all_goals
   rw[e1]
   clear e1
   go_enter Tryz.func216,Tryz.ntmps216
   go_wp2_with fail
   refine (HI.out _).mono ?_
   rintro e w' ⟨rfl,rfl⟩
   go_wp2
   go_ret
   exact⟨aP (by first | (simp;done) | (simp;omega)),rfl⟩
theorem qY (p:UInt8→Bool) (l:List UInt8) (k:Nat) (h:k < l.length) (ha:(l.take k).all p=true) (hp:p l[k]=true):(l.take (k+1)).all p=true:=by
 rw[bI h,List.all_append,ha]
 simp [hp]
theorem aE6 (p:UInt8→Bool) (l:List UInt8) (k:Nat) (h:k < l.length) (hp:p l[k]=false):l.all p=false:=by
 rw[List.all_eq_false]
 exact⟨l[k],List.getElem_mem h,by simp [hp]⟩
theorem aKW {l:List UInt8} (h:l.all T.aCD=false):T.token l=false:=by unfold T.token;rw[h];rfl
theorem aHO {l:List UInt8} (h:l.all T.aCD=true):T.token l=decide (0 < l.length):=by
 unfold T.token;rw[h];cases l<;>simp
theorem aAE (s:ByteArray) (w:World) (hs:s.size≤1099511627776):Calls Tryz.prog 199 #[.string s] w (uY w (.bool (T.token (L s)))):=by
 have HZ:Hid ((L s).length=s.size):=(aQ s).symm
 go_enter Tryz.func199,Tryz.ntmps199
 go_wp2
 go_loop [3,6] (fun _ i=>∃ k:Nat,k≤s.size∧i=.int .i64 k∧((L s).take k).all T.aCD=true) (fun _ i=>s.size - (intOf i).toNat)
 case atStart=>exact⟨0,zF _,rfl,by simp⟩
 case round =>
  obtain⟨k,hk,rfl,ha⟩:=hrel
  have HAll:=aH ha
  clear ha
  by_cases hlt:k < s.size
  ·have hL:k < (L s).length:=by rw[HZ.out];exact hlt
   have HB:=aH (xW s[k])
   rcases tf (T.aCD ((L s)[k]'hL)) with h | h
   ·have HN:=aH (qY T.aCD (L s) k hL HAll.out h)
    have hb:T.aCD s[k]=true:=h
    rw[hb]at HB
    clear h hb
    go_wp2_with fail
    refine (HB.out _).mono ?_
    rintro e w' ⟨rfl,rfl⟩
    go_wp2
    go_round
    case rel=>exact⟨k+1,by omega,by go_num,HN.out⟩
    case measure=>simp [intOf];omega
   ·have HN:=aH (aKW (aE6 T.aCD (L s) k hL h))
    have hb:T.aCD s[k]=false:=h
    rw[hb]at HB
    clear h hb
    go_wp2_with fail
    refine (HB.out _).mono ?_
    rintro e w' ⟨rfl,rfl⟩
    go_wp2
    go_ret
    exact⟨aP HN.out.symm,rfl⟩
  ·have hks:k=s.size:=by omega
   have ha:=HAll.out
   rw[List.take_of_length_le (by rw[HZ.out];omega)]at ha
   have hT:=aHO ha
   rw[HZ.out]at hT
   have HT:=aH hT
   clear ha hT hks
   go_wp2
   go_ret
   exact⟨aP (by rw[HT.out]),rfl⟩
theorem aD5 (c:UInt8):(T.fQ c=true∧((c.toNat:Int)==9)=true∧c.toNat < 32)∨(T.fQ c=false∧((c.toNat:Int)==9)=false∧c.toNat < 32) ∨
  (T.fQ c=true∧((c.toNat:Int)==9)=false∧32≤c.toNat∧((c.toNat:Int)==127)=false)∨(T.fQ c=false∧((c.toNat:Int)==9)=false∧32≤c.toNat∧((c.toNat:Int)==127)=true):=by
 unfold T.fQ
 by_cases h1:c.toNat=9
 ·left;simp [h1]
 ·by_cases h2:32≤c.toNat
  ·by_cases h3:c.toNat=127
   ·right;right;right
    simp [h3]
   ·right;right;left
    refine⟨by simp [h2,h3],?_,h2,?_⟩
    ·simp;omega
    ·simp;omega
  ·right;left
   refine⟨by simp [h1];omega,?_,by omega⟩
   simp;omega
theorem aI5 {s:ByteArray} (h:(L s).all T.fQ=false):F.good s=false:=by unfold F.good;rw[h];rfl
theorem aLZ {s:ByteArray} (h:(L s).all T.fQ=true):F.good s=((B (T.trim (L s))).toList==s.toList):=by
 unfold F.good
 rw[h,Bool.true_and,eF]
 by_cases e:T.trim (L s)=L s
 ·rw[decide_eq_true e,decide_eq_true (by rw[e];exact B_L s)]
 ·rw[decide_eq_false e,decide_eq_false (fun h'=>e (by have:=congrArg L h';exact this))]
theorem aES (s:ByteArray) (w:World) (hs:s.size≤1099511627776):Calls Tryz.prog 200 #[.string s] w (pR w (F.good s)):=by
 have HZ:Hid ((L s).length=s.size):=(aQ s).symm
 have HTR:=aH (qK s w hs)
 go_enter Tryz.func200,Tryz.ntmps200
 go_wp2
 go_loop [3,4,7] (fun _ _ i=>∃ k:Nat,k≤s.size∧i=.int .i64 k∧((L s).take k).all T.fQ=true) (fun _ _ i=>s.size - (intOf i).toNat)
 case atStart=>exact⟨0,zF _,rfl,by simp⟩
 case round =>
  obtain⟨k,hk,rfl,ha⟩:=hrel
  have HAll:=aH ha
  clear ha
  by_cases hlt:k < s.size
  ·have hL:k < (L s).length:=by rw[HZ.out];exact hlt
   have hcell:s[k]=(L s)[k]'hL:=L_at s k hlt
   have hv:=aD5 ((L s)[k]'hL)
   rw[← hcell]at hv
   rcases hv with ⟨h,g1,g2⟩ | ⟨h,g1,g2⟩ | ⟨h,g1,g2,g3⟩ | ⟨h,g1,g2,g3⟩
   ·have g5:((s[k].toNat:Int) != 9)=false:=by rw[bne,g1];rfl
    have g6:decide ((s[k].toNat:Int) < 32)=true:=by first | (rw[decide_eq_true_eq];omega) | (rw[decide_eq_false_iff_not];omega)
    have HN:=aH (qY T.fQ (L s) k hL HAll.out h)
    clear h hcell
    go_wp2
    go_round
    case rel=>exact⟨k+1,by omega,by go_num,HN.out⟩
    case measure=>simp [intOf];omega
   ·have g5:((s[k].toNat:Int) != 9)=true:=by rw[bne,g1];rfl
    have g6:decide ((s[k].toNat:Int) < 32)=true:=by first | (rw[decide_eq_true_eq];omega) | (rw[decide_eq_false_iff_not];omega)
    have n1:¬ (s[k].toNat:Int)=9:=by simpa using g1
    have n2:(s[k].toNat:Int) < 32:=by omega
    have HN:=aH (aI5 (aE6 T.fQ (L s) k hL h))
    clear h hcell
    go_wp2
    go_ret
    exact⟨aP HN.out.symm,zB _ _⟩
   ·have g5:((s[k].toNat:Int) != 9)=true:=by rw[bne,g1];rfl
    have g6:decide ((s[k].toNat:Int) < 32)=false:=by first | (rw[decide_eq_true_eq];omega) | (rw[decide_eq_false_iff_not];omega)
    have n1:¬ (s[k].toNat:Int)=9:=by simpa using g1
    have n2:¬ (s[k].toNat:Int) < 32:=by omega
    have n3:¬ (s[k].toNat:Int)=127:=by simpa using g3
    have n5:(((s[k].toNat:Int) != 9)&&(decide ((s[k].toNat:Int) < 32)||((s[k].toNat:Int)==127)))=false:=by rw[g5,g6,g3];rfl
    have n6:¬ (((s[k].toNat:Int) != 9)=true∧((s[k].toNat:Int) < 32∨((s[k].toNat:Int)==127)=true)):=by rw[g3];rintro⟨_,h | h⟩<;>first | exact n2 h | cases h
    have HN:=aH (qY T.fQ (L s) k hL HAll.out h)
    clear h hcell
    go_wp2
    go_round
    case rel=>exact⟨k+1,by omega,by go_num,HN.out⟩
    case measure=>simp [intOf];omega
   ·have g5:((s[k].toNat:Int) != 9)=true:=by rw[bne,g1];rfl
    have g6:decide ((s[k].toNat:Int) < 32)=false:=by first | (rw[decide_eq_true_eq];omega) | (rw[decide_eq_false_iff_not];omega)
    have n1:¬ (s[k].toNat:Int)=9:=by simpa using g1
    have n2:¬ (s[k].toNat:Int) < 32:=by omega
    have n3:(s[k].toNat:Int)=127:=by simpa using g3
    have n5:(((s[k].toNat:Int) != 9)&&(decide ((s[k].toNat:Int) < 32)||((s[k].toNat:Int)==127)))=true:=by rw[g5,g6,g3];rfl
    have n6:((s[k].toNat:Int) != 9)=true∧((s[k].toNat:Int) < 32∨((s[k].toNat:Int)==127)=true):=⟨g5,.inr g3⟩
    have HN:=aH (aI5 (aE6 T.fQ (L s) k hL h))
    clear h hcell
    go_wp2
    ·go_ret
     exact⟨aP HN.out.symm,zB _ _⟩
    ·exfalso
     have hh:((s[k].toNat:Int) != 9)=false∨(32:Int)≤(s[k].toNat:Int)∧((s[k].toNat:Int)==127)=false:=by assumption
     rcases hh with h | ⟨_,h⟩
     ·rw[g5]at h;cases h
     ·rw[g3]at h;cases h
  ·have hks:k=s.size:=by omega
   have ha:=HAll.out
   rw[List.take_of_length_le (by rw[HZ.out];omega)]at ha
   have HT:=aH (aLZ ha)
   clear ha hks
   go_wp2_with fail
   refine HTR.out.mono ?_
   rintro e w1 ⟨rfl,hb1⟩
   go_wp2
   go_ret
   exact⟨aP HT.out.symm,hb1⟩
end Go.Proofs.YthjeglnkgdpijaaGreatDoor
