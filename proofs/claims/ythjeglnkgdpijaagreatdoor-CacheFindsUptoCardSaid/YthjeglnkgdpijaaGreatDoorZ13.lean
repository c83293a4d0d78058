/- The walk of the decoder's readTail. The walks of the decoder's step and of chunk.Decode. The one body that the laws of chunk decode first; what a body's reading answers is within bounds. The walk of the disk's on (a step about a file that is there), over the look-up of a name. The plain disk's steps keep its form; what they do where nothing fails. How a message's body ends, as plain functions on its fields. The walks of frame.length, frame.rule, frame.OfRequest, and of the document's number, rule and OfRequest. Conditions: as each theorem states them. -/
import Derived.Test.YthjeglnkgdpijaaGreatDoorZ20
set_option maxHeartbeats 2000000
namespace Go.Proofs.YthjeglnkgdpijaaGreatDoor
open Go.RowKit
def aR7 (w u:World) (fs:List FD) (tv:Value):Prop:=∃ TA tc,tv=.slice TA fs.length tc∧Row u (w.heap.size+1) 60 2 TA fs.length tc (aJ fs)
theorem aR7.nil (w u:World):aR7 w u [] (.slice none 0 0):=⟨none,0,rfl,Row.none_ _ _ _ _⟩
namespace C
def fin (data:List UInt8) (a:Nat) (l:List UInt8):CD:=if tailE l≠0∨aGE l=0 then .bad (tailE l) else ⟨data,aGF l,a+aGE l,0⟩
def dat (data:List UInt8) (z a:Nat) (l:List UInt8):CD:=if l.length < z+2 then .bad 0 else if P.aFX.isPrefixOf (l.drop z)=false then .bad 70 else dec (data++l.take z) (a+z+2) (l.drop (z+2))
end C
def aSE (w:World) (r:C.CD) (e:Ending) (w':World):Prop :=
 ∃ A c TA tc,e=.returned (.tuple #[.slice A r.d.length c,.slice TA r.f.length tc,.int .i64 r.n,.int .i64 r.e])∧Row w' w.heap.size 5 1 A r.d.length c (aB r.d)∧Row w' w.heap.size 60 2 TA r.f.length tc (aJ r.f)∧Below w.heap.size w w'
theorem aSE.bad {w w':World} {r:C.CD} {code:Int} (hb:Below w.heap.size w w') (h:r=.bad code):aSE w r (.returned (.tuple #[.slice none 0 0,.slice none 0 0,.int .i64 0,.int .i64 code])) w':=by
 subst h
 exact⟨none,0,none,0,rfl,Row.none_ _ _ _ _,Row.none_ _ _ _ _,hb⟩
open Go Go.Maps
namespace D
def lG (fa:Nat→Nat):Option Nat→Value
 | some no=>.pointer (some ⟨fa no,0,none⟩)
 | none=>.pointer none
end D
theorem dA:Tryz.prog.underlying 9=some .string:=by kernel_rfl
theorem xP:Tryz.prog.underlying 91=some (.map 9 98):=by kernel_rfl
theorem aLM (w:World):(zeroValue 98).run Tryz.prog w=.ok (.pointer none) w:=by kernel_rfl
theorem jU (nm:ByteArray) (hs:nm.size≤maxLen):keyOf Tryz.prog 9 (.string nm)=some (D.key nm):=WideMaps.keyOf_string_mk dA hs
section
variable {w:World} {b n:Nat} {fa:Nat→Nat} {l:D.NM}
theorem kT (h:w.ownsMap Tryz.prog 9 D.jA b n (D.datum fa l)) (nm:ByteArray) (hs:nm.size≤maxLen) :
  (Instr.lookup 91 (.map (some b)) (.string nm) false).run Tryz.prog w=.ok (D.lG fa (D.find l nm)) w:=by
 obtain⟨v,ps,hr,hv⟩:=h.lookup (string_keyed dA) xP (aLM w) (zd:=.nil) (zp:=[]) rfl (jU nm hs)
 rw[hr]
 rw[D.lC]at hv
 cases hf:D.find l nm with
 | none=>rw[hf]at hv;rw[D.aE9 hv];rfl
 | some no=>rw[hf]at hv;rw[D.zG hv];rfl
theorem fF (h:w.ownsMap Tryz.prog 9 D.jA b n (D.datum fa l)):w.ownsMap Tryz.prog 9 D.jA b l.length (D.datum fa l):=by
 obtain⟨es,cl,hb,F,hs,hD⟩:=h
 refine⟨es,cl,hb,F,?_,hD⟩
 have h1:=congrArg Maps.size hD
 unfold D.datum at h1
 rw[Maps.size_eq,Maps.size_eq,length_sorted]at h1
 simp at h1
 omega
end
theorem on_any (B:Nat) (M:DM) (s:D.Dsk) (nm:ByteArray) (A:Option Addr) (n c B0:Nat) (more:List ByteArray) (w:World) (hD:∀ u,w.grownBy u (ownB A c)→dD B M s u) (hsn:0≤s.n∧s.n≤1099511627776) (hfl:s.fails.length≤1099511627776) (hn:n≤1000) (hl:more.length=n) (hs:NSml (more++[nm]))
  (hrow:Row w B0 9 1 A n c (aF more)) (hB0:B0≤w.heap.size) :
  Calls Tryz.prog 112 #[.pointer (some ⟨M.d,0,none⟩),.string nm,.slice A n c] w (fun e w'=>e=.returned (.tuple #[D.lG M.fa (s.look nm more).2.2,.int .i64 (s.look nm more).2.1])∧∃ u,w.grownBy u (ownB A c)∧dD B M (s.look nm more).1 w'∧Stepped M s u M (s.look nm more).1 w'):=by
 have HD:=aH hD
 have HR:=aH hrow
 have hnm:nm.size≤1099511627776:=hs nm (by simp)
 have HLN:Hid ((more++[nm]).length=n+1):=aH (by simp [hl])
 have HBG:=aH (fun (A':Option Addr) (c':Nat) (u:World) (h:dD B M s u) (hx:Rd u A' (n+1) 1 (aF (more++[nm]))) (hA)=>vN B M s A' (n+1) c' (more++[nm]) u h hsn hfl (by omega) HLN.out hs hx hA)
 obtain⟨G,hG⟩:∃ G,s.look nm more=G:=⟨_,rfl⟩
 obtain⟨S1,hS1⟩:∃ S1,s.begin (more++[nm])=S1:=⟨_,rfl⟩
 have HG:Hid (G=if S1.2≠0 then (S1.1,S1.2,none) else match D.find S1.1.now nm with | none=>(S1.1,90,none) | some no=>(S1.1,0,some no)):=aH (by rw[← hG,← hS1];rfl)
 rw[hG]
 rw[hS1]at HBG
 clear hG hS1 hD hrow hl hs hsn hfl HLN
 go_enter Tryz.func112,Tryz.ntmps112
 go_wp2_with (at_builtin;refine aLK _ rfl _ _ rfl B0 A n c more rfl (HR.out.alloc _) _ 1 1 [nm] rfl (aMJ w nm) (by omega) (by simp;omega) ?_;intro A1 c1 w2 hr2 ha2)
 have HD2:Hid (w.grownBy w2 (ownB A c)):=aH (by
  have h1:=World.grownBy_alloc w (.cells #[.string nm] 9) (ownB A c)
  exact h1.trans ha2.grown)
 have HDu:=aH (HD.out w2 HD2.out)
 have hA1:0 < n+1→∀ a,A1=some a→a.block≠M.d:=by
  intro _ a ha
  have hc:=hr2.cap.1
  have ht:=hr2.tag (k:=a.block) (by unfold ownB;rw[if_neg (by omega),ha];rfl)
  exact ht.ne HDu.out.blk.tag (by decide)
 have HC:=aH (HBG.out A1 c1 w2 HDu.out hr2.rd hA1)
 clear hA1 hr2 ha2 HR HBG HD
 go_wp2_with fail
 refine HC.out.mono ?_
 rintro e w3 ⟨rfl,hd3,hs3⟩
 have HD3:=aH hd3
 have HS3:=aH hs3
 clear hd3 hs3 HC HDu
 obtain⟨s1,z⟩:=S1
 dsimp only at *
 by_cases hz:z=0
 ·subst hz
  rw[if_neg (by simp)]at HG
  obtain⟨y0,y1,y2,y3,y4,y5,y6,y7⟩:=HD3.out.cells
  have hlk:=kT HD3.out.now nm (by simp only[maxLen];omega)
  clear y1 y2 y3 y4 y5 y6 y7
  cases hf:D.find s1.now nm with
  | none =>
   rw[hf]at hlk HG
   dsimp only[D.lG]at hlk HG
   go_wp2
   go_ret2
   exact⟨by rw[HG.out];rfl,w2,HD2.out,by rw[HG.out];exact HD3.out,by rw[HG.out];exact HS3.out⟩
  | some no =>
   rw[hf]at hlk HG
   dsimp only[D.lG]at hlk HG
   go_wp2
   go_ret2
   exact⟨by rw[HG.out];rfl,w2,HD2.out,by rw[HG.out];exact HD3.out,by rw[HG.out];exact HS3.out⟩
 ·have hzb:(z==0)=false:=beq_eq_false_iff_ne.2 hz
  rw[if_pos hz]at HG
  go_wp2
  go_ret2
  exact⟨by rw[HG.out];rfl,w2,HD2.out,by rw[HG.out];exact HD3.out,by rw[HG.out];exact HS3.out⟩
end Go.Proofs.YthjeglnkgdpijaaGreatDoor
namespace Go.Proofs.YthjeglnkgdpijaaGreatDoor
namespace D
theorem aG7 (l:NM) (nm:ByteArray) (no:Nat):(ins l nm no).length=l.length+1:=by
 induction l with
 | nil=>rfl
 | cons p r ih =>
  unfold ins
  split
  ·rfl
  ·rw[List.length_cons,ih,List.length_cons]
theorem fG (l:NM) (nm:ByteArray):(del l nm).length≤l.length:=List.length_filter_le _ _
theorem eH (l:NM) (nm:ByteArray) (no:Nat):(put l nm no).length≤l.length+1:=by
 unfold put
 rw[aG7]
 have:=fG l nm
 omega
theorem aG8 (l:NM) (c:Chg):(c.app l).length≤l.length+1:=by
 cases c with
 | put nm no=>exact eH l nm no
 | del nm=>exact Nat.le_succ_of_le (fG l nm)
 | ren a b no =>
  have h1:=eH (del l a) b no
  have h2:=fG l a
  show (put (del l a) b no).length≤_
  omega
theorem aPY {l:NM} {c:Chg} {p:ByteArray × Nat} {n:Nat} (hp:p∈c.app l) (hl:∀ p∈l,p.2 < n) (hc:c.within n):p.2 < n:=by
 cases c with
 | put nm no =>
  rcases aX.1 hp with rfl | h
  ·exact hc
  ·exact hl p h.1
 | del nm=>exact hl p (aW.1 hp).1
 | ren a b no =>
  rcases aX.1 hp with rfl | h
  ·exact hc
  ·exact hl p (aW.1 h.1).1
theorem Chg.within.mono {c:Chg} {n m:Nat} (h:c.within n) (hm:n≤m):c.within m:=by
 cases c with
 | put nm no=>exact Nat.lt_of_lt_of_le h hm
 | del nm=>trivial
 | ren a b no=>exact Nat.lt_of_lt_of_le h hm
theorem Dsk.Ok.alter {s:Dsk} (h:s.Ok) {c:Chg} (hc:c.within s.data.length):(s.alter c).Ok :=
 ⟨h.lens,aQ5 h.upN c,h.upS,fun _ hp=>aPY hp h.inN hc,h.inS,fun d hd=>by
  rcases List.mem_append.1 hd with hd | hd
  ·exact h.inP d hd
  ·rw[List.mem_singleton.1 hd];exact hc,by
  show c.app s.now=(s.pend++[c]).foldl Chg.app s.safe
  rw[List.foldl_append,← h.fold]
  rfl,h.firms⟩
theorem Dsk.Ok.count {s:Dsk} (h:s.Ok) (n:Int):({ s with n:=n }:Dsk).Ok:=⟨h.lens,h.upN,h.upS,h.inN,h.inS,h.inP,h.fold,h.firms⟩
theorem Dsk.Ok.newFile {s:Dsk} (h:s.Ok):({ s with data:=s.data++[[]],firm:=s.firm++[0] }:Dsk).Ok:=by
 have hl:(s.data++[([]:List UInt8)]).length=s.data.length+1:=by simp
 refine⟨by simp [h.lens],h.upN,h.upS,fun p hp=>?_,fun p hp=>?_,fun c hc=>(h.inP c hc).mono ?_,h.fold,fun no hn=>?_⟩
 ·show _ < (s.data++[([]:List UInt8)]).length
  rw[hl];have:=h.inN p hp;omega
 ·show _ < (s.data++[([]:List UInt8)]).length
  rw[hl];have:=h.inS p hp;omega
 ·show _≤(s.data++[([]:List UInt8)]).length
  rw[hl];omega
 ·change no < (s.data++[([]:List UInt8)]).length at hn
  rw[hl]at hn
  unfold Dsk.size
  dsimp only
  by_cases e:no=s.data.length
  ·subst e
   have:(s.firm++[0]).getD s.data.length 0=0:=by simp [List.getD,← h.lens]
   rw[this]
   exact zF _
  ·have hi:no < s.data.length:=by omega
   have h1:(s.data++[([]:List UInt8)]).getD no []=s.data.getD no []:=by simp [List.getD,List.getElem?_append_left hi]
   have h2:(s.firm++[0]).getD no 0=s.firm.getD no 0:=by simp [List.getD,List.getElem?_append_left (show no < s.firm.length by rw[h.lens];exact hi)]
   rw[h1,h2]
   exact h.firms no hi
theorem Dsk.Ok.data {s:Dsk} (h:s.Ok) (no:Nat) (d:List UInt8):({ s with data:=s.data.set no (s.data.getD no []++d) }:Dsk).Ok:=by
 refine⟨by simp [h.lens],h.upN,h.upS,fun p hp=>by have:=h.inN p hp;simpa using this,fun p hp=>by have:=h.inS p hp;simpa using this,fun c hc=>by have:=h.inP c hc;simpa using this,h.fold,fun i hi=>?_⟩
 have hi2:i < s.data.length:=by simpa using hi
 have:=h.firms i hi2
 unfold Dsk.size at this ⊢
 dsimp only
 by_cases e:i=no
 ·subst e
  simp [List.getD,hi2]at this ⊢
  omega
 ·rw[show (s.data.set no (s.data.getD no []++d)).getD i []=s.data.getD i [] by simp [List.getD,List.getElem?_set_ne (fun h=>e h.symm)]]
  exact this
theorem Dsk.Ok.firm {s:Dsk} (h:s.Ok) (no:Nat):({ s with firm:=s.firm.set no (s.size no) }:Dsk).Ok:=by
 refine⟨by simp [h.lens],h.upN,h.upS,h.inN,h.inS,h.inP,h.fold,fun i hi=>?_⟩
 have:=h.firms i hi
 show (s.firm.set no (s.size no)).getD i 0≤s.size i
 by_cases e:i=no
 ·subst e
  by_cases hl:i < s.firm.length
  ·simp [List.getD,hl]
  ·simp [List.getD,hl]
 ·rw[show (s.firm.set no (s.size no)).getD i 0=s.firm.getD i 0 by simp [List.getD,List.getElem?_set_ne (fun h=>e h.symm)]]
  exact this
theorem Dsk.Ok.synced {s:Dsk} (h:s.Ok):({ s with safe:=s.now,pend:=[] }:Dsk).Ok :=
 ⟨h.lens,h.upN,h.upN,h.inN,h.inN,(fun _ hc=>by cases hc),rfl,h.firms⟩
def Chg.nmd:Chg→Bool
 | .put nm _=>good nm
 | .del nm=>good nm
 | .ren a b _=>good a&&good b
structure Dsk.Nmd (s:Dsk):Prop where
 now:∀ p∈s.now,good p.1=true
 safe:∀ p∈s.safe,good p.1=true
 pend:∀ c∈s.pend,c.nmd=true
theorem aPV {l:NM} {c:Chg} (hl:∀ p∈l,good p.1=true) (hc:c.nmd=true):∀ p∈c.app l,good p.1=true:=by
 intro p hp
 cases c with
 | put nm no =>
  rcases aX.1 hp with rfl | hp
  ·exact hc
  ·exact hl p hp.1
 | del nm=>exact hl p (aW.1 hp).1
 | ren a b no =>
  rcases aX.1 hp with rfl | hp
  ·exact (Bool.and_eq_true _ _ ▸ hc:good a=true∧good b=true).2
  ·exact hl p (aW.1 hp.1).1
theorem Dsk.Nmd.alter {s:Dsk} (h:s.Nmd) {c:Chg} (hc:c.nmd=true):(s.alter c).Nmd :=
 ⟨aPV h.now hc,h.safe,fun x hx=>by
  rcases List.mem_append.1 hx with hx | hx
  ·exact h.pend x hx
  ·rw[List.mem_singleton.1 hx];exact hc⟩
structure Fit (k:Nat) (s:Dsk):Prop where
 nmd:s.Nmd
 ok:s.Ok
 n0:0≤s.n
 n:s.n≤k
 now:s.now.length≤k
 pend:s.pend.length≤k
 data:s.data.length≤k
 fails:s.fails.length≤1099511627776
 room:0≤s.room∧s.room≤1073741824
 size:∀ no,s.size no≤1073741824
theorem Fit.mono {k m:Nat} {s:Dsk} (h:Fit k s) (hm:k≤m):Fit m s :=
 ⟨h.nmd,h.ok,h.n0,by have:=h.n;omega,bD h.now hm,bD h.pend hm,bD h.data hm,h.fails,h.room,h.size⟩
theorem Fit.sml {k:Nat} {s:Dsk} (h:Fit k s) (hk:k≤268435456):s.Sml :=
 ⟨h.n0,by have:=h.n;omega,h.fails,by have:=h.now;omega,by have:=h.pend;omega,by have:=h.data;omega,fun no=>by have:=h.size no;omega⟩
theorem aA3 {f:ByteArray × Nat→Nat} {Z:Nat}:∀ l:NM,(∀ p,f p≤Z)→(l.map f).sum≤l.length * Z
 | [],_=>by simp
 | p::r,h=>by
  have h1:=aA3 r h
  have h2:=h p
  rw[List.map_cons,List.sum_cons,List.length_cons,Nat.succ_mul]
  omega
theorem Fit.used {k:Nat} {s:Dsk} (h:Fit k s) (hk:k≤268435456):s.used≤1152921504606846976:=by
 have h1:s.used≤s.now.length * 1073741824:=aA3 s.now (fun p=>h.size p.2)
 have h2:=h.now
 have h3:s.now.length * 1073741824≤268435456 * 1073741824:=Nat.mul_le_mul_right _ (by omega)
 omega
theorem aA8 {s:Dsk} {nm:ByteArray} {no:Nat} (h:(nm,no)∈s.now):s.size no≤s.used:=by
 unfold Dsk.used
 generalize s.now=l at *
 induction l with
 | nil=>cases h
 | cons p r ih =>
  rw[List.map_cons,List.sum_cons]
  rcases List.mem_cons.1 h with rfl | h
  ·exact Nat.le_add_right _ _
  ·have:=ih h
   omega
section
variable {k:Nat} {s:Dsk}
theorem Fit.count (h:Fit k s):Fit (k+1) { s with n:=s.n+1 } :=
 ⟨⟨h.nmd.now,h.nmd.safe,h.nmd.pend⟩,h.ok.count _,by have:=h.n0;show 0≤s.n+1;omega,by have:=h.n;show s.n+1≤_;omega,Nat.le_succ_of_le h.now,Nat.le_succ_of_le h.pend,Nat.le_succ_of_le h.data,h.fails,h.room,h.size⟩
theorem Fit.begin (h:Fit k s) (ns:List ByteArray):Fit (k+1) (s.begin ns).1:=by
 unfold Dsk.begin
 split
 ·exact h.mono (Nat.le_succ k)
 ·exact h.count
theorem Dsk.begin_good (s:Dsk) (ns:List ByteArray):(s.begin ns).2=0→ns.all good=true:=by
 unfold Dsk.begin
 split
 ·intro h;cases h
 ·dsimp only
  split
  ·intro h;cases h
  ·split
   ·intro _;assumption
   ·intro h;cases h
theorem Fit.on (h:Fit k s) (nm:ByteArray) (more:List ByteArray) (f:Dsk→Nat→Dsk × Int) (hf:∀ (u:Dsk) (no:Nat),u.now=s.now→u.pend=s.pend→u.data=s.data→Fit (k+1) u→find u.now nm=some no→(more++[nm]).all good=true→Fit (k+1) (f u no).1):Fit (k+1) (s.on nm more f).1:=by
 have hg:=s.begin_good (more++[nm])
 obtain⟨n,hn⟩:=s.begin_as (more++[nm])
 have hb:=h.begin (more++[nm])
 unfold Dsk.on
 cases hbe:s.begin (more++[nm]) with
 | mk s1 e =>
  rw[hbe]at hn hb hg
  dsimp only at hn hb hg ⊢
  split
  ·exact hb
  ·rename_i he
   cases hfd:find s1.now nm with
   | none=>exact hb
   | some no=>exact hf s1 no (by rw[hn]) (by rw[hn]) (by rw[hn]) hb hfd (hg (by omega))
theorem Fit.alter {c:Chg} (hu:Fit (k+1) s) (hp:s.pend.length≤k) (hn:s.now.length≤k) (hc:c.within s.data.length) (hm:c.nmd=true):Fit (k+1) (s.alter c) :=
 ⟨hu.nmd.alter hm,hu.ok.alter hc,hu.n0,hu.n,by have:=aG8 s.now c;show (c.app s.now).length≤_;omega,by show (s.pend++[c]).length≤_;rw[bC];simp;exact hp,hu.data,hu.fails,hu.room,hu.size⟩
theorem Fit.remove (h:Fit k s) (nm:ByteArray):Fit (k+1) (s.remove nm).1 :=
 h.on nm [] _ (fun u no h1 h2 _ hu _ hg=>hu.alter (by rw[h2];exact h.pend) (by rw[h1];exact h.now) trivial (by simpa [Chg.nmd] using hg))
theorem Fit.rename (h:Fit k s) (a b:ByteArray):Fit (k+1) (s.rename a b).1 :=
 h.on a [b] _ (fun u no h1 h2 h3 hu hf hg=>by
  split
  ·exact hu
  ·exact hu.alter (by rw[h2];exact h.pend) (by rw[h1];exact h.now) (hu.ok.inN _ (aI hf)) (by simp [Chg.nmd]at hg ⊢;exact⟨hg.2,hg.1⟩))
theorem Fit.sync (h:Fit k s) (nm:ByteArray):Fit (k+1) (s.sync nm).1 :=
 h.on nm [] _ (fun _ no _ _ _ hu _ _=>⟨⟨hu.nmd.now,hu.nmd.safe,hu.nmd.pend⟩,hu.ok.firm no,hu.n0,hu.n,hu.now,hu.pend,hu.data,hu.fails,hu.room,hu.size⟩)
theorem Fit.append (h:Fit k s) (nm:ByteArray) (d:List UInt8):Fit (k+1) (s.append nm d).1 :=
 h.on nm [] _ (fun u no _ _ _ hu hf _=>by
  split
  ·exact hu
  ·rename_i hr
   refine⟨⟨hu.nmd.now,hu.nmd.safe,hu.nmd.pend⟩,hu.ok.data no d,hu.n0,hu.n,hu.now,hu.pend,by show (u.data.set no _).length≤_;rw[List.length_set];exact hu.data,hu.fails,hu.room,fun i=>?_⟩
   unfold Dsk.size
   dsimp only
   have hi:=hu.size i
   unfold Dsk.size at hi
   by_cases e:i=no
   ·subst e
    by_cases hl:i < u.data.length
    ·have hg:(u.data.set i (u.data.getD i []++d)).getD i []=u.data.getD i []++d:=by simp [List.getD,hl]
     rw[hg,bC]
     by_cases h0:d.length=0
     ·omega
     ·have h1:=aA8 (aI hf)
      unfold Dsk.size at h1
      have h2:=hu.room.2
      have h3:¬ u.room < (u.used:Int)+d.length:=fun h3=>hr ⟨by omega,h3⟩
      omega
    ·rw[List.set_eq_of_length_le (by omega)]
     exact hi
   ·rw[show (u.data.set no (u.data.getD no []++d)).getD i []=u.data.getD i [] by simp [List.getD,List.getElem?_set_ne (fun h=>e h.symm)]]
    exact hi)
theorem Fit.syncNames (h:Fit k s):Fit (k+1) s.syncNames.1:=by
 have hb:=h.begin []
 unfold Dsk.syncNames
 cases hbe:s.begin [] with
 | mk s1 e =>
  rw[hbe]at hb
  dsimp only at hb ⊢
  split
  ·exact hb
  ·exact⟨⟨hb.nmd.now,hb.nmd.now,(fun _ h=>by cases h)⟩,hb.ok.synced,hb.n0,hb.n,hb.now,zF _,hb.data,hb.fails,hb.room,hb.size⟩
theorem Fit.create (h:Fit k s) (nm:ByteArray):Fit (k+1) (s.create nm).1:=by
 obtain⟨n,hn⟩:=s.begin_as [nm]
 have hb:=h.begin [nm]
 have hg:=s.begin_good [nm]
 unfold Dsk.create
 cases hbe:s.begin [nm] with
 | mk s1 e =>
  rw[hbe]at hb hn hg
  dsimp only at hb hn hg ⊢
  split
  ·exact hb
  ·rename_i he
   split
   ·exact hb
   ·have hl:(s1.data++[([]:List UInt8)]).length=s1.data.length+1:=by simp
    have h1:s1.data.length≤k:=by rw[hn];exact h.data
    have h2:s1.pend.length≤k:=by rw[hn];exact h.pend
    have h3:s1.now.length≤k:=by rw[hn];exact h.now
    refine Fit.alter (s:={ s1 with data:=s1.data++[[]],firm:=s1.firm++[0] }) ⟨⟨hb.nmd.now,hb.nmd.safe,hb.nmd.pend⟩,hb.ok.newFile,hb.n0,hb.n,hb.now,hb.pend,by show (s1.data++[([]:List UInt8)]).length≤_;rw[hl];omega,hb.fails,hb.room,fun i=>?_⟩ h2 h3 ?_ (by simpa [Chg.nmd] using hg (by omega))
    ·unfold Dsk.size
     dsimp only
     have:=hb.size i
     unfold Dsk.size at this
     by_cases hi:i < s1.data.length
     ·rw[show (s1.data++[([]:List UInt8)]).getD i []=s1.data.getD i [] by simp [List.getD,List.getElem?_append_left hi]]
      exact this
     ·have:(s1.data++[([]:List UInt8)]).getD i []=[]:=by
       rw[List.getD,List.getElem?_append_right (by omega)]
       cases h9:i - s1.data.length<;>simp
      rw[this]
      exact zF _
    ·show s1.data.length < (s1.data++[([]:List UInt8)]).length
     rw[hl]
     omega
end
end D
namespace F
def teN:ByteArray:=⟨#[84,114,97,110,115,102,101,114,45,69,110,99,111,100,105,110,103]⟩
def clN:ByteArray:=⟨#[67,111,110,116,101,110,116,45,76,101,110,103,116,104]⟩
def chW:ByteArray:=⟨#[99,104,117,110,107,101,100]⟩
def num (s:ByteArray):Int:=if s.size≤18 then (match Lib.decNat (L s) with | some v=>(v:Int) | none=>-1) else -1
theorem dig_val (c:UInt8):P.dig c=true↔∃ d,Lib.digitVal c=some d:=by
 unfold P.dig Lib.digitVal
 rw[Bool.and_eq_true,decide_eq_true_eq,decide_eq_true_eq]
 constructor
 ·intro h;exact⟨_,if_pos h⟩
 ·rintro⟨d,h⟩
  split at h
  ·rename_i h1;exact h1
  ·cases h
def els (vs:List ByteArray):List ByteArray:=vs.flatMap list
def lensB (l:List ByteArray):Bool:=l.any fun y=>decide (num y < 0∨num y≠num (l.headD ⟨#[]⟩))
def lens (l:List ByteArray):Int × Int:=if l=[]∨lensB l=true then (0,60) else if 65536 < num (l.headD ⟨#[]⟩) then (0,71) else (num (l.headD ⟨#[]⟩),0)
def Seen (D:List ByteArray) (z:Int):Prop:=(D=[]∧z=-1)∨(D≠[]∧0≤z∧∀ x∈D,num x=z)
theorem Seen.head {D r:List ByteArray} {z:Int} (h:Seen D z) (h0:0≤z):num ((D++r).headD ⟨#[]⟩)=z:=by
 rcases h with ⟨rfl,h⟩ | ⟨h1,_,h2⟩
 ·omega
 ·cases D with
  | nil=>exact absurd rfl h1
  | cons x t=>exact h2 x (by simp)
theorem Seen.next {D:List ByteArray} {x:ByteArray} {z:Int} (hs:Seen D z) (h:0≤num x) (he:0≤z→z=num x):Seen (D++[x]) (num x):=by
 refine .inr ⟨by simp,h,fun y hy=>?_⟩
 rcases List.mem_append.1 hy with hy | hy
 ·rcases hs with ⟨rfl,_⟩ | ⟨_,h0,h2⟩
  ·cases hy
  ·rw[h2 y hy,he h0]
 ·simp only[List.mem_cons,List.mem_nil_iff,or_false]at hy
  rw[hy]
theorem Seen.le {D:List ByteArray} {z:Int} (h:Seen D z):-1≤z:=by
 rcases h with ⟨_,h⟩ | ⟨_,h,_⟩<;>omega
structure FR where
 k:Int
 n:Int
 e:Int
def frame (m:Int) (fs:List FD) (other:Int):FR :=
 if values fs teN≠[]∧values fs clN≠[] then ⟨0,0,61⟩
 else if values fs teN≠[] then (if m=0∨tokens fs teN≠[chW] then ⟨0,0,62⟩ else ⟨2,0,0⟩)
 else if values fs clN=[] then ⟨other,0,0⟩
 else if (lens (els (values fs clN))).2≠0 then ⟨0,0,(lens (els (values fs clN))).2⟩
 else ⟨1,(lens (els (values fs clN))).1,0⟩
end F
end Go.Proofs.YthjeglnkgdpijaaGreatDoor
