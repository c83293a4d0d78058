/- The walk of the disk's begin: a step is counted, and its names are looked at (printed by gen/disk1.py). Conditions: names of at most 2^40 bytes, at most 2^40 steps. The plain disk's steps keep its form; what they do where nothing fails. No program here. -/
import Derived.Test.YtkempjcphpnocaaGreatDoorZ12
namespace Go.Proofs.YtkempjcphpnocaaGreatDoor
open Go Go.RowKit Go.Maps
theorem Rd.farD {w:World} {A:Option Addr} {n size b:Nat} {xs:List Value} (h:Rd w A n size xs) (ha:0 < n→∀ a,A=some a→a.block≠b) (i:Nat) (x:Value):Rd (w.setCell ⟨b,i,none⟩ x) A n size xs :=
 ⟨h.1,fun hn=>by
  obtain⟨b',o,e,hlt,hc⟩:=h.2 hn
  have hne:b'≠b:=ha hn _ e
  exact⟨b',o,e,by simpa [World.setCell] using hlt,fun j u hu=>(World.cell?_setCell_far _ _ _ _ (fun e=>hne e.symm)).trans (hc j u hu)⟩⟩
def NSml (l:List ByteArray):Prop:=∀ s∈l,s.size≤1099511627776
set_option maxHeartbeats 1000000 in
theorem badName_any (s:ByteArray) (w:World) (hs:s.size≤1099511627776):Calls Tryz.prog 118 #[.string s] w (RetB w (!D.good s)):=by
 have HG:=Lib.hid (goodName_any s w hs)
 go_enter Tryz.func118,Tryz.ntmps118
 go_wp2_with fail
 refine HG.out.mono ?_
 rintro e w1 ⟨rfl,hb1⟩
 go_wp2
 go_ret
 exact⟨rfl,hb1⟩
set_option maxHeartbeats 1000000 in
theorem indexBad_any (A:Option Addr) (n c:Nat) (ns:List ByteArray) (w:World) (hn:n≤1099511627776) (hl:ns.length=n) (hs:NSml ns) (hx:Rd w A n 1 (scells ns)) :
  Calls Tryz.prog 146 #[.slice A n c,.func (.func 118) #[] #[]] w (fun e w'=>∃ z:Int,e=.returned (.int .i64 z)∧Below w.heap.size w w'∧(0≤z↔ns.all D.good=false)):=by
 have HX:=Lib.hid hx
 have HL:=Lib.hid hl
 have HS:=Lib.hid hs
 clear hx hl hs
 go_enter Tryz.func146,Tryz.ntmps146
 go_wp2
 go_loopw [8] (fun i wr=>∃ k:Nat,k≤n∧i=.int .i64 k∧Below w.heap.size w wr∧(ns.take k).all D.good=true) (fun i _=>n - (intOf i).toNat)
 case atStart=>exact⟨0,Nat.zero_le _,rfl,Below.refl _ _,by simp⟩
 case round =>
  obtain⟨k,hk,rfl,hbel,hno⟩:=hrel
  have HNO:=Lib.hid hno
  have HBE:=Lib.hid hbel
  clear hno hbel
  by_cases hlt:k < n
  ·have hkl:k < ns.length:=by rw[HL.out];exact hlt
   obtain⟨b,o,rfl,hb,hc⟩:=(HX.out.below HBE.out).str hlt HL.out
   have HTK:=Lib.hid (List.take_succ_eq_append_getElem hkl)
   have HMEM:=Lib.hid (List.getElem_mem hkl)
   have hsz:=HS.out _ (List.getElem_mem hkl)
   generalize ns[k]'hkl=y at *
   have HC:=Lib.hid (badName_any y wr hsz)
   clear hkl hsz
   cases hg:D.good y
   ·rw[hg]at HC
    have HG:=Lib.hid hg
    clear hg
    go_wp2_with fail
    refine HC.out.mono ?_
    rintro e w1 ⟨rfl,hb1⟩
    go_wp2
    go_ret
    refine⟨k,rfl,below_then HBE.out.size HBE.out hb1,fun _=>?_,fun _=>by omega⟩
    rw[Bool.eq_false_iff]
    intro h
    rw[List.all_eq_true.1 h y HMEM.out]at HG
    cases HG.out
   ·rw[hg]at HC
    have HG:=Lib.hid hg
    clear hg
    go_wp2_with fail
    refine HC.out.mono ?_
    rintro e w1 ⟨rfl,hb1⟩
    go_wp2
    go_roundw
    case rel=>exact⟨k+1,by omega,by go_num,below_then HBE.out.size HBE.out hb1,by rw[HTK.out,List.all_append,HNO.out];simp [HG.out]⟩
    case measure=>simp [intOf];omega
  ·have hall:ns.all D.good=true:=by
    have:=HNO.out
    rwa [List.take_of_length_le (by have:=HL.out;omega)]at this
   have HALL:=Lib.hid hall
   clear hall HNO
   go_wp2
   go_ret
   exact⟨-1,rfl,HBE.out,fun h=>absurd h (by decide),fun h=>by rw[HALL.out]at h;cases h⟩
theorem containsBad_any (A:Option Addr) (n c:Nat) (ns:List ByteArray) (w:World) (hn:n≤1099511627776) (hl:ns.length=n) (hs:NSml ns) (hx:Rd w A n 1 (scells ns)) :
  Calls Tryz.prog 117 #[.slice A n c,.func (.func 118) #[] #[]] w (RetB w (!ns.all D.good)):=by
 have HI:=Lib.hid (indexBad_any A n c ns w hn hl hs hx)
 clear hx hl hs
 go_enter Tryz.func117,Tryz.ntmps117
 go_wp2_with fail
 refine HI.out.mono ?_
 rintro e w1 ⟨z,rfl,hb,hz⟩
 by_cases h0:0≤z
 ·have h0i:z≥0:=h0
  have hm:=hz.1 h0
  go_wp2
  go_ret
  exact⟨ret_bool (by rw[hm];rfl),hb⟩
 ·have h0i:¬ z≥0:=h0
  have hm:ns.all D.good=true:=by
   cases h:ns.all D.good
   ·exact absurd (hz.2 h) h0
   ·rfl
  go_wp2
  go_ret
  exact⟨ret_bool (by rw[hm];rfl),hb⟩
def RetStep (B:Nat) (M:DM) (s:D.Dsk) (w:World) (x:D.Dsk × Int) (e:Ending) (w':World):Prop:=e=.returned (.int .i64 x.2)∧∃ M',DkAt B M' x.1 w'∧Stepped M s w M' x.1 w'
set_option maxHeartbeats 2000000 in
theorem begin_any (B:Nat) (M:DM) (s:D.Dsk) (A:Option Addr) (n c:Nat) (ns:List ByteArray) (w:World) (h:DkAt B M s w) (hsn:0≤s.n∧s.n≤1099511627776) (hfl:s.fails.length≤1099511627776) (hn:n≤1099511627776) (hl:ns.length=n) (hs:NSml ns) (hx:Rd w A n 1 (scells ns)) (hA:0 < n→∀ a,A=some a→a.block≠M.d) :
  Calls Tryz.prog 95 #[.pointer (some ⟨M.d,0,none⟩),.slice A n c] w (fun e w'=>e=.returned (.int .i64 (s.begin ns).2)∧DkAt B M (s.begin ns).1 w'∧Stepped M s w M (s.begin ns).1 w'):=by
 have HD:=Lib.hid h
 have HX:=Lib.hid hx
 have HDW:=Lib.hid (down_any B M s w h)
 have HCB:=Lib.hid (fun (u:World) (hr:Rd u A n 1 (scells ns))=>containsBad_any A n c ns u hn hl hs hr)
 clear h hx hl hs
 obtain⟨G,hG⟩:∃ G,s.begin ns=G:=⟨_,rfl⟩
 have HG:Hid (G=if s.down then (s,93) else ({ s with n:=s.n+1 },if decide (s.n+1∈s.fails) then 94 else if ns.all D.good then 0 else 95)):=Lib.hid (by rw[← hG];rfl)
 rw[hG]
 clear hG
 go_enter Tryz.func95,Tryz.ntmps95
 go_wp2_with fail
 refine HDW.out.mono ?_
 rintro e w1 ⟨rfl,hb1⟩
 have HD1:=Lib.hid (HD.out.below hb1)
 have HX1:=Lib.hid (HX.out.below hb1)
 have HS1:Hid (Stepped M s w M s w1):=Lib.hid (Stepped.below hb1)
 clear hb1 HD HX HDW
 cases hdn:s.down
 rotate_left
 ·rw[hdn,if_pos rfl]at HG
  go_wp2
  go_ret
  exact⟨by rw[HG.out];rfl,by rw[HG.out];exact HD1.out,by rw[HG.out];exact HS1.out⟩
 rw[hdn,if_neg (by decide)]at HG
 obtain⟨y0,y1,y2,y3,y4,y5,y6,y7⟩:=HD1.out.cells
 have f7:=HD1.out.blk.free 7
 have HD2:=Lib.hid (HD1.out.count (s.n+1))
 have HS2:Hid (Stepped M s w M { s with n:=s.n+1 } (w1.setCell ⟨M.d,7,none⟩ (.int .i64 (s.n+1)))):=Lib.hid (HS1.out.trans (Stepped.set rfl))
 have hX1a:=HX1.out
 have HX2:Hid (Rd (w1.setCell ⟨M.d,7,none⟩ (.int .i64 (s.n+1))) A n 1 (scells ns)):=Lib.hid (hX1a.farD hA 7 _)
 clear HD1 HS1 HX1 hX1a hA
 go_upto_region 4 with fail
 clear y0 y1 y2 y3 y4 y5 y6 y7 f7
 generalize w1.setCell ⟨M.d,7,none⟩ (.int .i64 (s.n+1))=w2 at *
 have hS0:DkAt B M { s with n:=s.n+1 } w2.drew:=HD2.out.below (Below.refl _ _).drew
 refine wp_region_noPanic ?_
 refine HT.begin (n:=8) (S:=(fun u=>DkAt B M { s with n:=s.n+1 } u)) (by kernel_rfl) hS0 ?_
 have HS3:=Lib.hid (HS2.out.trans (Stepped.below (Below.refl _ _).drew):Stepped M s w M { s with n:=s.n+1 } w2.drew)
 have HX3:=Lib.hid (HX2.out.drew)
 clear HS2 HX2 HD2
 generalize w2.drew=w3 at *
 refine HT.take 0 (.pointer (some ⟨M.d,0,none⟩)) rfl (by kernel_rfl) (fun _ _ _ h=>h) (Or.inl ⟨by rfl,?_⟩) (?_:HT _ _ _ _ _ _ _ ⟨#[_,_,_,_,_,_,_,_,_,_,_,_,_,_,.pointer (some ⟨M.d,0,none⟩),_,_,_,_,_,_,_,_,_,_],[]⟩ _)
 ·intro u hu
  go_simp
 refine HT.take 1 (.pointer (some ⟨M.d,0,none⟩)) rfl (by kernel_rfl) (fun _ _ _ h=>h) (Or.inl ⟨by rfl,?_⟩) (?_:HT _ _ _ _ _ _ _ ⟨#[_,_,_,_,_,_,_,_,_,_,_,_,_,_,.pointer (some ⟨M.d,0,none⟩),.pointer (some ⟨M.d,0,none⟩),_,_,_,_,_,_,_,_,_],[]⟩ _)
 ·intro u hu
  go_simp
 refine HT.take 2 (.pointer (some ⟨M.d,5,none⟩)) rfl (by kernel_rfl) (fun _ _ _ h=>h) (Or.inl ⟨by rfl,?_⟩) (?_:HT _ _ _ _ _ _ _ ⟨#[_,_,_,_,_,_,_,_,_,_,_,_,_,_,.pointer (some ⟨M.d,0,none⟩),.pointer (some ⟨M.d,0,none⟩),.pointer (some ⟨M.d,5,none⟩),_,_,_,_,_,_,_,_],[]⟩ _)
 ·intro u hu
  go_simp
 refine HT.take 3 (.slice M.FA s.fails.length M.fc) rfl (by kernel_rfl) (fun _ _ _ h=>h) (Or.inl ⟨by rfl,?_⟩) (?_:HT _ _ _ _ _ _ _ ⟨#[_,_,_,_,_,_,_,_,_,_,_,_,_,_,.pointer (some ⟨M.d,0,none⟩),.pointer (some ⟨M.d,0,none⟩),.pointer (some ⟨M.d,5,none⟩),.slice M.FA s.fails.length M.fc,_,_,_,_,_,_,_],[]⟩ _)
 ·intro u hu
  obtain⟨y0,y1,y2,y3,y4,y5,y6,y7⟩:=hu.cells
  go_simp
 refine HT.take 4 (.pointer (some ⟨M.d,0,none⟩)) rfl (by kernel_rfl) (fun _ _ _ h=>h) (Or.inl ⟨by rfl,?_⟩) (?_:HT _ _ _ _ _ _ _ ⟨#[_,_,_,_,_,_,_,_,_,_,_,_,_,_,.pointer (some ⟨M.d,0,none⟩),.pointer (some ⟨M.d,0,none⟩),.pointer (some ⟨M.d,5,none⟩),.slice M.FA s.fails.length M.fc,.pointer (some ⟨M.d,0,none⟩),_,_,_,_,_,_],[]⟩ _)
 ·intro u hu
  go_simp
 refine HT.take 5 (.pointer (some ⟨M.d,0,none⟩)) rfl (by kernel_rfl) (fun _ _ _ h=>h) (Or.inl ⟨by rfl,?_⟩) (?_:HT _ _ _ _ _ _ _ ⟨#[_,_,_,_,_,_,_,_,_,_,_,_,_,_,.pointer (some ⟨M.d,0,none⟩),.pointer (some ⟨M.d,0,none⟩),.pointer (some ⟨M.d,5,none⟩),.slice M.FA s.fails.length M.fc,.pointer (some ⟨M.d,0,none⟩),.pointer (some ⟨M.d,0,none⟩),_,_,_,_,_],[]⟩ _)
 ·intro u hu
  go_simp
 refine HT.take 6 (.pointer (some ⟨M.d,7,none⟩)) rfl (by kernel_rfl) (fun _ _ _ h=>h) (Or.inl ⟨by rfl,?_⟩) (?_:HT _ _ _ _ _ _ _ ⟨#[_,_,_,_,_,_,_,_,_,_,_,_,_,_,.pointer (some ⟨M.d,0,none⟩),.pointer (some ⟨M.d,0,none⟩),.pointer (some ⟨M.d,5,none⟩),.slice M.FA s.fails.length M.fc,.pointer (some ⟨M.d,0,none⟩),.pointer (some ⟨M.d,0,none⟩),.pointer (some ⟨M.d,7,none⟩),_,_,_,_],[]⟩ _)
 ·intro u hu
  go_simp
 refine HT.take 7 (.int .i64 (s.n+1)) rfl (by kernel_rfl) (fun _ _ _ h=>h) (Or.inl ⟨by rfl,?_⟩) (?_:HT _ _ _ _ _ _ _ ⟨#[_,_,_,_,_,_,_,_,_,_,_,_,_,_,.pointer (some ⟨M.d,0,none⟩),.pointer (some ⟨M.d,0,none⟩),.pointer (some ⟨M.d,5,none⟩),.slice M.FA s.fails.length M.fc,.pointer (some ⟨M.d,0,none⟩),.pointer (some ⟨M.d,0,none⟩),.pointer (some ⟨M.d,7,none⟩),.int .i64 (s.n+1),_,_,_],[]⟩ _)
 ·intro u hu
  obtain⟨y0,y1,y2,y3,y4,y5,y6,y7⟩:=hu.cells
  go_simp
 refine HT.tail _ rfl rfl (by kernel_rfl) (fun hS=>?_)
 have HS:=Lib.hid hS
 clear hS hS0
 go_wp2_with fail
 refine (containsI_any M.FA s.fails.length M.fc s.fails (s.n+1) w3 hfl rfl HS.out.fails.rd).mono ?_
 rintro e w4 ⟨rfl,rfl⟩
 cases hin:decide (s.n+1∈s.fails)
 rotate_left
 ·rw[hin,if_pos rfl]at HG
  go_wp2
  refine NoPanic.normal ?_
  go_wp2
  go_ret
  exact⟨by rw[HG.out];rfl,by rw[HG.out];exact HS.out,by rw[HG.out];exact HS3.out⟩
 rw[hin,if_neg (by decide)]at HG
 have HCC:=Lib.hid (HCB.out _ HX3.out)
 go_wp2
 refine NoPanic.normal ?_
 go_wp2_with fail
 refine HCC.out.mono ?_
 rintro e w5 ⟨rfl,hb5⟩
 cases hall:ns.all D.good
 ·rw[hall,if_neg (by decide)]at HG
  go_wp2
  go_ret
  exact⟨by rw[HG.out];rfl,by rw[HG.out];exact HS.out.below hb5,by rw[HG.out];exact HS3.out.trans (Stepped.below hb5)⟩
 ·rw[hall,if_pos rfl]at HG
  go_wp2
  go_ret
  exact⟨by rw[HG.out];rfl,by rw[HG.out];exact HS.out.below hb5,by rw[HG.out];exact HS3.out.trans (Stepped.below hb5)⟩
end Go.Proofs.YtkempjcphpnocaaGreatDoor
namespace Go.Proofs.YtkempjcphpnocaaGreatDoor
namespace D
theorem length_ins (l:NM) (nm:ByteArray) (no:Nat):(ins l nm no).length=l.length+1:=by
 induction l with
 | nil=>rfl
 | cons p r ih =>
  unfold ins
  split
  ·rfl
  ·rw[List.length_cons,ih,List.length_cons]
theorem length_del (l:NM) (nm:ByteArray):(del l nm).length≤l.length:=List.length_filter_le _ _
theorem length_put (l:NM) (nm:ByteArray) (no:Nat):(put l nm no).length≤l.length+1:=by
 unfold put
 rw[length_ins]
 have:=length_del l nm
 omega
theorem length_app (l:NM) (c:Chg):(c.app l).length≤l.length+1:=by
 cases c with
 | put nm no=>exact length_put l nm no
 | del nm=>exact Nat.le_succ_of_le (length_del l nm)
 | ren a b no =>
  have h1:=length_put (del l a) b no
  have h2:=length_del l a
  show (put (del l a) b no).length≤_
  omega
theorem mem_app {l:NM} {c:Chg} {p:ByteArray × Nat} {n:Nat} (hp:p∈c.app l) (hl:∀ p∈l,p.2 < n) (hc:c.within n):p.2 < n:=by
 cases c with
 | put nm no =>
  rcases mem_put.1 hp with rfl | h
  ·exact hc
  ·exact hl p h.1
 | del nm=>exact hl p (mem_del.1 hp).1
 | ren a b no =>
  rcases mem_put.1 hp with rfl | h
  ·exact hc
  ·exact hl p (mem_del.1 h.1).1
theorem Chg.within.mono {c:Chg} {n m:Nat} (h:c.within n) (hm:n≤m):c.within m:=by
 cases c with
 | put nm no=>exact Nat.lt_of_lt_of_le h hm
 | del nm=>trivial
 | ren a b no=>exact Nat.lt_of_lt_of_le h hm
theorem Dsk.Ok.alter {s:Dsk} (h:s.Ok) {c:Chg} (hc:c.within s.data.length):(s.alter c).Ok :=
 ⟨h.lens,up_app h.upN c,h.upS,fun _ hp=>mem_app hp h.inN hc,h.inS,fun d hd=>by
  rcases List.mem_append.1 hd with hd | hd
  ·exact h.inP d hd
  ·rw[List.mem_singleton.1 hd];exact hc,by
  show c.app s.now=(s.pend++[c]).foldl Chg.app s.safe
  rw[List.foldl_append,← h.fold]
  rfl,h.firms⟩
theorem Dsk.Ok.count {s:Dsk} (h:s.Ok) (n:Int):({ s with n:=n }:Dsk).Ok:=⟨h.lens,h.upN,h.upS,h.inN,h.inS,h.inP,h.fold,h.firms⟩
theorem Dsk.Ok.newFile {s:Dsk} (h:s.Ok):({ s with data:=s.data++[[]],firm:=s.firm++[0] }:Dsk).Ok:=by
 have hl:(s.data++[([]:List UInt8)]).length=s.data.length+1:=by simp
 refine⟨by simp [h.lens],h.upN,h.upS,fun p hp=>?_,fun p hp=>?_,fun c hc=>(h.inP c hc).mono ?_,h.fold,fun no hn=>?_⟩
 ·show _ < (s.data++[([]:List UInt8)]).length
  rw[hl];have:=h.inN p hp;omega
 ·show _ < (s.data++[([]:List UInt8)]).length
  rw[hl];have:=h.inS p hp;omega
 ·show _≤(s.data++[([]:List UInt8)]).length
  rw[hl];omega
 ·change no < (s.data++[([]:List UInt8)]).length at hn
  rw[hl]at hn
  unfold Dsk.size
  dsimp only
  by_cases e:no=s.data.length
  ·subst e
   have:(s.firm++[0]).getD s.data.length 0=0:=by simp [List.getD,← h.lens]
   rw[this]
   exact Nat.zero_le _
  ·have hi:no < s.data.length:=by omega
   have h1:(s.data++[([]:List UInt8)]).getD no []=s.data.getD no []:=by simp [List.getD,List.getElem?_append_left hi]
   have h2:(s.firm++[0]).getD no 0=s.firm.getD no 0:=by simp [List.getD,List.getElem?_append_left (show no < s.firm.length by rw[h.lens];exact hi)]
   rw[h1,h2]
   exact h.firms no hi
theorem Dsk.Ok.data {s:Dsk} (h:s.Ok) (no:Nat) (d:List UInt8):({ s with data:=s.data.set no (s.data.getD no []++d) }:Dsk).Ok:=by
 refine⟨by simp [h.lens],h.upN,h.upS,fun p hp=>by have:=h.inN p hp;simpa using this,fun p hp=>by have:=h.inS p hp;simpa using this,fun c hc=>by have:=h.inP c hc;simpa using this,h.fold,fun i hi=>?_⟩
 have hi2:i < s.data.length:=by simpa using hi
 have:=h.firms i hi2
 unfold Dsk.size at this ⊢
 dsimp only
 by_cases e:i=no
 ·subst e
  simp [List.getD,hi2]at this ⊢
  omega
 ·rw[show (s.data.set no (s.data.getD no []++d)).getD i []=s.data.getD i [] by simp [List.getD,List.getElem?_set_ne (fun h=>e h.symm)]]
  exact this
theorem Dsk.Ok.firm {s:Dsk} (h:s.Ok) (no:Nat):({ s with firm:=s.firm.set no (s.size no) }:Dsk).Ok:=by
 refine⟨by simp [h.lens],h.upN,h.upS,h.inN,h.inS,h.inP,h.fold,fun i hi=>?_⟩
 have:=h.firms i hi
 show (s.firm.set no (s.size no)).getD i 0≤s.size i
 by_cases e:i=no
 ·subst e
  by_cases hl:i < s.firm.length
  ·simp [List.getD,hl]
  ·simp [List.getD,hl]
 ·rw[show (s.firm.set no (s.size no)).getD i 0=s.firm.getD i 0 by simp [List.getD,List.getElem?_set_ne (fun h=>e h.symm)]]
  exact this
theorem Dsk.Ok.synced {s:Dsk} (h:s.Ok):({ s with safe:=s.now,pend:=[] }:Dsk).Ok :=
 ⟨h.lens,h.upN,h.upN,h.inN,h.inN,(fun _ hc=>by cases hc),rfl,h.firms⟩
def Chg.nmd:Chg→Bool
 | .put nm _=>good nm
 | .del nm=>good nm
 | .ren a b _=>good a&&good b
structure Dsk.Nmd (s:Dsk):Prop where
 now:∀ p∈s.now,good p.1=true
 safe:∀ p∈s.safe,good p.1=true
 pend:∀ c∈s.pend,c.nmd=true
theorem nmd_app {l:NM} {c:Chg} (hl:∀ p∈l,good p.1=true) (hc:c.nmd=true):∀ p∈c.app l,good p.1=true:=by
 intro p hp
 cases c with
 | put nm no =>
  rcases mem_put.1 hp with rfl | hp
  ·exact hc
  ·exact hl p hp.1
 | del nm=>exact hl p (mem_del.1 hp).1
 | ren a b no =>
  rcases mem_put.1 hp with rfl | hp
  ·exact (Bool.and_eq_true _ _ ▸ hc:good a=true∧good b=true).2
  ·exact hl p (mem_del.1 hp.1).1
theorem Dsk.Nmd.alter {s:Dsk} (h:s.Nmd) {c:Chg} (hc:c.nmd=true):(s.alter c).Nmd :=
 ⟨nmd_app h.now hc,h.safe,fun x hx=>by
  rcases List.mem_append.1 hx with hx | hx
  ·exact h.pend x hx
  ·rw[List.mem_singleton.1 hx];exact hc⟩
structure Fit (k:Nat) (s:Dsk):Prop where
 nmd:s.Nmd
 ok:s.Ok
 n0:0≤s.n
 n:s.n≤k
 now:s.now.length≤k
 pend:s.pend.length≤k
 data:s.data.length≤k
 fails:s.fails.length≤1099511627776
 room:0≤s.room∧s.room≤1073741824
 size:∀ no,s.size no≤1073741824
theorem Fit.mono {k m:Nat} {s:Dsk} (h:Fit k s) (hm:k≤m):Fit m s :=
 ⟨h.nmd,h.ok,h.n0,by have:=h.n;omega,Nat.le_trans h.now hm,Nat.le_trans h.pend hm,Nat.le_trans h.data hm,h.fails,h.room,h.size⟩
theorem Fit.sml {k:Nat} {s:Dsk} (h:Fit k s) (hk:k≤268435456):s.Sml :=
 ⟨h.n0,by have:=h.n;omega,h.fails,by have:=h.now;omega,by have:=h.pend;omega,by have:=h.data;omega,fun no=>by have:=h.size no;omega⟩
theorem sum_bound {f:ByteArray × Nat→Nat} {Z:Nat}:∀ l:NM,(∀ p,f p≤Z)→(l.map f).sum≤l.length * Z
 | [],_=>by simp
 | p::r,h=>by
  have h1:=sum_bound r h
  have h2:=h p
  rw[List.map_cons,List.sum_cons,List.length_cons,Nat.succ_mul]
  omega
theorem Fit.used {k:Nat} {s:Dsk} (h:Fit k s) (hk:k≤268435456):s.used≤1152921504606846976:=by
 have h1:s.used≤s.now.length * 1073741824:=sum_bound s.now (fun p=>h.size p.2)
 have h2:=h.now
 have h3:s.now.length * 1073741824≤268435456 * 1073741824:=Nat.mul_le_mul_right _ (by omega)
 omega
theorem size_le_used {s:Dsk} {nm:ByteArray} {no:Nat} (h:(nm,no)∈s.now):s.size no≤s.used:=by
 unfold Dsk.used
 generalize s.now=l at *
 induction l with
 | nil=>cases h
 | cons p r ih =>
  rw[List.map_cons,List.sum_cons]
  rcases List.mem_cons.1 h with rfl | h
  ·exact Nat.le_add_right _ _
  ·have:=ih h
   omega
section
variable {k:Nat} {s:Dsk}
theorem Fit.count (h:Fit k s):Fit (k+1) { s with n:=s.n+1 } :=
 ⟨⟨h.nmd.now,h.nmd.safe,h.nmd.pend⟩,h.ok.count _,by have:=h.n0;show 0≤s.n+1;omega,by have:=h.n;show s.n+1≤_;omega,Nat.le_succ_of_le h.now,Nat.le_succ_of_le h.pend,Nat.le_succ_of_le h.data,h.fails,h.room,h.size⟩
theorem Fit.begin (h:Fit k s) (ns:List ByteArray):Fit (k+1) (s.begin ns).1:=by
 unfold Dsk.begin
 split
 ·exact h.mono (Nat.le_succ k)
 ·exact h.count
theorem Dsk.begin_good (s:Dsk) (ns:List ByteArray):(s.begin ns).2=0→ns.all good=true:=by
 unfold Dsk.begin
 split
 ·intro h;cases h
 ·dsimp only
  split
  ·intro h;cases h
  ·split
   ·intro _;assumption
   ·intro h;cases h
theorem Fit.on (h:Fit k s) (nm:ByteArray) (more:List ByteArray) (f:Dsk→Nat→Dsk × Int) (hf:∀ (u:Dsk) (no:Nat),u.now=s.now→u.pend=s.pend→u.data=s.data→Fit (k+1) u→find u.now nm=some no→(more++[nm]).all good=true→Fit (k+1) (f u no).1):Fit (k+1) (s.on nm more f).1:=by
 have hg:=s.begin_good (more++[nm])
 obtain⟨n,hn⟩:=s.begin_as (more++[nm])
 have hb:=h.begin (more++[nm])
 unfold Dsk.on
 cases hbe:s.begin (more++[nm]) with
 | mk s1 e =>
  rw[hbe]at hn hb hg
  dsimp only at hn hb hg ⊢
  split
  ·exact hb
  ·rename_i he
   cases hfd:find s1.now nm with
   | none=>exact hb
   | some no=>exact hf s1 no (by rw[hn]) (by rw[hn]) (by rw[hn]) hb hfd (hg (by omega))
theorem Fit.alter {c:Chg} (hu:Fit (k+1) s) (hp:s.pend.length≤k) (hn:s.now.length≤k) (hc:c.within s.data.length) (hm:c.nmd=true):Fit (k+1) (s.alter c) :=
 ⟨hu.nmd.alter hm,hu.ok.alter hc,hu.n0,hu.n,by have:=length_app s.now c;show (c.app s.now).length≤_;omega,by show (s.pend++[c]).length≤_;rw[List.length_append];simp;exact hp,hu.data,hu.fails,hu.room,hu.size⟩
theorem Fit.remove (h:Fit k s) (nm:ByteArray):Fit (k+1) (s.remove nm).1 :=
 h.on nm [] _ (fun u no h1 h2 _ hu _ hg=>hu.alter (by rw[h2];exact h.pend) (by rw[h1];exact h.now) trivial (by simpa [Chg.nmd] using hg))
theorem Fit.rename (h:Fit k s) (a b:ByteArray):Fit (k+1) (s.rename a b).1 :=
 h.on a [b] _ (fun u no h1 h2 h3 hu hf hg=>by
  split
  ·exact hu
  ·exact hu.alter (by rw[h2];exact h.pend) (by rw[h1];exact h.now) (hu.ok.inN _ (find_mem hf)) (by simp [Chg.nmd]at hg ⊢;exact⟨hg.2,hg.1⟩))
theorem Fit.sync (h:Fit k s) (nm:ByteArray):Fit (k+1) (s.sync nm).1 :=
 h.on nm [] _ (fun _ no _ _ _ hu _ _=>⟨⟨hu.nmd.now,hu.nmd.safe,hu.nmd.pend⟩,hu.ok.firm no,hu.n0,hu.n,hu.now,hu.pend,hu.data,hu.fails,hu.room,hu.size⟩)
theorem Fit.append (h:Fit k s) (nm:ByteArray) (d:List UInt8):Fit (k+1) (s.append nm d).1 :=
 h.on nm [] _ (fun u no _ _ _ hu hf _=>by
  split
  ·exact hu
  ·rename_i hr
   refine⟨⟨hu.nmd.now,hu.nmd.safe,hu.nmd.pend⟩,hu.ok.data no d,hu.n0,hu.n,hu.now,hu.pend,by show (u.data.set no _).length≤_;rw[List.length_set];exact hu.data,hu.fails,hu.room,fun i=>?_⟩
   unfold Dsk.size
   dsimp only
   have hi:=hu.size i
   unfold Dsk.size at hi
   by_cases e:i=no
   ·subst e
    by_cases hl:i < u.data.length
    ·have hg:(u.data.set i (u.data.getD i []++d)).getD i []=u.data.getD i []++d:=by simp [List.getD,hl]
     rw[hg,List.length_append]
     by_cases h0:d.length=0
     ·omega
     ·have h1:=size_le_used (find_mem hf)
      unfold Dsk.size at h1
      have h2:=hu.room.2
      have h3:¬ u.room < (u.used:Int)+d.length:=fun h3=>hr ⟨by omega,h3⟩
      omega
    ·rw[List.set_eq_of_length_le (by omega)]
     exact hi
   ·rw[show (u.data.set no (u.data.getD no []++d)).getD i []=u.data.getD i [] by simp [List.getD,List.getElem?_set_ne (fun h=>e h.symm)]]
    exact hi)
theorem Fit.syncNames (h:Fit k s):Fit (k+1) s.syncNames.1:=by
 have hb:=h.begin []
 unfold Dsk.syncNames
 cases hbe:s.begin [] with
 | mk s1 e =>
  rw[hbe]at hb
  dsimp only at hb ⊢
  split
  ·exact hb
  ·exact⟨⟨hb.nmd.now,hb.nmd.now,(fun _ h=>by cases h)⟩,hb.ok.synced,hb.n0,hb.n,hb.now,Nat.zero_le _,hb.data,hb.fails,hb.room,hb.size⟩
theorem Fit.create (h:Fit k s) (nm:ByteArray):Fit (k+1) (s.create nm).1:=by
 obtain⟨n,hn⟩:=s.begin_as [nm]
 have hb:=h.begin [nm]
 have hg:=s.begin_good [nm]
 unfold Dsk.create
 cases hbe:s.begin [nm] with
 | mk s1 e =>
  rw[hbe]at hb hn hg
  dsimp only at hb hn hg ⊢
  split
  ·exact hb
  ·rename_i he
   split
   ·exact hb
   ·have hl:(s1.data++[([]:List UInt8)]).length=s1.data.length+1:=by simp
    have h1:s1.data.length≤k:=by rw[hn];exact h.data
    have h2:s1.pend.length≤k:=by rw[hn];exact h.pend
    have h3:s1.now.length≤k:=by rw[hn];exact h.now
    refine Fit.alter (s:={ s1 with data:=s1.data++[[]],firm:=s1.firm++[0] }) ⟨⟨hb.nmd.now,hb.nmd.safe,hb.nmd.pend⟩,hb.ok.newFile,hb.n0,hb.n,hb.now,hb.pend,by show (s1.data++[([]:List UInt8)]).length≤_;rw[hl];omega,hb.fails,hb.room,fun i=>?_⟩ h2 h3 ?_ (by simpa [Chg.nmd] using hg (by omega))
    ·unfold Dsk.size
     dsimp only
     have:=hb.size i
     unfold Dsk.size at this
     by_cases hi:i < s1.data.length
     ·rw[show (s1.data++[([]:List UInt8)]).getD i []=s1.data.getD i [] by simp [List.getD,List.getElem?_append_left hi]]
      exact this
     ·have:(s1.data++[([]:List UInt8)]).getD i []=[]:=by
       rw[List.getD,List.getElem?_append_right (by omega)]
       cases h9:i - s1.data.length<;>simp
      rw[this]
      exact Nat.zero_le _
    ·show s1.data.length < (s1.data++[([]:List UInt8)]).length
     rw[hl]
     omega
end
end D
end Go.Proofs.YtkempjcphpnocaaGreatDoor
