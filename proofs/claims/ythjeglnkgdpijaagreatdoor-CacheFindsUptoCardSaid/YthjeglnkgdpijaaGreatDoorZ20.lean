/- The walks of the disk's small functions: Down, Steps, good, slices.Contains at numbers, begin. The walk of the disk's begin: a step is counted, and its names are looked at. The walk of head.Response. Conditions: as each theorem states them. -/
import Derived.Test.YthjeglnkgdpijaaGreatDoorZ23
set_option maxHeartbeats 8000000
set_option maxRecDepth 100000
namespace Go.Proofs.YthjeglnkgdpijaaGreatDoor
open Go Go.RowKit Go.Maps
namespace D
def okS:List UInt8:=[97,98,99,100,101,102,103,104,105,106,107,108,109,110,111,112,113,114,115,116,117,118,119,120,121,122,48,49,50,51,52,53,54,55,56,57,46,45,95,47]
theorem aRI (c:UInt8):okB c=okS.contains c:=by
 have h:∀ n:Fin 256,okB (UInt8.ofNat n.1)=okS.contains (UInt8.ofNat n.1):=by decide +kernel
 have:=h ⟨c.toNat,c.toNat_lt⟩
 simpa using this
theorem aLU (S l:List UInt8):Lib.trimS l S=[]↔l.all (fun c=>S.contains c)=true:=by
 unfold Lib.trimS Lib.trimLeftS Lib.trimRightS
 rw[List.all_eq_true]
 constructor
 ·intro h
  rw[drop_nil]at h
  have h2:l.reverse.dropWhile (fun c=>S.contains c)=[]:=by
   cases h3:l.reverse.dropWhile (fun c=>S.contains c) with
   | nil=>rfl
   | cons x r =>
    have h4:=List.head_dropWhile_not (fun c=>S.contains c) (l:=l.reverse) (by rw[h3];simp)
    simp only[h3,List.head_cons]at h4
    have h5:=h x (by rw[h3];simp)
    rw[h4]at h5
    cases h5
  rw[drop_nil]at h2
  exact fun x hx=>h2 x (by simpa using hx)
 ·intro h
  have h2:l.reverse.dropWhile (fun c=>S.contains c)=[]:=by
   rw[drop_nil]
   exact fun x hx=>h x (by simpa using hx)
  rw[h2]
  rfl
end D
theorem aRH (s:ByteArray) (w:World) (hs:s.size≤1099511627776):Calls Tryz.prog 88 #[.string s,.string ⟨#[97,98,99,100,101,102,103,104,105,106,107,108,109,110,111,112,113,114,115,116,117,118,119,120,121,122,48,49,50,51,52,53,54,55,56,57,46,45,95,47]⟩] w (aEM w (B (Lib.trimS (L s) D.okS))):=by
 refine (Any.strings_Trim_laid Tryz.lays160 (by kernel_rfl) s ⟨#[97,98,99,100,101,102,103,104,105,106,107,108,109,110,111,112,113,114,115,116,117,118,119,120,121,122,48,49,50,51,52,53,54,55,56,57,46,45,95,47]⟩ w (by omega) (by decide) (ascii_of_all (by decide))).mono ?_
 rintro e w' ⟨rfl,hb⟩
 exact⟨rfl,hb⟩
theorem aAF (B:Nat) (M:DM) (s:D.Dsk) (w:World) (h:dD B M s w):Calls Tryz.prog 109 #[.pointer (some ⟨M.d,0,none⟩)] w (qP w s.down):=by
 obtain⟨y0,y1,y2,y3,y4,y5,y6,y7⟩:=h.cells
 obtain⟨G,hG⟩:∃ G,s.down=G:=⟨_,rfl⟩
 have HG:Hid (G=(decide (0≤s.power)&&decide (s.n=s.power))):=aH hG.symm
 rw[hG]
 generalize s.power=pw at *
 generalize s.n=nn at *
 clear h hG y0 y1 y2 y3 y4 y5
 go_enter Tryz.func109,Tryz.ntmps109
 by_cases h0:0≤pw
 ·have h0i:pw≥0:=h0
  by_cases h1:nn=pw
  ·have h1b:(nn==pw)=true:=beq_iff_eq.2 h1
   go_upto_region 1 with fail
   go_region
   go_wp2
   go_ret
   exact⟨aQ (by rw[HG.out];simp [h0,h1]),(zB _ _).drew⟩
  ·have h1b:(nn==pw)=false:=beq_eq_false_iff_ne.2 h1
   go_upto_region 1 with fail
   go_region
   go_wp2
   go_ret
   exact⟨aQ (by rw[HG.out];simp [h0,h1]),(zB _ _).drew⟩
 ·have h0i:¬ pw≥0:=h0
  go_upto_region 1 with fail
  go_region
  go_wp2
  go_ret
  exact⟨aQ (by rw[HG.out,decide_eq_false (show ¬ 0≤pw by omega)];rfl),(zB _ _).drew⟩
theorem qG (s:ByteArray) (w:World) (hs:s.size≤1099511627776):Calls Tryz.prog 48 #[.string s] w (qP w (D.good s)):=by
 have HT:=aH (aRH s w hs)
 obtain⟨G,hG⟩:∃ G,D.good s=G:=⟨_,rfl⟩
 have HG:Hid (G=((L s).all D.okB&&decide (1≤s.size)&&decide (s.size≤64))):=aH hG.symm
 have HA:Hid (Lib.trimS (L s) D.okS=[]↔(L s).all D.okB=true):=aH (by rw[D.aLU,show (fun c=>D.okS.contains c)=D.okB from funext fun c=>(D.aRI c).symm])
 rw[hG]
 clear hG
 have hls:s.toList.length=s.size:=by rw[fQ];exact aS s
 by_cases h0:s.size=0
 ·have he:s.toList=[]:=List.eq_nil_of_length_eq_zero (by omega)
  have hs0:s=⟨#[]⟩:=toList_inj.1 (he.trans (by simp))
  subst hs0
  go_enter Tryz.func48,Tryz.ntmps48
  go_wp2
  go_ret
  exact⟨aQ (by rw[HG.out];rfl),zB _ _⟩
 ·have hn:¬ s.toList=[]:=fun e=>h0 (by rw[← hls,e];rfl)
  have hnb:s.toList.isEmpty=false:=by cases h:s.toList<;>simp_all
  by_cases h64:s.size≤64
  ·have h64i:(s.size:Int)≤64:=by omega
   clear hls
   by_cases hall:(L s).all D.okB=true
   ·have HT2:Hid (Calls Tryz.prog 88 #[.string s,.string ⟨#[97,98,99,100,101,102,103,104,105,106,107,108,109,110,111,112,113,114,115,116,117,118,119,120,121,122,48,49,50,51,52,53,54,55,56,57,46,45,95,47]⟩] w (aEM w ⟨#[]⟩)):=by
     have:=HT.out
     rw[HA.out.2 hall]at this
     exact aH this
    clear HT HA
    go_enter Tryz.func48,Tryz.ntmps48
    go_wp2_with fail
    refine HT2.out.mono ?_
    rintro e w1 ⟨rfl,hb1⟩
    go_wp2
    go_ret
    exact⟨aQ (by rw[HG.out,hall,decide_eq_true (show 1≤s.size by omega),decide_eq_true h64];rfl),hb1⟩
   ·have hne:¬ Lib.trimS (L s) D.okS=[]:=fun e=>hall (HA.out.1 e)
    obtain⟨T,hT⟩:∃ T,B (Lib.trimS (L s) D.okS)=T:=⟨_,rfl⟩
    have hTn:¬ T.toList=[]:=fun e=>hne (by rw[← hT,fQ,L_B]at e;exact e)
    have hTb:T.toList.isEmpty=false:=by cases h:T.toList<;>simp_all
    rw[hT]at HT
    clear hT hne HA
    go_enter Tryz.func48,Tryz.ntmps48
    go_wp2_with fail
    refine HT.out.mono ?_
    rintro e w1 ⟨rfl,hb1⟩
    go_wp2
    go_ret
    exact⟨aQ (by rw[HG.out,Bool.not_eq_true _ |>.mp hall];rfl),hb1⟩
  ·have h64i:¬ (s.size:Int)≤64:=by omega
   clear hls HT HA
   go_enter Tryz.func48,Tryz.ntmps48
   go_wp2
   go_ret
   exact⟨aQ (by rw[HG.out,decide_eq_false h64,Bool.and_false]),zB _ _⟩
theorem aHD (A:Option Addr) (n c:Nat) (zs:List Int) (x:Int) (w:World) (hn:n≤1099511627776) (hl:zs.length=n) (hx:Rd w A n 1 (dS zs)) :
  Calls Tryz.prog 189 #[.slice A n c,.int .i64 x] w (fun e w'=>∃ z:Int,e=.returned (.int .i64 z)∧w'=w∧(0≤z↔x∈zs)):=by
 have HX:=aH hx
 have HL:=aH hl
 clear hx hl
 go_enter Tryz.func189,Tryz.ntmps189
 go_wp2
 go_loopw [8] (fun i wr=>∃ k:Nat,k≤n∧i=.int .i64 k∧wr=w∧x ∉ zs.take k) (fun i _=>n - (intOf i).toNat)
 case atStart=>exact⟨0,zF _,rfl,rfl,by simp⟩
 case round =>
  obtain⟨k,hk,rfl,rfl,hno⟩:=hrel
  have HNO:=aH hno
  clear hno
  by_cases hlt:k < n
  ·obtain⟨b,o,u,rfl,hb,hu,hc⟩:=HX.out.at1 hlt
   have hkl:k < zs.length:=by rw[HL.out];exact hlt
   have hu2:u=.int .i64 (zs[k]'hkl):=by
    unfold dS at hu
    rw[List.getElem?_map,List.getElem?_eq_getElem hkl]at hu
    exact (Option.some.inj hu).symm
   subst hu2
   have HTK:=aH (bI hkl)
   have HMEM:=aH (List.getElem_mem hkl)
   generalize zs[k]'hkl=y at *
   clear hu hkl
   by_cases hxy:x=y
   ·have hxb:(x==y)=true:=beq_iff_eq.2 hxy
    go_wp2
    go_ret
    exact⟨k,rfl,rfl,fun _=>by rw[hxy];exact HMEM.out,fun _=>by omega⟩
   ·have hxb:(x==y)=false:=beq_eq_false_iff_ne.2 hxy
    go_wp2
    go_roundw
    case rel=>exact⟨k+1,by omega,by go_num,trivial,by rw[HTK.out,List.mem_append];rintro (h | h);exact HNO.out h;exact hxy (List.mem_singleton.1 h)⟩
    case measure=>simp [intOf];omega
  ·have hkn:k=n:=by omega
   have hall:x ∉ zs:=by
    have:=HNO.out
    rwa [List.take_of_length_le (by have:=HL.out;omega)]at this
   have HALL:=aH hall
   clear hkn hall HNO
   go_wp2
   go_ret
   exact⟨-1,rfl,rfl,fun h=>absurd h (by decide),fun h=>absurd h HALL.out⟩
theorem aAJ (A:Option Addr) (n c:Nat) (zs:List Int) (x:Int) (w:World) (hn:n≤1099511627776) (hl:zs.length=n) (hx:Rd w A n 1 (dS zs)) :
  Calls Tryz.prog 165 #[.slice A n c,.int .i64 x] w (vX w (.bool (decide (x∈zs)))):=by
 have HI:=aH (aHD A n c zs x w hn hl hx)
 clear hx hl
 go_enter Tryz.func165,Tryz.ntmps165
 go_wp2_with fail
 refine HI.out.mono ?_
 rintro e w1 ⟨z,rfl,rfl,hz⟩
 by_cases h0:0≤z
 ·have h0i:z≥0:=h0
  have hm:=hz.1 h0
  go_wp2
  go_ret
  exact⟨aQ (decide_eq_true hm).symm,rfl⟩
 ·have h0i:¬ z≥0:=h0
  have hm:x ∉ zs:=fun h=>h0 (hz.2 h)
  go_wp2
  go_ret
  exact⟨aQ (decide_eq_false hm).symm,rfl⟩
theorem Rd.farD {w:World} {A:Option Addr} {n size b:Nat} {xs:List Value} (h:Rd w A n size xs) (ha:0 < n→∀ a,A=some a→a.block≠b) (i:Nat) (x:Value):Rd (w.setCell ⟨b,i,none⟩ x) A n size xs :=
 ⟨h.1,fun hn=>by
  obtain⟨b',o,e,hlt,hc⟩:=h.2 hn
  have hne:b'≠b:=ha hn _ e
  exact⟨b',o,e,by simpa [World.setCell] using hlt,fun j u hu=>(World.cell?_setCell_far _ _ _ _ (fun e=>hne e.symm)).trans (hc j u hu)⟩⟩
def NSml (l:List ByteArray):Prop:=∀ s∈l,s.size≤1099511627776
theorem aEI (s:ByteArray) (w:World) (hs:s.size≤1099511627776):Calls Tryz.prog 167 #[.string s] w (qP w (!D.good s)):=by
 have HG:=aH (qG s w hs)
 go_enter Tryz.func167,Tryz.ntmps167
 go_wp2_with fail
 refine HG.out.mono ?_
 rintro e w1 ⟨rfl,hb1⟩
 go_wp2
 go_ret
 exact⟨rfl,hb1⟩
theorem aB4 (A:Option Addr) (n c:Nat) (ns:List ByteArray) (w:World) (hn:n≤1099511627776) (hl:ns.length=n) (hs:NSml ns) (hx:Rd w A n 1 (aF ns)) :
  Calls Tryz.prog 87 #[.slice A n c,.func (.func 167) #[] #[]] w (fun e w'=>∃ z:Int,e=.returned (.int .i64 z)∧Below w.heap.size w w'∧(0≤z↔ns.all D.good=false)):=by
 have HX:=aH hx
 have HL:=aH hl
 have HS:=aH hs
 clear hx hl hs
 go_enter Tryz.func87,Tryz.ntmps87
 go_wp2
 go_loopw [8] (fun i wr=>∃ k:Nat,k≤n∧i=.int .i64 k∧Below w.heap.size w wr∧(ns.take k).all D.good=true) (fun i _=>n - (intOf i).toNat)
 case atStart=>exact⟨0,zF _,rfl,zB _ _,by simp⟩
 case round =>
  obtain⟨k,hk,rfl,hbel,hno⟩:=hrel
  have HNO:=aH hno
  have HBE:=aH hbel
  clear hno hbel
  by_cases hlt:k < n
  ·have hkl:k < ns.length:=by rw[HL.out];exact hlt
   obtain⟨b,o,rfl,hb,hc⟩:=(HX.out.below HBE.out).str hlt HL.out
   have HTK:=aH (bI hkl)
   have HMEM:=aH (List.getElem_mem hkl)
   have hsz:=HS.out _ (List.getElem_mem hkl)
   generalize ns[k]'hkl=y at *
   have HC:=aH (aEI y wr hsz)
   clear hkl hsz
   cases hg:D.good y
   ·rw[hg]at HC
    have HG:=aH hg
    clear hg
    go_wp2_with fail
    refine HC.out.mono ?_
    rintro e w1 ⟨rfl,hb1⟩
    go_wp2
    go_ret
    refine⟨k,rfl,aA HBE.out.size HBE.out hb1,fun _=>?_,fun _=>by omega⟩
    rw[Bool.eq_false_iff]
    intro h
    rw[List.all_eq_true.1 h y HMEM.out]at HG
    cases HG.out
   ·rw[hg]at HC
    have HG:=aH hg
    clear hg
    go_wp2_with fail
    refine HC.out.mono ?_
    rintro e w1 ⟨rfl,hb1⟩
    go_wp2
    go_roundw
    case rel=>exact⟨k+1,by omega,by go_num,aA HBE.out.size HBE.out hb1,by rw[HTK.out,List.all_append,HNO.out];simp [HG.out]⟩
    case measure=>simp [intOf];omega
  ·have hall:ns.all D.good=true:=by
    have:=HNO.out
    rwa [List.take_of_length_le (by have:=HL.out;omega)]at this
   have HALL:=aH hall
   clear hall HNO
   go_wp2
   go_ret
   exact⟨-1,rfl,HBE.out,fun h=>absurd h (by decide),fun h=>by rw[HALL.out]at h;cases h⟩
theorem uY (A:Option Addr) (n c:Nat) (ns:List ByteArray) (w:World) (hn:n≤1099511627776) (hl:ns.length=n) (hs:NSml ns) (hx:Rd w A n 1 (aF ns)) :
  Calls Tryz.prog 166 #[.slice A n c,.func (.func 167) #[] #[]] w (qP w (!ns.all D.good)):=by
 have HI:=aH (aB4 A n c ns w hn hl hs hx)
 clear hx hl hs
 go_enter Tryz.func166,Tryz.ntmps166
 go_wp2_with fail
 refine HI.out.mono ?_
 rintro e w1 ⟨z,rfl,hb,hz⟩
 by_cases h0:0≤z
 ·have h0i:z≥0:=h0
  have hm:=hz.1 h0
  go_wp2
  go_ret
  exact⟨aQ (by rw[hm];rfl),hb⟩
 ·have h0i:¬ z≥0:=h0
  have hm:ns.all D.good=true:=by
   cases h:ns.all D.good
   ·exact absurd (hz.2 h) h0
   ·rfl
  go_wp2
  go_ret
  exact⟨aQ (by rw[hm];rfl),hb⟩
def bF (B:Nat) (M:DM) (s:D.Dsk) (w:World) (x:D.Dsk × Int) (e:Ending) (w':World):Prop:=e=.returned (.int .i64 x.2)∧∃ M',dD B M' x.1 w'∧Stepped M s w M' x.1 w'
theorem vN (B:Nat) (M:DM) (s:D.Dsk) (A:Option Addr) (n c:Nat) (ns:List ByteArray) (w:World) (h:dD B M s w) (hsn:0≤s.n∧s.n≤1099511627776) (hfl:s.fails.length≤1099511627776) (hn:n≤1099511627776) (hl:ns.length=n) (hs:NSml ns) (hx:Rd w A n 1 (aF ns)) (hA:0 < n→∀ a,A=some a→a.block≠M.d) :
  Calls Tryz.prog 133 #[.pointer (some ⟨M.d,0,none⟩),.slice A n c] w (fun e w'=>e=.returned (.int .i64 (s.begin ns).2)∧dD B M (s.begin ns).1 w'∧Stepped M s w M (s.begin ns).1 w'):=by
 have HD:=aH h
 have HX:=aH hx
 have HDW:=aH (aAF B M s w h)
 have HCB:=aH (fun (u:World) (hr:Rd u A n 1 (aF ns))=>uY A n c ns u hn hl hs hr)
 clear h hx hl hs
 obtain⟨G,hG⟩:∃ G,s.begin ns=G:=⟨_,rfl⟩
 have HG:Hid (G=if s.down then (s,93) else ({ s with n:=s.n+1 },if decide (s.n+1∈s.fails) then 94 else if ns.all D.good then 0 else 95)):=aH (by rw[← hG];rfl)
 rw[hG]
 clear hG
 go_enter Tryz.func133,Tryz.ntmps133
 go_wp2_with fail
 refine HDW.out.mono ?_
 rintro e w1 ⟨rfl,hb1⟩
 have HD1:=aH (HD.out.below hb1)
 have HX1:=aH (HX.out.below hb1)
 have HS1:Hid (Stepped M s w M s w1):=aH (Stepped.below hb1)
 clear hb1 HD HX HDW
 cases hdn:s.down
 rotate_left
 ·rw[hdn,if_pos rfl]at HG
  go_wp2
  go_ret
  exact⟨by rw[HG.out];rfl,by rw[HG.out];exact HD1.out,by rw[HG.out];exact HS1.out⟩
 rw[hdn,if_neg (by decide)]at HG
 obtain⟨y0,y1,y2,y3,y4,y5,y6,y7⟩:=HD1.out.cells
 have f7:=HD1.out.blk.free 7
 have HD2:=aH (HD1.out.count (s.n+1))
 have HS2:Hid (Stepped M s w M { s with n:=s.n+1 } (w1.setCell ⟨M.d,7,none⟩ (.int .i64 (s.n+1)))):=aH (HS1.out.trans (Stepped.set rfl))
 have hX1a:=HX1.out
 have HX2:Hid (Rd (w1.setCell ⟨M.d,7,none⟩ (.int .i64 (s.n+1))) A n 1 (aF ns)):=aH (hX1a.farD hA 7 _)
 clear HD1 HS1 HX1 hX1a hA
 go_upto_region 4 with fail
 clear y0 y1 y2 y3 y4 y5 y6 y7 f7
 generalize w1.setCell ⟨M.d,7,none⟩ (.int .i64 (s.n+1))=w2 at *
 have hS0:dD B M { s with n:=s.n+1 } w2.drew:=HD2.out.below (zB _ _).drew
 refine wp_region_noPanic ?_
 refine HT.begin (n:=8) (S:=(fun u=>dD B M { s with n:=s.n+1 } u)) (by kernel_rfl) hS0 ?_
 have HS3:=aH (HS2.out.trans (Stepped.below (zB _ _).drew):Stepped M s w M { s with n:=s.n+1 } w2.drew)
 have HX3:=aH (HX2.out.drew)
 clear HS2 HX2 HD2
 generalize w2.drew=w3 at *
 refine HT.take 0 (.pointer (some ⟨M.d,0,none⟩)) rfl (by kernel_rfl) (fun _ _ _ h=>h) (Or.inl ⟨by rfl,?_⟩) ?_
 ·intro u hu
  go_simp
 refine HT.take 1 (.pointer (some ⟨M.d,0,none⟩)) rfl (by kernel_rfl) (fun _ _ _ h=>h) (Or.inl ⟨by rfl,?_⟩) ?_
 ·intro u hu
  go_simp
 refine HT.take 2 (.pointer (some ⟨M.d,5,none⟩)) rfl (by kernel_rfl) (fun _ _ _ h=>h) (Or.inl ⟨by rfl,?_⟩) ?_
 ·intro u hu
  go_simp
 refine HT.take 3 (.slice M.FA s.fails.length M.fc) rfl (by kernel_rfl) (fun _ _ _ h=>h) (Or.inl ⟨by rfl,?_⟩) ?_
 ·intro u hu
  obtain⟨y0,y1,y2,y3,y4,y5,y6,y7⟩:=hu.cells
  go_simp
 refine HT.take 4 (.pointer (some ⟨M.d,0,none⟩)) rfl (by kernel_rfl) (fun _ _ _ h=>h) (Or.inl ⟨by rfl,?_⟩) ?_
 ·intro u hu
  go_simp
 refine HT.take 5 (.pointer (some ⟨M.d,0,none⟩)) rfl (by kernel_rfl) (fun _ _ _ h=>h) (Or.inl ⟨by rfl,?_⟩) ?_
 ·intro u hu
  go_simp
 refine HT.take 6 (.pointer (some ⟨M.d,7,none⟩)) rfl (by kernel_rfl) (fun _ _ _ h=>h) (Or.inl ⟨by rfl,?_⟩) ?_
 ·intro u hu
  go_simp
 refine HT.take 7 (.int .i64 (s.n+1)) rfl (by kernel_rfl) (fun _ _ _ h=>h) (Or.inl ⟨by rfl,?_⟩) (?_:HT _ _ _ _ _ _ _ ⟨#[_,_,_,_,_,_,_,_,_,_,_,_,_,_,.pointer (some ⟨M.d,0,none⟩),.pointer (some ⟨M.d,0,none⟩),.pointer (some ⟨M.d,5,none⟩),.slice M.FA s.fails.length M.fc,.pointer (some ⟨M.d,0,none⟩),.pointer (some ⟨M.d,0,none⟩),.pointer (some ⟨M.d,7,none⟩),.int .i64 (s.n+1),_,_,_],[]⟩ _)
 ·intro u hu
  obtain⟨y0,y1,y2,y3,y4,y5,y6,y7⟩:=hu.cells
  go_simp
 refine HT.tail _ rfl rfl (by kernel_rfl) (fun hS=>?_)
 have HS:=aH hS
 clear hS hS0
 go_wp2_with fail
 refine (aAJ M.FA s.fails.length M.fc s.fails (s.n+1) w3 hfl rfl HS.out.fails.rd).mono ?_
 rintro e w4 ⟨rfl,rfl⟩
 cases hin:decide (s.n+1∈s.fails)
 rotate_left
 ·rw[hin,if_pos rfl]at HG
  go_wp2
  refine NoPanic.normal ?_
  go_wp2
  go_ret
  exact⟨by rw[HG.out];rfl,by rw[HG.out];exact HS.out,by rw[HG.out];exact HS3.out⟩
 rw[hin,if_neg (by decide)]at HG
 have HCC:=aH (HCB.out _ HX3.out)
 go_wp2
 refine NoPanic.normal ?_
 go_wp2_with fail
 refine HCC.out.mono ?_
 rintro e w5 ⟨rfl,hb5⟩
 cases hall:ns.all D.good
 ·rw[hall,if_neg (by decide)]at HG
  go_wp2
  go_ret
  exact⟨by rw[HG.out];rfl,by rw[HG.out];exact HS.out.below hb5,by rw[HG.out];exact HS3.out.trans (Stepped.below hb5)⟩
 ·rw[hall,if_pos rfl]at HG
  go_wp2
  go_ret
  exact⟨by rw[HG.out];rfl,by rw[HG.out];exact HS.out.below hb5,by rw[HG.out];exact HS3.out.trans (Stepped.below hb5)⟩
end Go.Proofs.YthjeglnkgdpijaaGreatDoor
namespace Go.Proofs.YthjeglnkgdpijaaGreatDoor
open Go.RowKit
def fE (w:World) (r:P.RS) (e:Ending) (w':World):Prop :=
 ∃ A c,e=.returned (.tuple #[.agg #[.int .i64 r.s,.string r.r,.int .i64 r.v,.slice A r.fs.length c],.int .i64 r.n,.int .i64 r.e])∧Row w' w.heap.size 60 2 A r.fs.length c (aJ r.fs)∧Below w.heap.size w w'
theorem fE.bad {w w':World} {r:P.RS} {code:Int} (hb:Below w.heap.size w w') (h:r=.bad code):fE w r (.returned (.tuple #[.agg #[.int .i64 0,.string ⟨#[]⟩,.int .i64 0,.slice none 0 0],.int .i64 0,.int .i64 code])) w':=by
 subst h
 exact⟨none,0,rfl,Row.empty _ _ _ _ _,hb⟩
theorem aGB (l:List UInt8):P.sJ l=50∨P.sJ l=0∨P.sJ l=52:=by
 unfold P.sJ
 split
 ·exact .inl rfl
 ·split
  ·exact .inr (.inl rfl)
  ·exact .inr (.inr rfl)
theorem aKS {l:List UInt8} (h:¬ l.length=3):P.lY l=false:=by
 unfold P.lY
 rw[decide_eq_false h,Bool.false_and]
theorem aCJ {l:List UInt8} (h:l.length=3):P.lY l=l.all P.dig:=by
 unfold P.lY
 rw[decide_eq_true h,Bool.true_and]
theorem B_ne {l:List UInt8} (h:l≠[]):¬ (B l).toList=[]∧(B l).toList.isEmpty=false:=by
 have e:(B l).toList=l:=by rw[fQ];exact L_B l
 rw[e]
 exact⟨h,by simpa using h⟩
theorem zV (A:Option Addr) (n c:Nat) (bs:List UInt8) (w:World) (hnm:n≤1073741824) (hnc:n≤c) (hA:A=none→n=0∧c=0) (hpl:∀ a,A=some a→a.spot=none∨c=0) (hx:Rd w A n 1 (aB bs)) (ht:lH w) (he:aAQ w) :
  Calls Tryz.prog 172 #[.slice A n c] w (fE w (P.response bs)):=by
 have hll:=eF hx
 have HT:=aH (fun (u:World) (hu:Below w.heap.size w u)=>ht.below hu)
 have HE:=aH (fun (u:World) (hu:Below w.heap.size w u)=>he.below hu)
 have HCT:=aH (fun (u:World) (hu:Below w.heap.size w u)=>aM3 A n c 0 bs u hnm hnc (zF _) hA hpl (hx.below hu) (ht.below hu))
 have HK0:=aH (Blk.new w #[.int .i64 0,.string ⟨#[]⟩,.int .i64 0,.slice none 0 0] 38)
 have HB0:=aH ((zB w.heap.size w).alloc (zA _) (.cells #[.int .i64 0,.string ⟨#[]⟩,.int .i64 0,.slice none 0 0] 38))
 obtain⟨Q,hQ⟩:∃ Q,P.response bs=Q:=⟨_,rfl⟩
 rw[hQ]
 have HQ:Hid (Q=if P.hE bs 0≠0∨P.hN bs 0=0 then P.RS.bad (P.hE bs 0) else P.aE4 (P.oV bs 0) (P.jT bs 0) (P.hN bs 0)):=aH (by rw[← hQ];rfl)
 have HLLE:=aH (P.aFM bs 0)
 have HLL:=aH hll
 clear hQ hx ht he hll hA hpl
 go_enter Tryz.func172,Tryz.ntmps172
 go_wp2_with fail
 generalize w.alloc (.cells #[.int .i64 0,.string ⟨#[]⟩,.int .i64 0,.slice none 0 0] 38)=w0 at *
 refine (HCT.out _ HB0.out).mono ?_
 rintro e w2 ⟨ln,A2,n2,c2,rfl,hb2,hcutf⟩
 have HK2:=aH (HK0.out.below hb2)
 have HB2:=aH (aA HB0.out.size HB0.out hb2)
 have HCF:=aH hcutf
 have HW2:=aH hb2
 clear hb2 HCT HK0 HB0 hcutf
 generalize P.hE bs 0=E0 at *
 generalize P.hN bs 0=N0 at *
 generalize P.oV bs 0=LN at *
 generalize P.jT bs 0=BK at *
 by_cases hbad:E0≠0∨N0=0
 ·have HBAD:Hid (Q=.bad E0):=aH (HQ.out.trans (if_pos hbad))
  by_cases hE:E0=0
  ·have hN:N0=0:=hbad.resolve_left (fun h=>h hE)
   subst hE
   subst hN
   clear hbad HQ HCF
   obtain⟨x0,x1,x2,x3⟩:=HK2.out.cells4
   obtain⟨f0,f1,f2,f3⟩:=HK2.out.free4
   go_wp2
   obtain⟨z0,z1,z2,z3⟩:=(HK2.out.set4 (.int .i64 0) (.string ⟨#[]⟩) (.int .i64 0) (.slice none 0 0)).cells4
   refine bK (v:=.tuple #[.agg #[.int .i64 0,.string ⟨#[]⟩,.int .i64 0,.slice none 0 0],.int .i64 0,.int .i64 0]) (by simp [results,Tryz.results172,go_sem,z0,z1,z2,z3]) rfl ?_
   exact fE.bad (bY HB2.out (zA _) _ _ _ _) HBAD.out
  ·have hEb:(E0 != 0)=true:=by simpa using hE
   clear hbad HQ HCF
   obtain⟨x0,x1,x2,x3⟩:=HK2.out.cells4
   obtain⟨f0,f1,f2,f3⟩:=HK2.out.free4
   go_wp2
   obtain⟨z0,z1,z2,z3⟩:=(HK2.out.set4 (.int .i64 0) (.string ⟨#[]⟩) (.int .i64 0) (.slice none 0 0)).cells4
   refine bK (v:=.tuple #[.agg #[.int .i64 0,.string ⟨#[]⟩,.int .i64 0,.slice none 0 0],.int .i64 0,.int .i64 E0]) (by simp [results,Tryz.results172,go_sem,z0,z1,z2,z3]) rfl ?_
   exact fE.bad (bY HB2.out (zA _) _ _ _ _) HBAD.out
 ·have HQ2:=aH (HQ.out.trans (if_neg hbad))
  have hE:E0=0:=by
   rcases (by omega:E0=0∨E0≠0) with h | h
   ·exact h
   ·exact absurd (.inl h) hbad
  have hN:¬ N0=0:=fun h=>hbad (.inr h)
  obtain⟨hln,hrd2,hn2c,hc2c,hn2l⟩:=HCF.out hE hN
  subst hE
  subst hln
  have hNb:(N0==0)=false:=by simpa using hN
  have HR:=aH (hrd2.below HW2.out)
  have hn2:n2≤1073741824:=by rw[HLL.out]at hn2l;omega
  have hlle:LN.length≤1073741824:=by have h1:=HLLE.out;rw[HLL.out]at h1;omega
  have m1:=P.uH LN
  have m2:=P.nS LN
  have m3:=P.uH (P.behind LN)
  have m4:=P.nS (P.behind LN)
  have hbulk:=P.lT BK.length [] BK (zA _) (by simp)
  have hbl:=eF hrd2
  have HC1:Hid (∀ u,Below w.heap.size w u→Calls Tryz.prog 193 #[.string (B LN),.string ⟨#[32]⟩] u fun e w'=>e=.returned (.tuple #[.string (B (P.methodOf LN)),.string (B (P.behind LN)),.bool (!(P.from_ P.sp LN).isEmpty)])∧Below u.heap.size u w'):=aH (fun u hu=>aEB (B LN) 32 u (by rw[iZ];omega) (HT.out u hu))
  have HC2:Hid (∀ u,Below w.heap.size w u→Calls Tryz.prog 193 #[.string (B (P.behind LN)),.string ⟨#[32]⟩] u fun e w'=>e=.returned (.tuple #[.string (B (P.methodOf (P.behind LN))),.string (B (P.behind (P.behind LN))),.bool (!(P.from_ P.sp (P.behind LN)).isEmpty)])∧Below u.heap.size u w'):=aH (fun u hu=>aEB (B (P.behind LN)) 32 u (by rw[iZ];omega) (HT.out u hu))
  have HAT:Hid (∀ u,Below w.heap.size w u→Calls Tryz.prog 194 #[.string (B (P.methodOf (P.behind LN)))] u (RetA u (P.methodOf (P.behind LN)))):=aH (fun u hu=>aNW (B (P.methodOf (P.behind LN))) u (by rw[iZ];omega) (HE.out u hu))
  have HVR:Hid (∀ u,Calls Tryz.prog 195 #[.string (B (P.methodOf LN))] u fun e w'=>e=.returned (.tuple #[.int .i64 (P.aC0 (P.methodOf LN)),.int .i64 (P.sJ (P.methodOf LN))])∧u=w'):=aH (fun u=>aCZ (B (P.methodOf LN)) u)
  have HTR:Hid (∀ u,Calls Tryz.prog 88 #[.string (B (P.methodOf (P.behind LN))),.string ⟨#[48,49,50,51,52,53,54,55,56,57]⟩] u (aEM u (B (Lib.trimS (P.methodOf (P.behind LN)) aNG)))):=aH (fun u=>aQA (B (P.methodOf (P.behind LN))) u (by rw[iZ];omega))
  have HTX:Hid (∀ u,Calls Tryz.prog 154 #[.string (B (P.behind (P.behind LN)))] u (qP u (F.text (B (P.behind (P.behind LN)))))):=aH (fun u=>aEX (B (P.behind (P.behind LN))) u (by rw[iZ];omega))
  have HPA:=aH (fun u (hu:Below w.heap.size w u) (hr:Rd u A2 n2 1 (aB BK))=>parse_any A2 n2 c2 BK u (by omega) hn2c hr (HT.out u hu))
  have HQ3:Hid (Q=if P.sJ (P.methodOf LN)=50∨P.lY (P.methodOf (P.behind LN))=false∨F.text (B (P.behind (P.behind LN)))=false then .bad 50
   else if P.sJ (P.methodOf LN)=0∧(P.stat (P.methodOf (P.behind LN)) < 100∨599 < P.stat (P.methodOf (P.behind LN))) then .bad 53
   else if P.sJ (P.methodOf LN)≠0 then .bad (P.sJ (P.methodOf LN))
   else if (P.parse [] BK).2≠0 then .bad (P.parse [] BK).2
   else ⟨P.stat (P.methodOf (P.behind LN)),B (P.behind (P.behind LN)),P.aC0 (P.methodOf LN),(P.parse [] BK).1,N0,0⟩):=HQ2
  have hvc:=aGB (P.methodOf LN)
  have HCS:Hid ((B (P.methodOf (P.behind LN))).size=(P.methodOf (P.behind LN)).length):=aH (iZ _)
  clear HQ HQ2 hbad HCF hbulk hlle HLLE hrd2 hn2l HLL HW2 m1 m2 m3 m4
  generalize B LN=l0 at *
  generalize B (P.behind LN)=l1 at *
  generalize B (P.methodOf LN)=pr at *
  generalize F.text (B (P.behind (P.behind LN)))=tx at *
  generalize B (P.behind (P.behind LN))=rs at *
  generalize P.sJ (P.methodOf LN)=VE at *
  generalize P.aC0 (P.methodOf LN)=VN at *
  generalize (!(P.from_ P.sp LN).isEmpty)=k1 at *
  generalize (!(P.from_ P.sp (P.behind LN)).isEmpty)=k2 at *
  generalize P.methodOf (P.behind LN)=CD at *
  generalize B CD=cd at *
  go_wp2_with fail
  refine (HC1.out _ HB2.out).mono ?_
  rintro e w3 ⟨rfl,hb3⟩
  have HK3:=aH (HK2.out.below hb3)
  have HB3:=aH (aA HB2.out.size HB2.out hb3)
  have HR3:=aH (HR.out.below hb3)
  clear hb3 HC1 HK2 HB2 HR
  go_wp2_with fail
  refine (HC2.out _ HB3.out).mono ?_
  rintro e w4 ⟨rfl,hb4⟩
  have HK4:=aH (HK3.out.below hb4)
  have HB4:=aH (aA HB3.out.size HB3.out hb4)
  have HR4:=aH (HR3.out.below hb4)
  clear hb4 HC2 HK3 HB3 HR3
  go_wp2_with fail
  refine (HAT.out _ HB4.out).mono ?_
  rintro e w5 ⟨v,b,rfl,hat,hb5⟩
  have HK5:=aH (HK4.out.below hb5)
  have HB5:=aH (aA HB4.out.size HB4.out hb5)
  have HR5:=aH (HR4.out.below hb5)
  have HV:=aH hat
  clear hb5 HAT HK4 HB4 HR4 hat
  go_wp2_with fail
  refine (HVR.out _).mono ?_
  rintro e w' ⟨rfl,rfl⟩
  clear HVR
  by_cases hv50:VE=50
  ·have HBAD:Hid (Q=.bad 50):=aH (HQ3.out.trans (if_pos (.inl hv50)))
   subst hv50
   clear HQ3 HV hvc HTR HTX HPA
   obtain⟨x0,x1,x2,x3⟩:=HK5.out.cells4
   obtain⟨f0,f1,f2,f3⟩:=HK5.out.free4
   go_wp2
   obtain⟨z0,z1,z2,z3⟩:=(HK5.out.set4 (.int .i64 0) (.string ⟨#[]⟩) (.int .i64 0) (.slice none 0 0)).cells4
   refine bK (v:=.tuple #[.agg #[.int .i64 0,.string ⟨#[]⟩,.int .i64 0,.slice none 0 0],.int .i64 0,.int .i64 50]) (by simp [results,Tryz.results172,go_sem,z0,z1,z2,z3]) rfl ?_
   exact fE.bad (bY HB5.out (zA _) _ _ _ _) HBAD.out
  ·have hv50b:(VE==50)=false:=by simpa using hv50
   by_cases hl3:CD.length=3
   ·have hl3i:((cd.size:Int) != 3)=false:=by rw[HCS.out,hl3];rfl
    by_cases hnil:b=.nilIface
    ·subst hnil
     rcases tf (CD.all P.dig) with had | had
     ·-- three digits
      have hc3:P.lY CD=true:=by rw[aCJ hl3];exact had
      have htr:Lib.trimS CD aNG=[]:=(aAU CD).2 had
      have hvv:v=P.stat CD:=by
       rcases HV.out with ⟨_,h⟩ | ⟨⟨t,p,h⟩,_⟩
       ·rw[aCQ hc3]at h
        injection h with h
        exact h.symm
       ·cases h
      subst hvv
      rw[htr]at HTR
      replace HTR:Hid (∀ u,Calls Tryz.prog 88 #[.string cd,.string ⟨#[48,49,50,51,52,53,54,55,56,57]⟩] u (aEM u ⟨#[]⟩)):=HTR
      clear HV had htr
      go_wp2_with fail
      refine (HTR.out _).mono ?_
      rintro e w6 ⟨rfl,hb6⟩
      have HK6:=aH (HK5.out.below hb6)
      have HB6:=aH (aA HB5.out.size HB5.out hb6)
      have HR6:=aH (HR5.out.below hb6)
      clear hb6 HTR HK5 HB5 HR5
      go_wp2_with fail
      refine (HTX.out _).mono ?_
      rintro e w7 ⟨rfl,hb7⟩
      have HK7:=aH (HK6.out.below hb7)
      have HB7:=aH (aA HB6.out.size HB6.out hb7)
      have HR7:=aH (HR6.out.below hb7)
      clear hb7 HTX HK6 HB6 HR6
      cases tx
      ·have HBAD:Hid (Q=.bad 50):=aH (HQ3.out.trans (if_pos (.inr (.inr rfl))))
       clear HQ3 HPA
       obtain⟨x0,x1,x2,x3⟩:=HK7.out.cells4
       obtain⟨f0,f1,f2,f3⟩:=HK7.out.free4
       go_wp2
       obtain⟨z0,z1,z2,z3⟩:=(HK7.out.set4 (.int .i64 0) (.string ⟨#[]⟩) (.int .i64 0) (.slice none 0 0)).cells4
       refine bK (v:=.tuple #[.agg #[.int .i64 0,.string ⟨#[]⟩,.int .i64 0,.slice none 0 0],.int .i64 0,.int .i64 50]) (by simp [results,Tryz.results172,go_sem,z0,z1,z2,z3]) rfl ?_
       exact fE.bad (bY HB7.out (zA _) _ _ _ _) HBAD.out
      ·have HQ4:=aH (HQ3.out.trans (if_neg (by
        rintro (h | h | h)
        ·exact hv50 h
        ·rw[hc3]at h;cases h
        ·cases h)))
       clear HQ3 hc3
       generalize P.stat CD=S at *
       obtain⟨x0,x1,x2,x3⟩:=HK7.out.cells4
       obtain⟨f0,f1,f2,f3⟩:=HK7.out.free4
       by_cases hve:VE=0
       ·subst hve
        by_cases hs1:S < 100
        ·have HBAD:Hid (Q=.bad 53):=aH (HQ4.out.trans (if_pos ⟨rfl,.inl hs1⟩))
         have hs1b:decide (S < 100)=true:=by simpa using hs1
         clear HQ4 HPA
         go_wp2
         obtain⟨z0,z1,z2,z3⟩:=(HK7.out.set4 (.int .i64 0) (.string ⟨#[]⟩) (.int .i64 0) (.slice none 0 0)).cells4
         refine bK (v:=.tuple #[.agg #[.int .i64 0,.string ⟨#[]⟩,.int .i64 0,.slice none 0 0],.int .i64 0,.int .i64 53]) (by simp [results,Tryz.results172,go_sem,z0,z1,z2,z3]) rfl ?_
         exact fE.bad (bY HB7.out (zA _) _ _ _ _) HBAD.out
        ·have hs1b:decide (S < 100)=false:=by simpa using hs1
         by_cases hs2:599 < S
         ·have HBAD:Hid (Q=.bad 53):=aH (HQ4.out.trans (if_pos ⟨rfl,.inr hs2⟩))
          have hs2b:decide (S > 599)=true:=by simpa using hs2
          clear HQ4 HPA
          go_wp2
          obtain⟨z0,z1,z2,z3⟩:=(HK7.out.set4 (.int .i64 0) (.string ⟨#[]⟩) (.int .i64 0) (.slice none 0 0)).cells4
          refine bK (v:=.tuple #[.agg #[.int .i64 0,.string ⟨#[]⟩,.int .i64 0,.slice none 0 0],.int .i64 0,.int .i64 53]) (by simp [results,Tryz.results172,go_sem,z0,z1,z2,z3]) rfl ?_
          exact fE.bad (bY HB7.out (zA _) _ _ _ _) HBAD.out
         ·have hs2b:decide (S > 599)=false:=by simpa using hs2
          have HQ5:=aH ((HQ4.out.trans (if_neg (by rintro⟨_,h | h⟩;exact hs1 h;exact hs2 h))).trans (if_neg (by decide)))
          have HK8:=aH (HK7.out.alloc (.cells #[.int .i64 S,.string rs,.int .i64 VN,.slice none 0 0] 38))
          have HB8:=aH (HB7.out.alloc HB7.out.size (.cells #[.int .i64 S,.string rs,.int .i64 VN,.slice none 0 0] 38))
          have HR8:=aH (HR7.out.alloc (.cells #[.int .i64 S,.string rs,.int .i64 VN,.slice none 0 0] 38))
          have HM8:=aH (Blk.new w7 #[.int .i64 S,.string rs,.int .i64 VN,.slice none 0 0] 38)
          have HNE:Hid (w7.heap.size≠w.heap.size):=aH (by have:=HK7.out.lt;omega)
          have HBZ:Hid (w.heap.size≤w7.heap.size):=aH HB7.out.size
          clear HQ4 HK7 HB7 HR7 x0 x1 x2 x3 f0 f1 f2 f3
          go_wp2_with fail
          generalize w7.heap.size=b7 at *
          generalize w7.alloc (.cells #[.int .i64 S,.string rs,.int .i64 VN,.slice none 0 0] 38)=w8 at *
          refine (HPA.out _ HB8.out HR8.out).mono ?_
          rintro e w9 ⟨A3,c3,rfl,hr9,hb9⟩
          have HK9:=aH (HK8.out.below hb9)
          have HM9:=aH (HM8.out.below hb9)
          have HB9:=aH (aA HB8.out.size HB8.out hb9)
          have HR9:=aH (hr9.mono HB8.out.size)
          clear hb9 hr9 HPA HR8 HK8 HB8 HM8
          obtain⟨FS,PE,hPP⟩:∃ FS PE,P.parse [] BK=(FS,PE):=⟨_,_,rfl⟩
          rw[hPP]at HR9
          replace HR9:Hid (Row w9 w.heap.size 60 2 A3 FS.length c3 (aJ FS)):=HR9
          rw[show (P.parse [] BK).1=FS by rw[hPP],show (P.parse [] BK).2=PE by rw[hPP]]
          have HQ6:Hid (Q=if PE≠0 then .bad PE else ⟨S,rs,VN,FS,N0,0⟩):=aH (by
           have h:=HQ5.out
           rw[show (P.parse [] BK).1=FS by rw[hPP],show (P.parse [] BK).2=PE by rw[hPP]]at h
           exact h)
          clear hPP HQ5
          obtain⟨y0,y1,y2,y3⟩:=HM9.out.cells4
          obtain⟨g0,g1,g2,g3⟩:=HM9.out.free4
          have HK10:=aH (HK9.out.far 3 (.slice A3 FS.length c3) HNE.out)
          have HB10:=aH (aK HB9.out HBZ.out 3 (.slice A3 FS.length c3))
          have HM10:=aH (HM9.out.set 3 (.slice A3 FS.length c3))
          have HR10:=aH (HR9.out.farT HM9.out (by decide) 3 (.slice A3 FS.length c3))
          by_cases hpe:PE=0
          ·subst hpe
           have HRES:=aH (HQ6.out.trans (if_neg (by decide)))
           obtain⟨x0,x1,x2,x3⟩:=HK10.out.cells4
           obtain⟨f0,f1,f2,f3⟩:=HK10.out.free4
           obtain⟨u0,u1,u2,u3⟩:=HM10.out.cells4
           clear HQ6 HK9 HB9 HM9 HR9
           go_wp2
           obtain⟨z0,z1,z2,z3⟩:=(HK10.out.set4 (.int .i64 S) (.string rs) (.int .i64 VN) (.slice A3 FS.length c3)).cells4
           refine bK (v:=.tuple #[.agg #[.int .i64 S,.string rs,.int .i64 VN,.slice A3 FS.length c3],.int .i64 N0,.int .i64 0]) (by simp [results,Tryz.results172,go_sem,z0,z1,z2,z3]) rfl ?_
           rw[HRES.out]
           exact⟨A3,c3,rfl,HR10.out.farT4 HK10.out (by decide) _ _ _ _,bY HB10.out (zA _) _ _ _ _⟩
          ·have hpeb:(PE != 0)=true:=by simpa using hpe
           have HBAD:Hid (Q=.bad PE):=aH (HQ6.out.trans (if_pos hpe))
           obtain⟨x0,x1,x2,x3⟩:=HK10.out.cells4
           obtain⟨f0,f1,f2,f3⟩:=HK10.out.free4
           clear HQ6 HK9 HB9 HR9 HM9
           go_wp2
           obtain⟨z0,z1,z2,z3⟩:=(HK10.out.set4 (.int .i64 0) (.string ⟨#[]⟩) (.int .i64 0) (.slice none 0 0)).cells4
           refine bK (v:=.tuple #[.agg #[.int .i64 0,.string ⟨#[]⟩,.int .i64 0,.slice none 0 0],.int .i64 0,.int .i64 PE]) (by simp [results,Tryz.results172,go_sem,z0,z1,z2,z3]) rfl ?_
           exact fE.bad (bY HB10.out (zA _) _ _ _ _) HBAD.out
       ·have hv0b:(VE==0)=false:=by simpa using hve
        have hv0c:(VE != 0)=true:=by simpa using hve
        have HBAD:Hid (Q=.bad VE):=aH ((HQ4.out.trans (if_neg (fun h=>hve h.1))).trans (if_pos hve))
        clear HQ4 HPA
        go_wp2
        obtain⟨z0,z1,z2,z3⟩:=(HK7.out.set4 (.int .i64 0) (.string ⟨#[]⟩) (.int .i64 0) (.slice none 0 0)).cells4
        refine bK (v:=.tuple #[.agg #[.int .i64 0,.string ⟨#[]⟩,.int .i64 0,.slice none 0 0],.int .i64 0,.int .i64 VE]) (by simp [results,Tryz.results172,go_sem,z0,z1,z2,z3]) rfl ?_
        exact fE.bad (bY HB7.out (zA _) _ _ _ _) HBAD.out
     ·-- not digits alone
      have hc3:P.lY CD=false:=by rw[aCJ hl3];exact had
      have htr:Lib.trimS CD aNG≠[]:=fun h=>by rw[(aAU CD).1 h]at had;cases had
      have HBAD:Hid (Q=.bad 50):=aH (HQ3.out.trans (if_pos (.inr (.inl hc3))))
      obtain⟨hb1,hb2⟩:=B_ne htr
      generalize B (Lib.trimS CD aNG)=tm at *
      clear HQ3 HV had htr HTX HPA hc3
      go_wp2_with fail
      refine (HTR.out _).mono ?_
      rintro e w6 ⟨rfl,hb6⟩
      have HK6:=aH (HK5.out.below hb6)
      have HB6:=aH (aA HB5.out.size HB5.out hb6)
      clear hb6 HTR HK5 HB5 HR5
      obtain⟨x0,x1,x2,x3⟩:=HK6.out.cells4
      obtain⟨f0,f1,f2,f3⟩:=HK6.out.free4
      go_wp2
      obtain⟨z0,z1,z2,z3⟩:=(HK6.out.set4 (.int .i64 0) (.string ⟨#[]⟩) (.int .i64 0) (.slice none 0 0)).cells4
      refine bK (v:=.tuple #[.agg #[.int .i64 0,.string ⟨#[]⟩,.int .i64 0,.slice none 0 0],.int .i64 0,.int .i64 50]) (by simp [results,Tryz.results172,go_sem,z0,z1,z2,z3]) rfl ?_
      exact fE.bad (bY HB6.out (zA _) _ _ _ _) HBAD.out
    ·obtain⟨⟨t,p,rfl⟩,hno⟩:(∃ t p,b=.iface t (.pointer p))∧∀ u,Lib.atoiAll CD≠.ok u:=HV.out.resolve_left (fun h=>hnil h.1)
     have hc3:P.lY CD=false:=by
      rcases tf (P.lY CD) with h | h
      ·exact absurd (aCQ h) (hno _)
      ·exact h
     have HBAD:Hid (Q=.bad 50):=aH (HQ3.out.trans (if_pos (.inr (.inl hc3))))
     clear HQ3 HV hnil hno HTR HTX HPA hc3
     obtain⟨x0,x1,x2,x3⟩:=HK5.out.cells4
     obtain⟨f0,f1,f2,f3⟩:=HK5.out.free4
     go_wp2
     obtain⟨z0,z1,z2,z3⟩:=(HK5.out.set4 (.int .i64 0) (.string ⟨#[]⟩) (.int .i64 0) (.slice none 0 0)).cells4
     refine bK (v:=.tuple #[.agg #[.int .i64 0,.string ⟨#[]⟩,.int .i64 0,.slice none 0 0],.int .i64 0,.int .i64 50]) (by simp [results,Tryz.results172,go_sem,z0,z1,z2,z3]) rfl ?_
     exact fE.bad (bY HB5.out (zA _) _ _ _ _) HBAD.out
   ·have hl3i:((cd.size:Int) != 3)=true:=by rw[HCS.out];simp;omega
    have HBAD:Hid (Q=.bad 50):=aH (HQ3.out.trans (if_pos (.inr (.inl (aKS hl3)))))
    clear HQ3 HV HTR HTX HPA
    obtain⟨x0,x1,x2,x3⟩:=HK5.out.cells4
    obtain⟨f0,f1,f2,f3⟩:=HK5.out.free4
    go_wp2
    obtain⟨z0,z1,z2,z3⟩:=(HK5.out.set4 (.int .i64 0) (.string ⟨#[]⟩) (.int .i64 0) (.slice none 0 0)).cells4
    refine bK (v:=.tuple #[.agg #[.int .i64 0,.string ⟨#[]⟩,.int .i64 0,.slice none 0 0],.int .i64 0,.int .i64 50]) (by simp [results,Tryz.results172,go_sem,z0,z1,z2,z3]) rfl ?_
    exact fE.bad (bY HB5.out (zA _) _ _ _ _) HBAD.out
end Go.Proofs.YthjeglnkgdpijaaGreatDoor
