/- The walks of the disk's small functions: Down, Steps, good, slices.Contains at numbers, begin. The walk of the disk's begin: a step is counted, and its names are looked at. The walks of head.PrintResponse and of the document's. Conditions: as each theorem states them. -/
import Derived.Test.YthjeglnkgdpijaaGreatDoorZ12
set_option maxHeartbeats 4000000
set_option maxRecDepth 100000
namespace Go.Proofs.YthjeglnkgdpijaaGreatDoor
open Go Go.RowKit Go.Maps
namespace D
def okS:List UInt8:=[97,98,99,100,101,102,103,104,105,106,107,108,109,110,111,112,113,114,115,116,117,118,119,120,121,122,48,49,50,51,52,53,54,55,56,57,46,45,95,47]
theorem aP7 (c:UInt8):okB c=okS.contains c:=by
 have h:∀ n:Fin 256,okB (UInt8.ofNat n.1)=okS.contains (UInt8.ofNat n.1):=by decide +kernel
 have:=h ⟨c.toNat,c.toNat_lt⟩
 simpa using this
theorem aKS (S l:List UInt8):Lib.trimS l S=[]↔l.all (fun c=>S.contains c)=true:=by
 unfold Lib.trimS Lib.trimLeftS Lib.trimRightS
 rw[List.all_eq_true]
 constructor
 ·intro h
  rw[drop_nil]at h
  have h2:l.reverse.dropWhile (fun c=>S.contains c)=[]:=by
   cases h3:l.reverse.dropWhile (fun c=>S.contains c) with
   | nil=>rfl
   | cons x r =>
    have h4:=List.head_dropWhile_not (fun c=>S.contains c) (l:=l.reverse) (by rw[h3];simp)
    simp only[h3,List.head_cons]at h4
    have h5:=h x (by rw[h3];simp)
    rw[h4]at h5
    cases h5
  rw[drop_nil]at h2
  exact fun x hx=>h2 x (by simpa using hx)
 ·intro h
  have h2:l.reverse.dropWhile (fun c=>S.contains c)=[]:=by
   rw[drop_nil]
   exact fun x hx=>h x (by simpa using hx)
  rw[h2]
  rfl
end D
theorem aP6 (s:ByteArray) (w:World) (hs:s.size≤1099511627776):Calls Tryz.prog 88 #[.string s,.string ⟨#[97,98,99,100,101,102,103,104,105,106,107,108,109,110,111,112,113,114,115,116,117,118,119,120,121,122,48,49,50,51,52,53,54,55,56,57,46,45,95,47]⟩] w (aDU w (B (Lib.trimS (L s) D.okS))):=by
 refine (Any.strings_Trim_laid Tryz.lays160 (by kernel_rfl) s ⟨#[97,98,99,100,101,102,103,104,105,106,107,108,109,110,111,112,113,114,115,116,117,118,119,120,121,122,48,49,50,51,52,53,54,55,56,57,46,45,95,47]⟩ w (by omega) (by decide) (ascii_of_all (by decide))).mono ?_
 rintro e w' ⟨rfl,hb⟩
 exact⟨rfl,hb⟩
theorem zL (B:Nat) (M:DM) (s:D.Dsk) (w:World) (h:bU B M s w):Calls Tryz.prog 109 #[.pointer (some ⟨M.d,0,none⟩)] w (pR w s.down):=by
 obtain⟨y0,y1,y2,y3,y4,y5,y6,y7⟩:=h.cells
 obtain⟨G,hG⟩:∃ G,s.down=G:=⟨_,rfl⟩
 have HG:Hid (G=(decide (0≤s.power)&&decide (s.n=s.power))):=aH hG.symm
 rw[hG]
 generalize s.power=pw at *
 generalize s.n=nn at *
 clear h hG y0 y1 y2 y3 y4 y5
 go_enter Tryz.func109,Tryz.ntmps109
 by_cases h0:0≤pw
 ·have h0i:pw≥0:=h0
  by_cases h1:nn=pw
  ·have h1b:(nn==pw)=true:=beq_iff_eq.2 h1
   go_upto_region 1 with fail
   go_region
   go_wp2
   go_ret
   exact⟨aP (by rw[HG.out];simp [h0,h1]),(zB _ _).drew⟩
  ·have h1b:(nn==pw)=false:=beq_eq_false_iff_ne.2 h1
   go_upto_region 1 with fail
   go_region
   go_wp2
   go_ret
   exact⟨aP (by rw[HG.out];simp [h0,h1]),(zB _ _).drew⟩
 ·have h0i:¬ pw≥0:=h0
  go_upto_region 1 with fail
  go_region
  go_wp2
  go_ret
  exact⟨aP (by rw[HG.out,decide_eq_false (show ¬ 0≤pw by omega)];rfl),(zB _ _).drew⟩
theorem oZ (s:ByteArray) (w:World) (hs:s.size≤1099511627776):Calls Tryz.prog 48 #[.string s] w (pR w (D.good s)):=by
 have HT:=aH (aP6 s w hs)
 obtain⟨G,hG⟩:∃ G,D.good s=G:=⟨_,rfl⟩
 have HG:Hid (G=((L s).all D.okB&&decide (1≤s.size)&&decide (s.size≤64))):=aH hG.symm
 have HA:Hid (Lib.trimS (L s) D.okS=[]↔(L s).all D.okB=true):=aH (by rw[D.aKS,show (fun c=>D.okS.contains c)=D.okB from funext fun c=>(D.aP7 c).symm])
 rw[hG]
 clear hG
 have hls:s.toList.length=s.size:=by rw[fD];exact aQ s
 by_cases h0:s.size=0
 ·have he:s.toList=[]:=List.eq_nil_of_length_eq_zero (by omega)
  have hs0:s=⟨#[]⟩:=toList_inj.1 (he.trans (by simp))
  subst hs0
  go_enter Tryz.func48,Tryz.ntmps48
  go_wp2
  go_ret
  exact⟨aP (by rw[HG.out];rfl),zB _ _⟩
 ·have hn:¬ s.toList=[]:=fun e=>h0 (by rw[← hls,e];rfl)
  have hnb:s.toList.isEmpty=false:=by cases h:s.toList<;>simp_all
  by_cases h64:s.size≤64
  ·have h64i:(s.size:Int)≤64:=by omega
   clear hls
   by_cases hall:(L s).all D.okB=true
   ·have HT2:Hid (Calls Tryz.prog 88 #[.string s,.string ⟨#[97,98,99,100,101,102,103,104,105,106,107,108,109,110,111,112,113,114,115,116,117,118,119,120,121,122,48,49,50,51,52,53,54,55,56,57,46,45,95,47]⟩] w (aDU w ⟨#[]⟩)):=by
     have:=HT.out
     rw[HA.out.2 hall]at this
     exact aH this
    clear HT HA
    go_enter Tryz.func48,Tryz.ntmps48
    go_wp2_with fail
    refine HT2.out.mono ?_
    rintro e w1 ⟨rfl,hb1⟩
    go_wp2
    go_ret
    exact⟨aP (by rw[HG.out,hall,decide_eq_true (show 1≤s.size by omega),decide_eq_true h64];rfl),hb1⟩
   ·have hne:¬ Lib.trimS (L s) D.okS=[]:=fun e=>hall (HA.out.1 e)
    obtain⟨T,hT⟩:∃ T,B (Lib.trimS (L s) D.okS)=T:=⟨_,rfl⟩
    have hTn:¬ T.toList=[]:=fun e=>hne (by rw[← hT,fD,L_B]at e;exact e)
    have hTb:T.toList.isEmpty=false:=by cases h:T.toList<;>simp_all
    rw[hT]at HT
    clear hT hne HA
    go_enter Tryz.func48,Tryz.ntmps48
    go_wp2_with fail
    refine HT.out.mono ?_
    rintro e w1 ⟨rfl,hb1⟩
    go_wp2
    go_ret
    exact⟨aP (by rw[HG.out,Bool.not_eq_true _ |>.mp hall];rfl),hb1⟩
  ·have h64i:¬ (s.size:Int)≤64:=by omega
   clear hls HT HA
   go_enter Tryz.func48,Tryz.ntmps48
   go_wp2
   go_ret
   exact⟨aP (by rw[HG.out,decide_eq_false h64,Bool.and_false]),zB _ _⟩
theorem aGE (A:Option Addr) (n c:Nat) (zs:List Int) (x:Int) (w:World) (hn:n≤1099511627776) (hl:zs.length=n) (hx:Rd w A n 1 (fH zs)) :
  Calls Tryz.prog 189 #[.slice A n c,.int .i64 x] w (fun e w'=>∃ z:Int,e=.returned (.int .i64 z)∧w'=w∧(0≤z↔x∈zs)):=by
 have HX:=aH hx
 have HL:=aH hl
 clear hx hl
 go_enter Tryz.func189,Tryz.ntmps189
 go_wp2
 go_loopw [8] (fun i wr=>∃ k:Nat,k≤n∧i=.int .i64 k∧wr=w∧x ∉ zs.take k) (fun i _=>n - (intOf i).toNat)
 case atStart=>exact⟨0,zF _,rfl,rfl,by simp⟩
 case round =>
  obtain⟨k,hk,rfl,rfl,hno⟩:=hrel
  have HNO:=aH hno
  clear hno
  by_cases hlt:k < n
  ·obtain⟨b,o,u,rfl,hb,hu,hc⟩:=HX.out.at1 hlt
   have hkl:k < zs.length:=by rw[HL.out];exact hlt
   have hu2:u=.int .i64 (zs[k]'hkl):=by
    unfold fH at hu
    rw[List.getElem?_map,List.getElem?_eq_getElem hkl]at hu
    exact (Option.some.inj hu).symm
   subst hu2
   have HTK:=aH (bI hkl)
   have HMEM:=aH (List.getElem_mem hkl)
   generalize zs[k]'hkl=y at *
   clear hu hkl
   by_cases hxy:x=y
   ·have hxb:(x==y)=true:=beq_iff_eq.2 hxy
    go_wp2
    go_ret
    exact⟨k,rfl,rfl,fun _=>by rw[hxy];exact HMEM.out,fun _=>by omega⟩
   ·have hxb:(x==y)=false:=beq_eq_false_iff_ne.2 hxy
    go_wp2
    go_roundw
    case rel=>exact⟨k+1,by omega,by go_num,trivial,by rw[HTK.out,List.mem_append];rintro (h | h);exact HNO.out h;exact hxy (List.mem_singleton.1 h)⟩
    case measure=>simp [intOf];omega
  ·have hkn:k=n:=by omega
   have hall:x ∉ zs:=by
    have:=HNO.out
    rwa [List.take_of_length_le (by have:=HL.out;omega)]at this
   have HALL:=aH hall
   clear hkn hall HNO
   go_wp2
   go_ret
   exact⟨-1,rfl,rfl,fun h=>absurd h (by decide),fun h=>absurd h HALL.out⟩
theorem zQ (A:Option Addr) (n c:Nat) (zs:List Int) (x:Int) (w:World) (hn:n≤1099511627776) (hl:zs.length=n) (hx:Rd w A n 1 (fH zs)) :
  Calls Tryz.prog 165 #[.slice A n c,.int .i64 x] w (uY w (.bool (decide (x∈zs)))):=by
 have HI:=aH (aGE A n c zs x w hn hl hx)
 clear hx hl
 go_enter Tryz.func165,Tryz.ntmps165
 go_wp2_with fail
 refine HI.out.mono ?_
 rintro e w1 ⟨z,rfl,rfl,hz⟩
 by_cases h0:0≤z
 ·have h0i:z≥0:=h0
  have hm:=hz.1 h0
  go_wp2
  go_ret
  exact⟨aP (decide_eq_true hm).symm,rfl⟩
 ·have h0i:¬ z≥0:=h0
  have hm:x ∉ zs:=fun h=>h0 (hz.2 h)
  go_wp2
  go_ret
  exact⟨aP (decide_eq_false hm).symm,rfl⟩
theorem Rd.farD {w:World} {A:Option Addr} {n size b:Nat} {xs:List Value} (h:Rd w A n size xs) (ha:0 < n→∀ a,A=some a→a.block≠b) (i:Nat) (x:Value):Rd (w.setCell ⟨b,i,none⟩ x) A n size xs :=
 ⟨h.1,fun hn=>by
  obtain⟨b',o,e,hlt,hc⟩:=h.2 hn
  have hne:b'≠b:=ha hn _ e
  exact⟨b',o,e,by simpa [World.setCell] using hlt,fun j u hu=>(World.cell?_setCell_far _ _ _ _ (fun e=>hne e.symm)).trans (hc j u hu)⟩⟩
def NSml (l:List ByteArray):Prop:=∀ s∈l,s.size≤1099511627776
theorem aDR (s:ByteArray) (w:World) (hs:s.size≤1099511627776):Calls Tryz.prog 167 #[.string s] w (pR w (!D.good s)):=by
 have HG:=aH (oZ s w hs)
 go_enter Tryz.func167,Tryz.ntmps167
 go_wp2_with fail
 refine HG.out.mono ?_
 rintro e w1 ⟨rfl,hb1⟩
 go_wp2
 go_ret
 exact⟨rfl,hb1⟩
theorem aBJ (A:Option Addr) (n c:Nat) (ns:List ByteArray) (w:World) (hn:n≤1099511627776) (hl:ns.length=n) (hs:NSml ns) (hx:Rd w A n 1 (aC ns)) :
  Calls Tryz.prog 87 #[.slice A n c,.func (.func 167) #[] #[]] w (fun e w'=>∃ z:Int,e=.returned (.int .i64 z)∧Below w.heap.size w w'∧(0≤z↔ns.all D.good=false)):=by
 have HX:=aH hx
 have HL:=aH hl
 have HS:=aH hs
 clear hx hl hs
 go_enter Tryz.func87,Tryz.ntmps87
 go_wp2
 go_loopw [8] (fun i wr=>∃ k:Nat,k≤n∧i=.int .i64 k∧Below w.heap.size w wr∧(ns.take k).all D.good=true) (fun i _=>n - (intOf i).toNat)
 case atStart=>exact⟨0,zF _,rfl,zB _ _,by simp⟩
 case round =>
  obtain⟨k,hk,rfl,hbel,hno⟩:=hrel
  have HNO:=aH hno
  have HBE:=aH hbel
  clear hno hbel
  by_cases hlt:k < n
  ·have hkl:k < ns.length:=by rw[HL.out];exact hlt
   obtain⟨b,o,rfl,hb,hc⟩:=(HX.out.below HBE.out).str hlt HL.out
   have HTK:=aH (bI hkl)
   have HMEM:=aH (List.getElem_mem hkl)
   have hsz:=HS.out _ (List.getElem_mem hkl)
   generalize ns[k]'hkl=y at *
   have HC:=aH (aDR y wr hsz)
   clear hkl hsz
   cases hg:D.good y
   ·rw[hg]at HC
    have HG:=aH hg
    clear hg
    go_wp2_with fail
    refine HC.out.mono ?_
    rintro e w1 ⟨rfl,hb1⟩
    go_wp2
    go_ret
    refine⟨k,rfl,aA HBE.out.size HBE.out hb1,fun _=>?_,fun _=>by omega⟩
    rw[Bool.eq_false_iff]
    intro h
    rw[List.all_eq_true.1 h y HMEM.out]at HG
    cases HG.out
   ·rw[hg]at HC
    have HG:=aH hg
    clear hg
    go_wp2_with fail
    refine HC.out.mono ?_
    rintro e w1 ⟨rfl,hb1⟩
    go_wp2
    go_roundw
    case rel=>exact⟨k+1,by omega,by go_num,aA HBE.out.size HBE.out hb1,by rw[HTK.out,List.all_append,HNO.out];simp [HG.out]⟩
    case measure=>simp [intOf];omega
  ·have hall:ns.all D.good=true:=by
    have:=HNO.out
    rwa [List.take_of_length_le (by have:=HL.out;omega)]at this
   have HALL:=aH hall
   clear hall HNO
   go_wp2
   go_ret
   exact⟨-1,rfl,HBE.out,fun h=>absurd h (by decide),fun h=>by rw[HALL.out]at h;cases h⟩
theorem uG (A:Option Addr) (n c:Nat) (ns:List ByteArray) (w:World) (hn:n≤1099511627776) (hl:ns.length=n) (hs:NSml ns) (hx:Rd w A n 1 (aC ns)) :
  Calls Tryz.prog 166 #[.slice A n c,.func (.func 167) #[] #[]] w (pR w (!ns.all D.good)):=by
 have HI:=aH (aBJ A n c ns w hn hl hs hx)
 clear hx hl hs
 go_enter Tryz.func166,Tryz.ntmps166
 go_wp2_with fail
 refine HI.out.mono ?_
 rintro e w1 ⟨z,rfl,hb,hz⟩
 by_cases h0:0≤z
 ·have h0i:z≥0:=h0
  have hm:=hz.1 h0
  go_wp2
  go_ret
  exact⟨aP (by rw[hm];rfl),hb⟩
 ·have h0i:¬ z≥0:=h0
  have hm:ns.all D.good=true:=by
   cases h:ns.all D.good
   ·exact absurd (hz.2 h) h0
   ·rfl
  go_wp2
  go_ret
  exact⟨aP (by rw[hm];rfl),hb⟩
def aY (B:Nat) (M:DM) (s:D.Dsk) (w:World) (x:D.Dsk × Int) (e:Ending) (w':World):Prop:=e=.returned (.int .i64 x.2)∧∃ M',bU B M' x.1 w'∧Stepped M s w M' x.1 w'
theorem uP (B:Nat) (M:DM) (s:D.Dsk) (A:Option Addr) (n c:Nat) (ns:List ByteArray) (w:World) (h:bU B M s w) (hsn:0≤s.n∧s.n≤1099511627776) (hfl:s.fails.length≤1099511627776) (hn:n≤1099511627776) (hl:ns.length=n) (hs:NSml ns) (hx:Rd w A n 1 (aC ns)) (hA:0 < n→∀ a,A=some a→a.block≠M.d) :
  Calls Tryz.prog 133 #[.pointer (some ⟨M.d,0,none⟩),.slice A n c] w (fun e w'=>e=.returned (.int .i64 (s.begin ns).2)∧bU B M (s.begin ns).1 w'∧Stepped M s w M (s.begin ns).1 w'):=by
 have HD:=aH h
 have HX:=aH hx
 have HDW:=aH (zL B M s w h)
 have HCB:=aH (fun (u:World) (hr:Rd u A n 1 (aC ns))=>uG A n c ns u hn hl hs hr)
 clear h hx hl hs
 obtain⟨G,hG⟩:∃ G,s.begin ns=G:=⟨_,rfl⟩
 have HG:Hid (G=if s.down then (s,93) else ({ s with n:=s.n+1 },if decide (s.n+1∈s.fails) then 94 else if ns.all D.good then 0 else 95)):=aH (by rw[← hG];rfl)
 rw[hG]
 clear hG
 go_enter Tryz.func133,Tryz.ntmps133
 go_wp2_with fail
 refine HDW.out.mono ?_
 rintro e w1 ⟨rfl,hb1⟩
 have HD1:=aH (HD.out.below hb1)
 have HX1:=aH (HX.out.below hb1)
 have HS1:Hid (Stepped M s w M s w1):=aH (Stepped.below hb1)
 clear hb1 HD HX HDW
 cases hdn:s.down
 rotate_left
 ·rw[hdn,if_pos rfl]at HG
  go_wp2
  go_ret
  exact⟨by rw[HG.out];rfl,by rw[HG.out];exact HD1.out,by rw[HG.out];exact HS1.out⟩
 rw[hdn,if_neg (by decide)]at HG
 obtain⟨y0,y1,y2,y3,y4,y5,y6,y7⟩:=HD1.out.cells
 have f7:=HD1.out.blk.free 7
 have HD2:=aH (HD1.out.count (s.n+1))
 have HS2:Hid (Stepped M s w M { s with n:=s.n+1 } (w1.setCell ⟨M.d,7,none⟩ (.int .i64 (s.n+1)))):=aH (HS1.out.trans (Stepped.set rfl))
 have hX1a:=HX1.out
 have HX2:Hid (Rd (w1.setCell ⟨M.d,7,none⟩ (.int .i64 (s.n+1))) A n 1 (aC ns)):=aH (hX1a.farD hA 7 _)
 clear HD1 HS1 HX1 hX1a hA
 go_upto_region 4 with fail
 clear y0 y1 y2 y3 y4 y5 y6 y7 f7
 generalize w1.setCell ⟨M.d,7,none⟩ (.int .i64 (s.n+1))=w2 at *
 have hS0:bU B M { s with n:=s.n+1 } w2.drew:=HD2.out.below (zB _ _).drew
 refine wp_region_noPanic ?_
 refine HT.begin (n:=8) (S:=(fun u=>bU B M { s with n:=s.n+1 } u)) (by kernel_rfl) hS0 ?_
 have HS3:=aH (HS2.out.trans (Stepped.below (zB _ _).drew):Stepped M s w M { s with n:=s.n+1 } w2.drew)
 have HX3:=aH (HX2.out.drew)
 clear HS2 HX2 HD2
 generalize w2.drew=w3 at *
 refine HT.take 0 (.pointer (some ⟨M.d,0,none⟩)) rfl (by kernel_rfl) (fun _ _ _ h=>h) (Or.inl ⟨by rfl,?_⟩) ?_
 ·intro u hu
  go_simp
 refine HT.take 1 (.pointer (some ⟨M.d,0,none⟩)) rfl (by kernel_rfl) (fun _ _ _ h=>h) (Or.inl ⟨by rfl,?_⟩) ?_
 ·intro u hu
  go_simp
 refine HT.take 2 (.pointer (some ⟨M.d,5,none⟩)) rfl (by kernel_rfl) (fun _ _ _ h=>h) (Or.inl ⟨by rfl,?_⟩) ?_
 ·intro u hu
  go_simp
 refine HT.take 3 (.slice M.FA s.fails.length M.fc) rfl (by kernel_rfl) (fun _ _ _ h=>h) (Or.inl ⟨by rfl,?_⟩) ?_
 ·intro u hu
  obtain⟨y0,y1,y2,y3,y4,y5,y6,y7⟩:=hu.cells
  go_simp
 refine HT.take 4 (.pointer (some ⟨M.d,0,none⟩)) rfl (by kernel_rfl) (fun _ _ _ h=>h) (Or.inl ⟨by rfl,?_⟩) ?_
 ·intro u hu
  go_simp
 refine HT.take 5 (.pointer (some ⟨M.d,0,none⟩)) rfl (by kernel_rfl) (fun _ _ _ h=>h) (Or.inl ⟨by rfl,?_⟩) ?_
 ·intro u hu
  go_simp
 refine HT.take 6 (.pointer (some ⟨M.d,7,none⟩)) rfl (by kernel_rfl) (fun _ _ _ h=>h) (Or.inl ⟨by rfl,?_⟩) ?_
 ·intro u hu
  go_simp
 refine HT.take 7 (.int .i64 (s.n+1)) rfl (by kernel_rfl) (fun _ _ _ h=>h) (Or.inl ⟨by rfl,?_⟩) (?_:HT _ _ _ _ _ _ _ ⟨#[_,_,_,_,_,_,_,_,_,_,_,_,_,_,.pointer (some ⟨M.d,0,none⟩),.pointer (some ⟨M.d,0,none⟩),.pointer (some ⟨M.d,5,none⟩),.slice M.FA s.fails.length M.fc,.pointer (some ⟨M.d,0,none⟩),.pointer (some ⟨M.d,0,none⟩),.pointer (some ⟨M.d,7,none⟩),.int .i64 (s.n+1),_,_,_],[]⟩ _)
 ·intro u hu
  obtain⟨y0,y1,y2,y3,y4,y5,y6,y7⟩:=hu.cells
  go_simp
 refine HT.tail _ rfl rfl (by kernel_rfl) (fun hS=>?_)
 have HS:=aH hS
 clear hS hS0
 go_wp2_with fail
 refine (zQ M.FA s.fails.length M.fc s.fails (s.n+1) w3 hfl rfl HS.out.fails.rd).mono ?_
 rintro e w4 ⟨rfl,rfl⟩
 cases hin:decide (s.n+1∈s.fails)
 rotate_left
 ·rw[hin,if_pos rfl]at HG
  go_wp2
  refine NoPanic.normal ?_
  go_wp2
  go_ret
  exact⟨by rw[HG.out];rfl,by rw[HG.out];exact HS.out,by rw[HG.out];exact HS3.out⟩
 rw[hin,if_neg (by decide)]at HG
 have HCC:=aH (HCB.out _ HX3.out)
 go_wp2
 refine NoPanic.normal ?_
 go_wp2_with fail
 refine HCC.out.mono ?_
 rintro e w5 ⟨rfl,hb5⟩
 cases hall:ns.all D.good
 ·rw[hall,if_neg (by decide)]at HG
  go_wp2
  go_ret
  exact⟨by rw[HG.out];rfl,by rw[HG.out];exact HS.out.below hb5,by rw[HG.out];exact HS3.out.trans (Stepped.below hb5)⟩
 ·rw[hall,if_pos rfl]at HG
  go_wp2
  go_ret
  exact⟨by rw[HG.out];rfl,by rw[HG.out];exact HS.out.below hb5,by rw[HG.out];exact HS3.out.trans (Stepped.below hb5)⟩
end Go.Proofs.YthjeglnkgdpijaaGreatDoor
namespace Go.Proofs.YthjeglnkgdpijaaGreatDoor
open Go.RowKit
theorem aK9 {s m:Int} {r:ByteArray} {fs:List FD} (h:m < 0∨1 < m∨F.text r=false):F.dS s r m fs=[]∧F.fK s r m fs=50:=by
 have h1:F.fK s r m fs=50:=if_pos h
 exact⟨if_neg (by rw[h1];decide),h1⟩
theorem aCU {s m:Int} {r:ByteArray} {fs:List FD} (h:¬ (m < 0∨1 < m∨F.text r=false)) (h2:s < 100∨599 < s):F.dS s r m fs=[]∧F.fK s r m fs=53:=by
 have h1:F.fK s r m fs=53:=(if_neg h).trans (if_pos h2)
 exact⟨if_neg (by rw[h1];decide),h1⟩
theorem aOA {s m:Int} {r:ByteArray} {fs:List FD} (h:¬ (m < 0∨1 < m∨F.text r=false)) (h2:¬ (s < 100∨599 < s)):F.dS s r m fs=F.iC (F.aZ s r m) fs∧F.fK s r m fs=F.dK (F.aZ s r m) fs:=by
 have h1:F.fK s r m fs=F.dK (F.aZ s r m) fs:=(if_neg h).trans (if_neg h2)
 refine⟨?_,h1⟩
 unfold F.dS
 rw[h1]
 split
 ·rfl
 ·rename_i h3
  exact (if_neg h3).symm
theorem nO (s:Int) (r:ByteArray) (m:Int) (A:Option Addr) (c:Nat) (fs:List FD) (w:World) (hr:r.size≤1073741824) (hf:F.bulk fs≤1073741824) (hx:Rd w A fs.length 2 (aI fs)) (ht:iJ w) :
  Calls Tryz.prog 118 #[.agg #[.int .i64 s,.string r,.int .i64 m,.slice A fs.length c]] w (fA w (F.dS s r m fs) (F.fK s r m fs)):=by
 have HTX:=aH (fun u=>aD4 r u (by omega))
 by_cases hbad:m < 0∨1 < m∨F.text r=false
 ·have HRB:=aH (aK9 (s:=s) (m:=m) (r:=r) (fs:=fs) hbad)
  generalize F.dS s r m fs=PB at *
  generalize F.fK s r m fs=PE at *
  clear hx
  by_cases hm0:m < 0
  ·have g1:decide (m < 0)=true:=by simpa using hm0
   have g1:0≤0:=zA 0
   clear hbad HTX
   have HB0:=aH ((zB w.heap.size w).alloc (zA _) (.cells #[.int .i64 s,.string r,.int .i64 m,.slice A fs.length c] 38))
   go_enter Tryz.func118,Tryz.ntmps118
   go_wp2
   refine bK (v:=.tuple #[.slice none 0 0,.int .i64 50]) (by simp [results,Tryz.results118,go_sem]) rfl ?_
   exact fA.none_ HB0.out HRB.out.1 HRB.out.2
  ·by_cases hm1:1 < m
   ·have g1:decide (m < 0)=false:=by rw[decide_eq_false_iff_not];omega
    have g2:decide (m > 1)=true:=by rw[decide_eq_true_eq];omega
    have g1:0≤0:=zA 0
    have g7:¬ m < 0:=by omega
    clear hbad HTX
    have HB0:=aH ((zB w.heap.size w).alloc (zA _) (.cells #[.int .i64 s,.string r,.int .i64 m,.slice A fs.length c] 38))
    go_enter Tryz.func118,Tryz.ntmps118
    go_wp2
    refine bK (v:=.tuple #[.slice none 0 0,.int .i64 50]) (by simp [results,Tryz.results118,go_sem]) rfl ?_
    exact fA.none_ HB0.out HRB.out.1 HRB.out.2
   ·have htx:F.text r=false:=by
     rcases hbad with h | h | h
     ·exact absurd h hm0
     ·exact absurd h hm1
     ·exact h
    rw[htx]at HTX
    clear hbad htx
    go_enter Tryz.func118,Tryz.ntmps118
    go_wp2_with fail
    have HK0:=aH (Blk.new w #[.int .i64 s,.string r,.int .i64 m,.slice A fs.length c] 38)
    have HB0:=aH ((zB w.heap.size w).alloc (zA _) (.cells #[.int .i64 s,.string r,.int .i64 m,.slice A fs.length c] 38))
    generalize w.alloc (.cells #[.int .i64 s,.string r,.int .i64 m,.slice A fs.length c] 38)=w0 at *
    refine (HTX.out _).mono ?_
    rintro e w1 ⟨rfl,hb1⟩
    replace HK0:=aH (HK0.out.below hb1)
    replace HB0:=aH (aA HB0.out.size HB0.out hb1)
    obtain⟨x0,x1,x2,x3⟩:=HK0.out.cells4
    clear hb1 HTX
    go_wp2
    refine bK (v:=.tuple #[.slice none 0 0,.int .i64 50]) (by simp [results,Tryz.results118,go_sem]) rfl ?_
    exact fA.none_ HB0.out HRB.out.1 HRB.out.2
 ·have htx:F.text r=true:=by
   rcases tf (F.text r) with h | h
   ·exact h
   ·exact absurd (.inr (.inr h)) hbad
  rw[htx]at HTX
  have hm0:¬ m < 0:=fun h=>hbad (.inl h)
  have hm1:¬ 1 < m:=fun h=>hbad (.inr (.inl h))
  by_cases hst:s < 100∨599 < s
  ·have HRB:=aH (aCU (s:=s) (m:=m) (r:=r) (fs:=fs) hbad hst)
   generalize F.dS s r m fs=PB at *
   generalize F.fK s r m fs=PE at *
   clear hx hbad htx
   by_cases hs1:s < 100
   ·have g8:decide (s < 100)=true:=by simpa using hs1
    clear hst
    go_enter Tryz.func118,Tryz.ntmps118
    go_wp2_with fail
    have HK0:=aH (Blk.new w #[.int .i64 s,.string r,.int .i64 m,.slice A fs.length c] 38)
    have HB0:=aH ((zB w.heap.size w).alloc (zA _) (.cells #[.int .i64 s,.string r,.int .i64 m,.slice A fs.length c] 38))
    generalize w.alloc (.cells #[.int .i64 s,.string r,.int .i64 m,.slice A fs.length c] 38)=w0 at *
    refine (HTX.out _).mono ?_
    rintro e w1 ⟨rfl,hb1⟩
    replace HK0:=aH (HK0.out.below hb1)
    replace HB0:=aH (aA HB0.out.size HB0.out hb1)
    obtain⟨x0,x1,x2,x3⟩:=HK0.out.cells4
    clear hb1 HTX
    go_wp2
    refine bK (v:=.tuple #[.slice none 0 0,.int .i64 53]) (by simp [results,Tryz.results118,go_sem]) rfl ?_
    exact fA.none_ HB0.out HRB.out.1 HRB.out.2
   ·have hs2:599 < s:=by omega
    have g8:decide (s < 100)=false:=by rw[decide_eq_false_iff_not];omega
    have g9:decide (s > 599)=true:=by rw[decide_eq_true_eq];omega
    clear hst
    go_enter Tryz.func118,Tryz.ntmps118
    go_wp2_with fail
    have HK0:=aH (Blk.new w #[.int .i64 s,.string r,.int .i64 m,.slice A fs.length c] 38)
    have HB0:=aH ((zB w.heap.size w).alloc (zA _) (.cells #[.int .i64 s,.string r,.int .i64 m,.slice A fs.length c] 38))
    generalize w.alloc (.cells #[.int .i64 s,.string r,.int .i64 m,.slice A fs.length c] 38)=w0 at *
    refine (HTX.out _).mono ?_
    rintro e w1 ⟨rfl,hb1⟩
    replace HK0:=aH (HK0.out.below hb1)
    replace HB0:=aH (aA HB0.out.size HB0.out hb1)
    obtain⟨x0,x1,x2,x3⟩:=HK0.out.cells4
    clear hb1 HTX
    go_wp2
    refine bK (v:=.tuple #[.slice none 0 0,.int .i64 53]) (by simp [results,Tryz.results118,go_sem]) rfl ?_
    exact fA.none_ HB0.out HRB.out.1 HRB.out.2
  ·have HRB:=aH (aOA (s:=s) (m:=m) (r:=r) (fs:=fs) hbad hst)
   have hs1:¬ s < 100:=fun h=>hst (.inl h)
   have hs2:¬ 599 < s:=fun h=>hst (.inr h)
   have zI:(B (Lib.itoa m)).size≤21:=by rw[iK];exact Lib.itoa_length_le m (by omega) (by omega)
   have zJ:(B (Lib.itoa s)).size≤21:=by rw[iK];exact Lib.itoa_length_le s (by omega) (by omega)
   have HI:=aH (fun (u:World) (hb:Below w.heap.size w u)=>aEO m (by omega) (by omega) u (ht.below hb))
   have HJ:=aH (fun (u:World) (hb:Below w.heap.size w u)=>aEO s (by omega) (by omega) u (ht.below hb))
   have hline:L (⟨#[72,84,84,80,47,49,46]⟩++B (Lib.itoa m)++⟨#[32]⟩++B (Lib.itoa s)++⟨#[32]⟩++r:ByteArray)=F.aZ s r m:=by
    simp only[eP]
    rfl
   have hlsz:(⟨#[72,84,84,80,47,49,46]⟩++B (Lib.itoa m)++⟨#[32]⟩++B (Lib.itoa s)++⟨#[32]⟩++r:ByteArray).size=7+(B (Lib.itoa m)).size+1+(B (Lib.itoa s)).size+1+r.size:=by
    simp only[ByteArray.size_append]
    rfl
   have HWH:=aH (fun (u:World) (hb:Below w.heap.size w u)=>aHI (⟨#[72,84,84,80,47,49,46]⟩++B (Lib.itoa m)++⟨#[32]⟩++B (Lib.itoa s)++⟨#[32]⟩++r:ByteArray) A c fs u (by omega) hf (hx.below hb))
   rw[hline]at HWH
   generalize F.dS s r m fs=PB at *
   generalize F.fK s r m fs=PE at *
   generalize F.iC (F.aZ s r m) fs=WB at *
   generalize F.dK (F.aZ s r m) fs=WE at *
   clear hline hlsz
   generalize B (Lib.itoa m)=I at *
   generalize B (Lib.itoa s)=J at *
   have hq1:7+I.size≤9223372036854775807:=by omega
   have hq2:7+I.size+1≤9223372036854775807:=by omega
   have hq3:7+I.size+1+J.size≤9223372036854775807:=by omega
   have hq4:7+I.size+1+J.size+1≤9223372036854775807:=by omega
   have hq5:7+I.size+1+J.size+1+r.size≤9223372036854775807:=by omega
   clear hx hbad htx hst
   go_enter Tryz.func118,Tryz.ntmps118
   go_wp2_with fail
   have HK0:=aH (Blk.new w #[.int .i64 s,.string r,.int .i64 m,.slice A fs.length c] 38)
   have HB0:=aH ((zB w.heap.size w).alloc (zA _) (.cells #[.int .i64 s,.string r,.int .i64 m,.slice A fs.length c] 38))
   generalize w.alloc (.cells #[.int .i64 s,.string r,.int .i64 m,.slice A fs.length c] 38)=w0 at *
   refine (HTX.out _).mono ?_
   rintro e w1 ⟨rfl,hb1⟩
   replace HK0:=aH (HK0.out.below hb1)
   replace HB0:=aH (aA HB0.out.size HB0.out hb1)
   obtain⟨x0,x1,x2,x3⟩:=HK0.out.cells4
   clear hb1 HTX
   go_wp2
   have hS0:=And.intro HK0.out.drew HB0.out.drew
   clear HK0 HB0
   refine wp_region_noPanic ?_
   refine HT.begin (n:=18) (S:=(fun u=>Blk u w.heap.size #[.int .i64 s,.string r,.int .i64 m,.slice A fs.length c] 38∧Below w.heap.size w u)) (by kernel_rfl) hS0 ?_
   refine HT.take 0 (.pointer (some ⟨w.heap.size,2,none⟩)) rfl (by kernel_rfl) (fun _ _ _ h=>h) (Or.inl ⟨by rfl,?_⟩) ?_
   ·intro u hu
    go_simp
   refine HT.take 1 (.int .i64 m) rfl (by kernel_rfl) (fun _ _ _ h=>h) (Or.inl ⟨by rfl,?_⟩) ?_
   ·intro u hu
    obtain⟨x0,x1,x2,x3⟩:=hu.1.cells4
    go_simp
   refine HT.take 5 (.pointer (some ⟨w.heap.size,0,none⟩)) rfl (by kernel_rfl) (fun _ _ _ h=>h) (Or.inl ⟨by rfl,?_⟩) ?_
   ·intro u hu
    go_simp
   refine HT.take 6 (.int .i64 s) rfl (by kernel_rfl) (fun _ _ _ h=>h) (Or.inl ⟨by rfl,?_⟩) ?_
   ·intro u hu
    obtain⟨x0,x1,x2,x3⟩:=hu.1.cells4
    go_simp
   refine HT.take 10 (.pointer (some ⟨w.heap.size,1,none⟩)) rfl (by kernel_rfl) (fun _ _ _ h=>h) (Or.inl ⟨by rfl,?_⟩) ?_
   ·intro u hu
    go_simp
   refine HT.take 11 (.string r) rfl (by kernel_rfl) (fun _ _ _ h=>h) (Or.inl ⟨by rfl,?_⟩) ?_
   ·intro u hu
    obtain⟨x0,x1,x2,x3⟩:=hu.1.cells4
    go_simp
   refine HT.take 13 (.pointer (some ⟨w.heap.size,3,none⟩)) rfl (by kernel_rfl) (fun _ _ _ h=>h) (Or.inl ⟨by rfl,?_⟩) ?_
   ·intro u hu
    go_simp
   refine HT.take 14 (.slice A fs.length c) rfl (by kernel_rfl) (fun _ _ _ h=>h) (Or.inl ⟨by rfl,?_⟩) (?_:HT _ _ _ _ _ _ _ ⟨#[_,_,_,_,_,_,_,_,_,_,_,_,_,_,_,_,_,_,_,_,_,_,_,_,_,_,_,_,.pointer (some ⟨w.heap.size,2,none⟩),.int .i64 m,_,_,_,.pointer (some ⟨w.heap.size,0,none⟩),.int .i64 s,_,_,_,.pointer (some ⟨w.heap.size,1,none⟩),.string r,_,.pointer (some ⟨w.heap.size,3,none⟩),.slice A fs.length c,_,_,_],[]⟩ _)
   ·intro u hu
    obtain⟨x0,x1,x2,x3⟩:=hu.1.cells4
    go_simp
   refine HT.step 2 rfl (by kernel_rfl) (fun hS K hK=>?_)
   go_simp
   refine (HI.out _ hS.2).mono ?_
   rintro e w2 ⟨rfl,hb2⟩
   refine hK.out _ _ ⟨hS.1.below hb2,aA hS.2.size hS.2 hb2⟩ ?_
   clear hK hS hb2 hS0
   refine HT.take 3 (.string (⟨#[72,84,84,80,47,49,46]⟩++I)) rfl (by kernel_rfl) (fun _ _ _ h=>h) (Or.inl ⟨by rfl,?_⟩) ?_
   ·intro u hu
    go_simp
   refine HT.take 4 (.string (⟨#[72,84,84,80,47,49,46]⟩++I++⟨#[32]⟩)) rfl (by kernel_rfl) (fun _ _ _ h=>h) (Or.inl ⟨by rfl,?_⟩) (?_:HT _ _ _ _ _ _ _ ⟨#[_,_,_,_,_,_,_,_,_,_,_,_,_,_,_,_,_,_,_,_,_,_,_,_,_,_,_,_,.pointer (some ⟨w.heap.size,2,none⟩),.int .i64 m,.string I,.string (⟨#[72,84,84,80,47,49,46]⟩++I),.string (⟨#[72,84,84,80,47,49,46]⟩++I++⟨#[32]⟩),.pointer (some ⟨w.heap.size,0,none⟩),.int .i64 s,_,_,_,.pointer (some ⟨w.heap.size,1,none⟩),.string r,_,.pointer (some ⟨w.heap.size,3,none⟩),.slice A fs.length c,_,_,_],[]⟩ _)
   ·intro u hu
    go_simp
   refine HT.step 7 rfl (by kernel_rfl) (fun hS K hK=>?_)
   go_simp
   refine (HJ.out _ hS.2).mono ?_
   rintro e w3 ⟨rfl,hb3⟩
   refine hK.out _ _ ⟨hS.1.below hb3,aA hS.2.size hS.2 hb3⟩ ?_
   clear hK hS hb3
   refine HT.take 8 (.string (⟨#[72,84,84,80,47,49,46]⟩++I++⟨#[32]⟩++J)) rfl (by kernel_rfl) (fun _ _ _ h=>h) (Or.inl ⟨by rfl,?_⟩) ?_
   ·intro u hu
    go_simp
   refine HT.take 9 (.string (⟨#[72,84,84,80,47,49,46]⟩++I++⟨#[32]⟩++J++⟨#[32]⟩)) rfl (by kernel_rfl) (fun _ _ _ h=>h) (Or.inl ⟨by rfl,?_⟩) ?_
   ·intro u hu
    go_simp
   refine HT.take 12 (.string (⟨#[72,84,84,80,47,49,46]⟩++I++⟨#[32]⟩++J++⟨#[32]⟩++r)) rfl (by kernel_rfl) (fun _ _ _ h=>h) (Or.inl ⟨by rfl,?_⟩) (?_:HT _ _ _ _ _ _ _ ⟨#[_,_,_,_,_,_,_,_,_,_,_,_,_,_,_,_,_,_,_,_,_,_,_,_,_,_,_,_,.pointer (some ⟨w.heap.size,2,none⟩),.int .i64 m,.string I,.string (⟨#[72,84,84,80,47,49,46]⟩++I),.string (⟨#[72,84,84,80,47,49,46]⟩++I++⟨#[32]⟩),.pointer (some ⟨w.heap.size,0,none⟩),.int .i64 s,.string J,.string (⟨#[72,84,84,80,47,49,46]⟩++I++⟨#[32]⟩++J),.string (⟨#[72,84,84,80,47,49,46]⟩++I++⟨#[32]⟩++J++⟨#[32]⟩),.pointer (some ⟨w.heap.size,1,none⟩),.string r,.string (⟨#[72,84,84,80,47,49,46]⟩++I++⟨#[32]⟩++J++⟨#[32]⟩++r),.pointer (some ⟨w.heap.size,3,none⟩),.slice A fs.length c,_,_,_],[]⟩ _)
   ·intro u hu
    go_simp
   refine HT.step 15 rfl (by kernel_rfl) (fun hS K hK=>?_)
   go_simp
   refine (HWH.out _ hS.2).mono ?_
   rintro e w4 ⟨R0,d,rfl,hr4,hb4⟩
   refine hK.out _ _ ⟨hS.1.below hb4,aA hS.2.size hS.2 hb4⟩ ?_
   have HR4:=aH (hr4.mono hS.2.size)
   clear hK hS hb4 hr4
   refine HT.take 16 (.slice R0 WB.length d) rfl (by kernel_rfl) (fun _ _ _ h=>h) (Or.inl ⟨by rfl,?_⟩) ?_
   ·intro u hu
    go_simp
   refine HT.take 17 (.int .i64 WE) rfl (by kernel_rfl) (fun _ _ _ h=>h) (Or.inl ⟨by rfl,?_⟩) (?_:HT _ _ _ _ _ _ _ ⟨#[_,_,_,_,_,_,_,_,_,_,_,_,_,_,_,_,_,_,_,_,_,_,_,_,_,_,_,_,.pointer (some ⟨w.heap.size,2,none⟩),.int .i64 m,.string I,.string (⟨#[72,84,84,80,47,49,46]⟩++I),.string (⟨#[72,84,84,80,47,49,46]⟩++I++⟨#[32]⟩),.pointer (some ⟨w.heap.size,0,none⟩),.int .i64 s,.string J,.string (⟨#[72,84,84,80,47,49,46]⟩++I++⟨#[32]⟩++J),.string (⟨#[72,84,84,80,47,49,46]⟩++I++⟨#[32]⟩++J++⟨#[32]⟩),.pointer (some ⟨w.heap.size,1,none⟩),.string r,.string (⟨#[72,84,84,80,47,49,46]⟩++I++⟨#[32]⟩++J++⟨#[32]⟩++r),.pointer (some ⟨w.heap.size,3,none⟩),.slice A fs.length c,.tuple #[.slice R0 WB.length d,.int .i64 WE],.slice R0 WB.length d,.int .i64 WE],[]⟩ _)
   ·intro u hu
    go_simp
   refine HT.tail _ rfl rfl (by kernel_rfl) (fun hS=>?_)
   have HB:=aH hS.2
   clear hS
   go_wp2
   refine NoPanic.normal ?_
   go_wp2
   refine bK (v:=.tuple #[.slice R0 WB.length d,.int .i64 WE]) (by simp [results,Tryz.results118,go_sem]) rfl ?_
   rw[HRB.out.1,HRB.out.2]
   exact⟨R0,d,rfl,HR4.out,HB.out⟩
end Go.Proofs.YthjeglnkgdpijaaGreatDoor
