/- The walks of the disk's Rename and Sync. The walk of the disk's Read. A whole message, as plain functions on its bytes; the walks of slices.Clone and inbox.fill. The walk of inbox.Request. Conditions: as each theorem states them. -/
import Derived.Test.YthjeglnkgdpijaaGreatDoorZ21
set_option maxHeartbeats 2000000
set_option maxRecDepth 100000
namespace Go.Proofs.YthjeglnkgdpijaaGreatDoor
open Go Go.RowKit Go.Maps
theorem nameRow (u:World) (s:ByteArray) (B:Nat) (hB:B≤u.heap.size):Row (u.alloc (.cells #[.string s] 9)) B 9 1 (some ⟨u.heap.size,0,none⟩) 1 1 (aF [s]) :=
 .inl ⟨rfl,.inr ⟨u.heap.size,1,_,rfl,hB,heap_alloc_new u _,zA _,by decide,rfl,rfl⟩⟩
section
variable {B:Nat} {M:DM} {s:D.Dsk} {w:World}
theorem dD.firm (h:dD B M s w) (ok:s.Ok) {no:Nat} (hn:no < s.data.length) :
  dD B M { s with firm:=s.firm.set no (s.size no) } (w.setCell ⟨M.fa no,2,none⟩ (.int .i64 (s.size no:Nat))):=by
 have hg:=aT w (M.fa no) 2 (.int .i64 (s.size no:Nat))
 have hF:=(h.files no hn).blk
 have hT:=hF.tag
 have hb:∀ {k t},Tag w k t→t≠100→some (M.fa no)≠some k:=fun ht hn e=>ht.ne hT hn (by simpa using e.symm)
 refine⟨h.blk.keptG hg (hb h.blk.tag (by decide)),h.now.kept hg (fun e=>hT.map (aC h.now) (by simpa using e.symm)),h.safe.kept hg (fun e=>hT.map (aC h.safe) (by simpa using e.symm)),h.ne,
  h.pend.keptG hg (fun k hk=>hb (h.pend.tag hk) (by decide)),h.chg.imp (fun c v hc=>hc.keptT hg (fun k e=>by cases e;exact hT) (by decide)),h.fails.keptG hg (fun k hk=>hb (h.fails.tag hk) (by decide)),
  fun i hi=>?_,h.apart,h.ge⟩
 obtain⟨f1,f2,f3⟩:=h.files i hi
 refine⟨?_,f2.keptG hg (fun k hk=>hb (f2.tag hk) (by decide)),f3⟩
 by_cases e:i=no
 ·subst e
  have e2:(s.firm.set i (s.size i)).getD i 0=s.size i:=by
   have:i < s.firm.length:=by rw[ok.lens];exact hn
   simp [List.getD,this]
  show Blk _ _ #[_,_,.int .i64 ((s.firm.set i (s.size i)).getD i 0:Nat)] _
  rw[e2]
  exact f1.set 2 _
 ·have e2:(s.firm.set no (s.size no)).getD i 0=s.firm.getD i 0:=by
   simp [List.getD,List.getElem?_set_ne (fun h=>e h.symm)]
  show Blk _ _ #[_,_,.int .i64 ((s.firm.set no (s.size no)).getD i 0:Nat)] _
  rw[e2]
  exact f1.keptG hg (fun e3=>(h.apart no i hn hi (fun h=>e h.symm)).1 (by simpa using e3))
theorem Stepped.file {s':D.Dsk} {i:Nat} {x:Value} {no:Nat} (hn:no < s.data.length) (hs:s'.data.length=s.data.length):Stepped M s w M s' (w.setCell ⟨M.fa no,i,none⟩ x) :=
 Stepped.grown (aT w _ i x) (fun k e=>by cases e;exact .inr (.inr (.inr (.inr ⟨no,hn,.inl rfl⟩)))) (fun k hf=>.inl (by unfold DM.foot at *;rw[hs]at hf;exact hf)) rfl
end
theorem D.find_lt {s:D.Dsk} (ok:s.Ok) {nm:ByteArray} {no:Nat} (h:D.find s.now nm=some no):no < s.data.length:=ok.inN _ (D.aI h)
theorem aL1 (B:Nat) (M:DM) (s:D.Dsk) (nm:ByteArray) (w:World) (h:dD B M s w) (hs:s.Sml) (ok:s.Ok) (hn:nm.size≤1099511627776) :
  Calls Tryz.prog 95 #[.pointer (some ⟨M.d,0,none⟩),.string nm] w (fun e w'=>e=.returned (.int .i64 (s.sync nm).2)∧dD B M (s.sync nm).1 w'∧Stepped M s w M (s.sync nm).1 w'):=by
 have HON:=aH (on_any B M s nm none 0 0 0 [] w (fun u hg=>h.below (grown_below hg)) ⟨hs.n0,hs.n⟩ hs.fails (by omega) rfl (fun x hx=>by rw[List.mem_singleton.1 hx];exact hn) (Row.none_ _ _ _ _) (zF _))
 obtain⟨G,hG⟩:∃ G,s.sync nm=G:=⟨_,rfl⟩
 have HG:Hid (G=match s.look nm [] with | (s1,_,some no)=>({ s1 with firm:=s1.firm.set no (s1.size no) },0) | (s1,e,none)=>(s1,e)):=aH (by rw[← hG];exact D.Dsk.on_look ..)
 rw[hG]
 clear hG h
 go_enter Tryz.func95,Tryz.ntmps95
 go_wp2_with fail
 refine HON.out.mono ?_
 rintro e w2 ⟨rfl,u,hg,hd2,hs2⟩
 have HS2:=aH ((Stepped.below (grown_below hg)).trans hs2)
 clear hg hs2 HON
 rcases s.look_or nm [] with ⟨n,e,hl,he⟩ | ⟨n,no,hl,hf⟩
 ·rw[hl]at hd2 HS2 HG
  rw[hl]
  have HD2:=aH hd2
  have heb:(e==0)=false:=beq_eq_false_iff_ne.2 he
  clear hd2 hl
  go_wp2
  go_ret
  exact⟨by rw[HG.out];rfl,by rw[HG.out];exact HD2.out,by rw[HG.out];exact HS2.out⟩
 ·rw[hl]at hd2 HS2 HG
  rw[hl]
  have hno:=D.find_lt ok hf
  have HD2:=aH hd2
  have okn:({ s with n:=n }:D.Dsk).Ok:=⟨ok.lens,ok.upN,ok.upS,ok.inN,ok.inS,ok.inP,ok.fold,ok.firms⟩
  have HD3:=aH (hd2.firm okn hno)
  have HS3:=aH (HS2.out.trans (Stepped.file (s':={ s with n:=n,firm:=s.firm.set no (s.size no) }) (i:=2) (x:=.int .i64 (s.size no:Nat)) hno rfl))
  have z1:w2.cell? ⟨M.fa no,1,none⟩=some (.slice (M.da no) (s.size no) (M.dc no)):=(hd2.files no hno).blk.cell 1 rfl
  have z2:w2.cell? ⟨M.fa no,2,none⟩=some (.int .i64 (s.firm.getD no 0:Nat)):=(hd2.files no hno).blk.cell 2 rfl
  have f2:=(hd2.files no hno).blk.free 2
  clear hd2 hl hf okn
  dsimp only[D.lG]
  go_wp2
  go_ret
  exact⟨by rw[HG.out];rfl,by rw[HG.out];exact HD3.out,by rw[HG.out];exact HS3.out⟩
theorem aGP (B:Nat) (M:DM) (s:D.Dsk) (x y:ByteArray) (w:World) (h:dD B M s w) (hs:s.Sml) (hx:x.size≤1099511627776) (hy:y.size≤1099511627776) :
  Calls Tryz.prog 108 #[.pointer (some ⟨M.d,0,none⟩),.string x,.string y] w (bF B M s w (s.rename x y)):=by
 have HD:=aH h
 have HB:=aH h.base
 have hb1:Below w.heap.size w (w.alloc (.cells #[.string x] 9)):=(zB _ _).alloc (zA _) _
 have hb2:Below w.heap.size w ((w.alloc (.cells #[.string x] 9)).alloc (.cells #[.string y] 9)):=hb1.alloc (by simp) _
 have hb3:Below w.heap.size w (((w.alloc (.cells #[.string x] 9)).alloc (.cells #[.string y] 9)).alloc (.cells #[.string y] 9)):=hb2.alloc (by simp;omega) _
 have hnx:Blk (w.alloc (.cells #[.string x] 9)) w.heap.size #[.string x] 9:=Blk.new w _ _
 have hny:Blk ((w.alloc (.cells #[.string x] 9)).alloc (.cells #[.string y] 9)) (w.heap.size+1) #[.string y] 9:=by
  have:=Blk.new (w.alloc (.cells #[.string x] 9)) #[.string y] 9
  simpa using this
 have HX:=aH ((hnx.alloc (.cells #[.string y] 9)).alloc (.cells #[.string y] 9))
 have HY:=aH (hny.alloc (.cells #[.string y] 9))
 have z0:((w.alloc (.cells #[.string x] 9)).alloc (.cells #[.string y] 9)).cell? ⟨w.heap.size,0,none⟩=some (.string x):=(hnx.alloc _).cell 0 rfl
 have z1:((w.alloc (.cells #[.string x] 9)).alloc (.cells #[.string y] 9)).cell? ⟨w.heap.size+1,0,none⟩=some (.string y):=hny.cell 0 rfl
 have hrow:Row (((w.alloc (.cells #[.string x] 9)).alloc (.cells #[.string y] 9)).alloc (.cells #[.string y] 9)) (w.heap.size+2) 9 1 (some ⟨w.heap.size+2,0,none⟩) 1 1 (aF [y]):=by
  have:=nameRow ((w.alloc (.cells #[.string x] 9)).alloc (.cells #[.string y] 9)) y (w.heap.size+2) (by simp)
  simpa using this
 have hbg:∀ u,World.grownBy (((w.alloc (.cells #[.string x] 9)).alloc (.cells #[.string y] 9)).alloc (.cells #[.string y] 9)) u (ownB (some ⟨w.heap.size+2,0,none⟩) 1)→Below (w.heap.size+2) (((w.alloc (.cells #[.string x] 9)).alloc (.cells #[.string y] 9)).alloc (.cells #[.string y] 9)) u:=fun u hg =>
  (zB _ _).grown hg (by simp) (fun k hk=>(hrow.lt k hk).1)
 have HBG:=aH hbg
 have HON:=aH (on_any B M s x (some ⟨w.heap.size+2,0,none⟩) 1 1 (w.heap.size+2) [y] _ (fun u hg=>h.below (hb3.trans ((hbg u hg).mono (by omega)))) ⟨hs.n0,hs.n⟩ hs.fails (by omega) rfl (fun q hq=>by
  rcases List.mem_cons.1 hq with rfl | hq
  ·exact hy
  ·rw[List.mem_singleton.1 hq];exact hx) hrow (by simp))
 have HB3:=aH hb3
 obtain⟨G,hG⟩:∃ G,s.rename x y=G:=⟨_,rfl⟩
 have HG:Hid (G=match s.look x [y] with | (s1,_,some no)=>(if x=y then (s1,0) else (s1.alter (.ren x y no),0)) | (s1,e,none)=>(s1,e)):=aH (by rw[← hG];exact D.Dsk.on_look ..)
 rw[hG]
 clear hG hb1 hb2 hb3 hnx hny hrow hbg h
 go_enter Tryz.func108,Tryz.ntmps108
 go_wp2_with fail
 refine HON.out.mono ?_
 rintro e w2 ⟨rfl,u,hg,hd2,hs2⟩
 have HS2:=aH ((Stepped.below (HB3.out.trans ((HBG.out u hg).mono (by omega))):Stepped M s w M s u).trans hs2)
 have HX2:=aH (hs2.fresh HD.out (zA _) (HX.out.under (HBG.out u hg) (by omega)))
 have HY2:=aH (hs2.fresh HD.out (Nat.le_succ _) (HY.out.under (HBG.out u hg) (by omega)))
 have hsz2:w.heap.size+3≤w2.heap.size:=by have h1:=hs2.size;have h2:=hg.size;simp at h2;omega
 clear hg hs2 HON HX HY z0 z1 HBG HB3
 rcases s.look_or x [y] with ⟨n,e,hl,he⟩ | ⟨n,no,hl,hf⟩
 ·rw[hl]at hd2 HS2 HG
  rw[hl]
  have HD2:=aH hd2
  have heb:(e==0)=false:=beq_eq_false_iff_ne.2 he
  clear hd2 hl
  dsimp only[D.lG]
  go_wp2
  go_ret
  exact⟨by rw[HG.out];rfl,M,by rw[HG.out];exact HD2.out.below ((zB _ _).alloc (zA _) _),by rw[HG.out];exact HS2.out.trans (Stepped.below ((zB _ _).alloc (zA _) _))⟩
 ·rw[hl]at hd2 HS2 HG
  rw[hl]
  have hb4:Below w2.heap.size w2 (w2.alloc (.cells #[.pointer (some ⟨M.fa no,0,none⟩)] 98)):=(zB _ _).alloc (zA _) _
  have hd4:=hd2.below hb4
  have HD4:=aH hd4
  have HS4:=aH (HS2.out.trans (Stepped.below hb4))
  have hx4:=HX2.out.alloc (.cells #[.pointer (some ⟨M.fa no,0,none⟩)] 98)
  have hy4:=HY2.out.alloc (.cells #[.pointer (some ⟨M.fa no,0,none⟩)] 98)
  have hf4:Blk (w2.alloc (.cells #[.pointer (some ⟨M.fa no,0,none⟩)] 98)) w2.heap.size #[.pointer (some ⟨M.fa no,0,none⟩)] 98:=Blk.new _ _ _
  have z0:(w2.alloc (.cells #[.pointer (some ⟨M.fa no,0,none⟩)] 98)).cell? ⟨w.heap.size,0,none⟩=some (.string x):=hx4.cell 0 rfl
  have z1:(w2.alloc (.cells #[.pointer (some ⟨M.fa no,0,none⟩)] 98)).cell? ⟨w.heap.size+1,0,none⟩=some (.string y):=hy4.cell 0 rfl
  have HA:=aH (aH6 B M { s with n:=n } (.pointer (some ⟨w.heap.size,0,none⟩)) (.pointer (some ⟨w2.heap.size,0,none⟩)) (.pointer (some ⟨w.heap.size+1,0,none⟩)) (.ren x y no) _ hd4 ⟨w.heap.size,w2.heap.size,w.heap.size+1,rfl,HB.out,by have:=HB.out;omega,by have:=HB.out;omega,hx4,hf4,hy4⟩ hs.pend (aGQ x y no w.heap.size w2.heap.size (w.heap.size+1) hd4.now hs.now hx hy hx4 hf4 hy4))
  clear hb4 hd4 hx4 hy4 hf4 hd2 hl hf HX2 HY2
  dsimp only[D.lG]
  have HG2:Hid (G=if x=y then (({ s with n:=n }:D.Dsk),(0:Int)) else (({ s with n:=n }:D.Dsk).alter (.ren x y no),0)):=HG
  clear HG
  by_cases hxy:x=y
  ·rw[if_pos hxy]at HG2
   subst hxy
   go_wp2
   go_ret
   exact⟨by rw[HG2.out];rfl,M,by rw[HG2.out];exact HD4.out,by rw[HG2.out];exact HS4.out⟩
  ·have hxyl:(x.toList==y.toList)=false:=beq_eq_false_iff_ne.2 (fun e=>hxy (toList_inj.1 e))
   rw[if_neg hxy]at HG2
   go_wp2_with fail
   refine HA.out.mono ?_
   rintro e w5 ⟨rfl,M',hd5,hs5,_⟩
   have HD5:=aH hd5
   have HS5:=aH hs5
   clear hd5 hs5 HA
   go_wp2
   go_ret
   exact⟨by rw[HG2.out];rfl,M',by rw[HG2.out];exact HD5.out,by rw[HG2.out];exact HS4.out.trans HS5.out⟩
theorem aHY (A:Option Addr) (n c:Nat) (bs:List UInt8) (w:World) (hn:n≤1099511627776) (hl:bs.length=n) (hA:A=none→n=0∧c=0) (hx:Rd w A n 1 (aB bs)) :
  Calls Tryz.prog 49 #[.slice A n c] w (eP w 5 1 bs.length (aB bs)):=by
 subst hl
 cases A with
 | none =>
  obtain⟨h1,rfl⟩:=hA rfl
  have h2:bs=[]:=List.length_eq_zero_iff.1 h1
  subst h2
  have he:=fun w=>Lib.run_eql_slice_nil (P:=Tryz.prog) w 39 _ none 0 0 (h:=Tryz.underlying39)
  clear hx h1
  go_enter Tryz.func49,Tryz.ntmps49
  go_wp2
  go_ret
  exact⟨none,0,rfl,Row.none_ _ _ _ _,zB _ _⟩
 | some a =>
  have HX:=aH (hx.alloc (.cells #[] 5))
  have he:=fun w=>Lib.run_eql_slice_nil (P:=Tryz.prog) w 39 _ (some a) bs.length c (h:=Tryz.underlying39)
  clear hx
  go_enter Tryz.func49,Tryz.ntmps49
  go_wp2_with (at_builtin;refine aQ0 _ rfl (.tmp 5) (.tmp 6) rfl w.heap.size _ 0 0 [] rfl (Row.empty _ _ _ _ _) (some a) bs.length c bs rfl HX.out (by omega) (by rw[bJ];omega) ?_;intro A1 c1 w1 hr1 ha1)
  have hb:=((zB w.heap.size w).alloc (zA _) (.cells #[] 5)).trans (ha1.below (Row.empty _ w.heap.size 5 1 _) (by rw[bJ];omega))
  have e:0+bs.length=bs.length:=Nat.zero_add _
  rw[e]at hr1
  go_ret
  exact⟨A1,c1,rfl,hr1,hb⟩
theorem nilD {u:World} {base size n c:Nat} {e:TypeId} {A:Option Addr} {xs:List Value} (h:Row u base e size A n c xs) (hA:A=none):n=0∧c=0:=by
 rcases h with h | ⟨h1,h2,_⟩
 ·subst hA
  rcases h.2 with ⟨hv,h0⟩ | ⟨g,cap,cur,hv,_⟩
  ·injection hv with _ h1 h2
   exact⟨h1,h2⟩
  ·cases hv
 ·exact⟨h1,h2⟩
def aQR (w:World) (x:List UInt8 × Int) (e:Ending) (w':World):Prop :=
 ∃ A c,e=.returned (.tuple #[.slice A x.1.length c,.int .i64 x.2])∧Row w' w.heap.size 5 1 A x.1.length c (aB x.1)∧Below w.heap.size w w'
theorem aE6 (B:Nat) (M:DM) (s:D.Dsk) (nm:ByteArray) (w:World) (h:dD B M s w) (hs:s.Sml) (ok:s.Ok) (hn:nm.size≤1099511627776) :
  Calls Tryz.prog 90 #[.pointer (some ⟨M.d,0,none⟩),.string nm] w (aQR w (s.read nm)):=by
 have HD:=aH h
 have HDW:=aH (aAF B M s w h)
 have HGN:=aH (fun u=>qG nm u hn)
 obtain⟨y0,y1,y2,y3,y4,y5,y6,y7⟩:=h.cells
 have hlk:=kT h.now nm (by simp only[maxLen];omega)
 obtain⟨G,hG⟩:∃ G,s.read nm=G:=⟨_,rfl⟩
 have HG:Hid (G=if s.down then (([]:List UInt8),(93:Int)) else if D.good nm=false then ([],95) else match D.find s.now nm with | none=>([],90) | some no=>(s.data.getD no [],0)):=aH (by rw[← hG];rfl)
 rw[hG]
 clear hG h y1 y2 y3 y4 y5 y6 y7
 cases hd:s.down
 rotate_left
 ·rw[hd]at HDW HG
  rw[if_pos rfl]at HG
  cases hf:D.find s.now nm<;>rw[hf]at hlk<;>dsimp only[D.lG]at hlk
  all_goals
   go_enter Tryz.func90,Tryz.ntmps90
   go_wp2_with fail
   refine HDW.out.mono ?_
   rintro e w1 ⟨rfl,hb1⟩
   go_wp2
   go_ret2
   rw[HG.out]
   exact⟨none,0,rfl,Row.none_ _ _ _ _,hb1⟩
 rw[hd]at HDW HG
 rw[if_neg (by decide)]at HG
 cases hg:D.good nm
 ·rw[hg]at HGN HG
  rw[if_pos rfl]at HG
  cases hf:D.find s.now nm<;>rw[hf]at hlk<;>dsimp only[D.lG]at hlk
  all_goals
   go_enter Tryz.func90,Tryz.ntmps90
   go_wp2_with fail
   refine HDW.out.mono ?_
   rintro e w1 ⟨rfl,hb1⟩
   have HG2:=aH (HGN.out w1)
   go_wp2_with fail
   refine HG2.out.mono ?_
   rintro e w2 ⟨rfl,hb2⟩
   go_wp2
   go_ret2
   rw[HG.out]
   exact⟨none,0,rfl,Row.none_ _ _ _ _,aA hb1.size hb1 hb2⟩
 rw[hg]at HGN HG
 rw[if_neg (by decide)]at HG
 cases hf:D.find s.now nm with
 | none =>
  rw[hf]at hlk HG
  dsimp only[D.lG]at hlk HG
  go_enter Tryz.func90,Tryz.ntmps90
  go_wp2_with fail
  refine HDW.out.mono ?_
  rintro e w1 ⟨rfl,hb1⟩
  have HG2:=aH (HGN.out w1)
  go_wp2_with fail
  refine HG2.out.mono ?_
  rintro e w2 ⟨rfl,hb2⟩
  go_wp2
  go_ret2
  rw[HG.out]
  exact⟨none,0,rfl,Row.none_ _ _ _ _,aA hb1.size hb1 hb2⟩
 | some no =>
  have hno:=D.find_lt ok hf
  rw[hf]at hlk HG
  dsimp only[D.lG]at hlk HG
  have HF:=aH (HD.out.files no hno)
  have hsz:=hs.size no
  clear hf hno
  go_enter Tryz.func90,Tryz.ntmps90
  go_wp2_with fail
  refine HDW.out.mono ?_
  rintro e w1 ⟨rfl,hb1⟩
  have HG2:=aH (HGN.out w1)
  have HB1:=aH hb1
  clear hb1
  go_wp2_with fail
  refine HG2.out.mono ?_
  rintro e w2 ⟨rfl,hb2⟩
  have HB2:=aH (aA HB1.out.size HB1.out hb2)
  clear hb2 HG2 HB1
  have z1:w2.cell? ⟨M.fa no,1,none⟩=some (.slice (M.da no) (s.size no) (M.dc no)):=(HF.out.blk.below HB2.out).cell 1 rfl
  have hrow:=HF.out.row.below HB2.out
  have HC:=aH (aHY (M.da no) (s.size no) (M.dc no) (s.data.getD no []) w2 hsz rfl (nilD hrow) hrow.rd)
  clear hrow
  go_wp2_with fail
  refine HC.out.mono ?_
  rintro e w3 ⟨A3,c3,rfl,hr3,hb3⟩
  go_wp2
  go_ret2
  rw[HG.out]
  exact⟨A3,c3,rfl,hr3.mono HB2.out.size,aA HB2.out.size HB2.out hb3⟩
end Go.Proofs.YthjeglnkgdpijaaGreatDoor
namespace Go.Proofs.YthjeglnkgdpijaaGreatDoor
open Go.RowKit
namespace M
structure BD where
 d:List UInt8
 f:List FD
 n:Int
 e:Int
def BD.bad (e:Int):BD:=⟨[],[],0,e⟩
def body (bs:List UInt8) (N:Nat) (k z:Int):BD :=
 if k=1 then (if (bs.length:Int) < N+z then .bad 0 else ⟨(bs.drop N).take z.toNat,[],N+z,0⟩)
 else if k=2 then (if (C.decode (bs.drop N)).e≠0∨(C.decode (bs.drop N)).n=0 then .bad (C.decode (bs.drop N)).e else ⟨(C.decode (bs.drop N)).d,(C.decode (bs.drop N)).f,N+((C.decode (bs.drop N)).n:Int),0⟩)
 else ⟨[],[],N+z,0⟩
end M
def rH (p:Nat) (w w':World):Prop:=∃ w1,Below w.heap.size w w1∧(w'=w1∨∃ x,w'=w1.setCell ⟨p,8,none⟩ x∨∃ y,w'=(w1.setCell ⟨p,8,none⟩ x).setCell ⟨p,9,none⟩ y)
section
variable {p:Nat} {w w':World}
theorem rH.of (h:Below w.heap.size w w'):rH p w w':=⟨w',h,.inl rfl⟩
theorem rH.one {w1:World} (h:Below w.heap.size w w1) (x:Value):rH p w (w1.setCell ⟨p,8,none⟩ x):=⟨w1,h,.inr ⟨x,.inl rfl⟩⟩
theorem rH.two {w1:World} (h:Below w.heap.size w w1) (x y:Value):rH p w ((w1.setCell ⟨p,8,none⟩ x).setCell ⟨p,9,none⟩ y):=⟨w1,h,.inr ⟨x,.inr ⟨y,rfl⟩⟩⟩
theorem rH.blk (h:rH p w w') {b:Nat} {cs:Array Value} {t:TypeId} (hb:Blk w b cs t) (hne:p≠b):Blk w' b cs t:=by
 obtain⟨w1,h1,rfl | ⟨x,rfl | ⟨y,rfl⟩⟩⟩:=h
 ·exact hb.below h1
 ·exact (hb.below h1).far 8 x hne
 ·exact ((hb.below h1).far 8 x hne).far 9 y hne
theorem rH.row (h:rH p w w') {base:Nat} {e:TypeId} {size n c:Nat} {A:Option Addr} {xs:List Value} {cs:Array Value} {t:TypeId} (hr:Row w base e size A n c xs) (hp:Blk w p cs t) (hne:t≠e):Row w' base e size A n c xs:=by
 obtain⟨w1,h1,rfl | ⟨x,rfl | ⟨y,rfl⟩⟩⟩:=h
 ·exact hr.below h1
 ·exact (hr.below h1).farT (hp.below h1) hne 8 x
 ·exact ((hr.below h1).farT (hp.below h1) hne 8 x).farT ((hp.below h1).set 8 x) hne 9 y
theorem rH.low (h:rH p w w') {B:Nat} {w0:World} (hl:Below B w0 w) (hs:B≤w.heap.size) (hB:B≤p):Below B w0 w':=by
 obtain⟨w1,h1,rfl | ⟨x,rfl | ⟨y,rfl⟩⟩⟩:=h
 ·exact aA hs hl h1
 ·exact aK (aA hs hl h1) hB 8 x
 ·exact aK (aK (aA hs hl h1) hB 8 x) hB 9 y
end
section
variable {w:World} {b:Nat} {t:TypeId} {x0 x1 x2 x3 x4 x5 x6 x7 x8 x9:Value}
def ten (w:World) (b:Nat) (y0 y1 y2 y3 y4 y5 y6 y7 y8 y9:Value):World:=((((((((((w.setCell ⟨b,0,none⟩ y0).setCell ⟨b,1,none⟩ y1).setCell ⟨b,2,none⟩ y2).setCell ⟨b,3,none⟩ y3).setCell ⟨b,4,none⟩ y4).setCell ⟨b,5,none⟩ y5).setCell ⟨b,6,none⟩ y6).setCell ⟨b,7,none⟩ y7).setCell ⟨b,8,none⟩ y8).setCell ⟨b,9,none⟩ y9)
end
namespace M
structure MQ where
 m:ByteArray
 t:ByteArray
 v:Int
 fs:List FD
 d:List UInt8
 f:List FD
 n:Int
 e:Int
def MQ.bad (e:Int):MQ:=⟨⟨#[]⟩,⟨#[]⟩,0,[],[],[],0,e⟩
def whole (q:P.RQ) (b:BD):MQ:=if b.e≠0∨b.n=0 then .bad b.e else ⟨q.m,q.t,q.v,q.fs,b.d,b.f,b.n,0⟩
def aRS (bs:List UInt8) (q:P.RQ) (f:F.FR):MQ:=if f.e≠0 then .bad f.e else whole q (body bs q.n.toNat f.k f.n)
def request (bs:List UInt8):MQ:=if (P.request bs).e≠0∨(P.request bs).n=0 then .bad (P.request bs).e else aRS bs (P.request bs) (F.frame (P.request bs).v (P.request bs).fs 0)
end M
def aOX (w:World) (r:M.MQ) (e:Ending) (w':World):Prop :=
 ∃ A c D d T k,e=.returned (.tuple #[.agg #[.string r.m,.string r.t,.int .i64 r.v,.slice A r.fs.length c,.int .i64 0,.string ⟨#[]⟩,.int .i64 0,.slice none 0 0,.slice D r.d.length d,.slice T r.f.length k],.int .i64 r.n,.int .i64 r.e]) ∧
  Row w' w.heap.size 60 2 A r.fs.length c (aJ r.fs)∧bZ w' w.heap.size D r.d.length d r.d∧Row w' w.heap.size 60 2 T r.f.length k (aJ r.f)∧Below w.heap.size w w'
theorem aOX.bad {w w':World} {r:M.MQ} {code:Int} (hb:Below w.heap.size w w') (h:r=.bad code):aOX w r (.returned (.tuple #[.agg #[.string ⟨#[]⟩,.string ⟨#[]⟩,.int .i64 0,.slice none 0 0,.int .i64 0,.string ⟨#[]⟩,.int .i64 0,.slice none 0 0,.slice none 0 0,.slice none 0 0],.int .i64 0,.int .i64 code])) w':=by
 subst h
 exact⟨none,0,none,0,none,0,rfl,Row.none_ _ _ _ _,bZ.none_ _ _,Row.none_ _ _ _ _,hb⟩
end Go.Proofs.YthjeglnkgdpijaaGreatDoor
