/- The walks of the disk's Rename and Sync. The walk of the disk's Read. The walks of the law ObjectEncodes: alive, CopyEntry, SameEntry. Conditions: as each theorem states them. -/
import Derived.Test.YthjeglnkgdpijaaGreatDoorZ17
set_option maxHeartbeats 2000000
set_option maxRecDepth 100000
namespace Go.Proofs.YthjeglnkgdpijaaGreatDoor
open Go Go.RowKit Go.Maps
theorem nameRow (u:World) (s:ByteArray) (B:Nat) (hB:B≤u.heap.size):Row (u.alloc (.cells #[.string s] 9)) B 9 1 (some ⟨u.heap.size,0,none⟩) 1 1 (aC [s]) :=
 .inl ⟨rfl,.inr ⟨u.heap.size,1,_,rfl,hB,heap_alloc_new u _,zA _,by decide,rfl,rfl⟩⟩
section
variable {B:Nat} {M:DM} {s:D.Dsk} {w:World}
theorem bU.firm (h:bU B M s w) (ok:s.Ok) {no:Nat} (hn:no < s.data.length) :
  bU B M { s with firm:=s.firm.set no (s.size no) } (w.setCell ⟨M.fa no,2,none⟩ (.int .i64 (s.size no:Nat))):=by
 have hg:=aT w (M.fa no) 2 (.int .i64 (s.size no:Nat))
 have hF:=(h.files no hn).blk
 have hT:=hF.tag
 have hb:∀ {k t},Tag w k t→t≠100→some (M.fa no)≠some k:=fun ht hn e=>ht.ne hT hn (by simpa using e.symm)
 refine⟨h.blk.keptG hg (hb h.blk.tag (by decide)),h.now.kept hg (fun e=>hT.map (aF h.now) (by simpa using e.symm)),h.safe.kept hg (fun e=>hT.map (aF h.safe) (by simpa using e.symm)),h.ne,
  h.pend.keptG hg (fun k hk=>hb (h.pend.tag hk) (by decide)),h.chg.imp (fun c v hc=>hc.keptT hg (fun k e=>by cases e;exact hT) (by decide)),h.fails.keptG hg (fun k hk=>hb (h.fails.tag hk) (by decide)),
  fun i hi=>?_,h.apart,h.ge⟩
 obtain⟨f1,f2,f3⟩:=h.files i hi
 refine⟨?_,f2.keptG hg (fun k hk=>hb (f2.tag hk) (by decide)),f3⟩
 by_cases e:i=no
 ·subst e
  have e2:(s.firm.set i (s.size i)).getD i 0=s.size i:=by
   have:i < s.firm.length:=by rw[ok.lens];exact hn
   simp [List.getD,this]
  show Blk _ _ #[_,_,.int .i64 ((s.firm.set i (s.size i)).getD i 0:Nat)] _
  rw[e2]
  exact f1.set 2 _
 ·have e2:(s.firm.set no (s.size no)).getD i 0=s.firm.getD i 0:=by
   simp [List.getD,List.getElem?_set_ne (fun h=>e h.symm)]
  show Blk _ _ #[_,_,.int .i64 ((s.firm.set no (s.size no)).getD i 0:Nat)] _
  rw[e2]
  exact f1.keptG hg (fun e3=>(h.apart no i hn hi (fun h=>e h.symm)).1 (by simpa using e3))
theorem Stepped.file {s':D.Dsk} {i:Nat} {x:Value} {no:Nat} (hn:no < s.data.length) (hs:s'.data.length=s.data.length):Stepped M s w M s' (w.setCell ⟨M.fa no,i,none⟩ x) :=
 Stepped.grown (aT w _ i x) (fun k e=>by cases e;exact .inr (.inr (.inr (.inr ⟨no,hn,.inl rfl⟩)))) (fun k hf=>.inl (by unfold DM.foot at *;rw[hs]at hf;exact hf)) rfl
end
theorem D.find_lt {s:D.Dsk} (ok:s.Ok) {nm:ByteArray} {no:Nat} (h:D.find s.now nm=some no):no < s.data.length:=ok.inN _ (D.aN h)
theorem aKZ (B:Nat) (M:DM) (s:D.Dsk) (nm:ByteArray) (w:World) (h:bU B M s w) (hs:s.Sml) (ok:s.Ok) (hn:nm.size≤1099511627776) :
  Calls Tryz.prog 95 #[.pointer (some ⟨M.d,0,none⟩),.string nm] w (fun e w'=>e=.returned (.int .i64 (s.sync nm).2)∧bU B M (s.sync nm).1 w'∧Stepped M s w M (s.sync nm).1 w'):=by
 have HON:=aH (on_any B M s nm none 0 0 0 [] w (fun u hg=>h.below (grown_below hg)) ⟨hs.n0,hs.n⟩ hs.fails (by omega) rfl (fun x hx=>by rw[List.mem_singleton.1 hx];exact hn) (Row.none_ _ _ _ _) (zF _))
 obtain⟨G,hG⟩:∃ G,s.sync nm=G:=⟨_,rfl⟩
 have HG:Hid (G=match s.look nm [] with | (s1,_,some no)=>({ s1 with firm:=s1.firm.set no (s1.size no) },0) | (s1,e,none)=>(s1,e)):=aH (by rw[← hG];exact D.Dsk.on_look ..)
 rw[hG]
 clear hG h
 go_enter Tryz.func95,Tryz.ntmps95
 go_wp2_with fail
 refine HON.out.mono ?_
 rintro e w2 ⟨rfl,u,hg,hd2,hs2⟩
 have HS2:=aH ((Stepped.below (grown_below hg)).trans hs2)
 clear hg hs2 HON
 rcases s.look_or nm [] with ⟨n,e,hl,he⟩ | ⟨n,no,hl,hf⟩
 ·rw[hl]at hd2 HS2 HG
  rw[hl]
  have HD2:=aH hd2
  have heb:(e==0)=false:=beq_eq_false_iff_ne.2 he
  clear hd2 hl
  go_wp2
  go_ret
  exact⟨by rw[HG.out];rfl,by rw[HG.out];exact HD2.out,by rw[HG.out];exact HS2.out⟩
 ·rw[hl]at hd2 HS2 HG
  rw[hl]
  have hno:=D.find_lt ok hf
  have HD2:=aH hd2
  have okn:({ s with n:=n }:D.Dsk).Ok:=⟨ok.lens,ok.upN,ok.upS,ok.inN,ok.inS,ok.inP,ok.fold,ok.firms⟩
  have HD3:=aH (hd2.firm okn hno)
  have HS3:=aH (HS2.out.trans (Stepped.file (s':={ s with n:=n,firm:=s.firm.set no (s.size no) }) (i:=2) (x:=.int .i64 (s.size no:Nat)) hno rfl))
  have z1:w2.cell? ⟨M.fa no,1,none⟩=some (.slice (M.da no) (s.size no) (M.dc no)):=(hd2.files no hno).blk.cell 1 rfl
  have z2:w2.cell? ⟨M.fa no,2,none⟩=some (.int .i64 (s.firm.getD no 0:Nat)):=(hd2.files no hno).blk.cell 2 rfl
  have f2:=(hd2.files no hno).blk.free 2
  clear hd2 hl hf okn
  dsimp only[D.kN]
  go_wp2
  go_ret
  exact⟨by rw[HG.out];rfl,by rw[HG.out];exact HD3.out,by rw[HG.out];exact HS3.out⟩
theorem aFR (B:Nat) (M:DM) (s:D.Dsk) (x y:ByteArray) (w:World) (h:bU B M s w) (hs:s.Sml) (hx:x.size≤1099511627776) (hy:y.size≤1099511627776) :
  Calls Tryz.prog 108 #[.pointer (some ⟨M.d,0,none⟩),.string x,.string y] w (aY B M s w (s.rename x y)):=by
 have HD:=aH h
 have HB:=aH h.base
 have hb1:Below w.heap.size w (w.alloc (.cells #[.string x] 9)):=(zB _ _).alloc (zA _) _
 have hb2:Below w.heap.size w ((w.alloc (.cells #[.string x] 9)).alloc (.cells #[.string y] 9)):=hb1.alloc (by simp) _
 have hb3:Below w.heap.size w (((w.alloc (.cells #[.string x] 9)).alloc (.cells #[.string y] 9)).alloc (.cells #[.string y] 9)):=hb2.alloc (by simp;omega) _
 have hnx:Blk (w.alloc (.cells #[.string x] 9)) w.heap.size #[.string x] 9:=Blk.new w _ _
 have hny:Blk ((w.alloc (.cells #[.string x] 9)).alloc (.cells #[.string y] 9)) (w.heap.size+1) #[.string y] 9:=by
  have:=Blk.new (w.alloc (.cells #[.string x] 9)) #[.string y] 9
  simpa using this
 have HX:=aH ((hnx.alloc (.cells #[.string y] 9)).alloc (.cells #[.string y] 9))
 have HY:=aH (hny.alloc (.cells #[.string y] 9))
 have z0:((w.alloc (.cells #[.string x] 9)).alloc (.cells #[.string y] 9)).cell? ⟨w.heap.size,0,none⟩=some (.string x):=(hnx.alloc _).cell 0 rfl
 have z1:((w.alloc (.cells #[.string x] 9)).alloc (.cells #[.string y] 9)).cell? ⟨w.heap.size+1,0,none⟩=some (.string y):=hny.cell 0 rfl
 have hrow:Row (((w.alloc (.cells #[.string x] 9)).alloc (.cells #[.string y] 9)).alloc (.cells #[.string y] 9)) (w.heap.size+2) 9 1 (some ⟨w.heap.size+2,0,none⟩) 1 1 (aC [y]):=by
  have:=nameRow ((w.alloc (.cells #[.string x] 9)).alloc (.cells #[.string y] 9)) y (w.heap.size+2) (by simp)
  simpa using this
 have hbg:∀ u,World.grownBy (((w.alloc (.cells #[.string x] 9)).alloc (.cells #[.string y] 9)).alloc (.cells #[.string y] 9)) u (ownB (some ⟨w.heap.size+2,0,none⟩) 1)→Below (w.heap.size+2) (((w.alloc (.cells #[.string x] 9)).alloc (.cells #[.string y] 9)).alloc (.cells #[.string y] 9)) u:=fun u hg =>
  (zB _ _).grown hg (by simp) (fun k hk=>(hrow.lt k hk).1)
 have HBG:=aH hbg
 have HON:=aH (on_any B M s x (some ⟨w.heap.size+2,0,none⟩) 1 1 (w.heap.size+2) [y] _ (fun u hg=>h.below (hb3.trans ((hbg u hg).mono (by omega)))) ⟨hs.n0,hs.n⟩ hs.fails (by omega) rfl (fun q hq=>by
  rcases List.mem_cons.1 hq with rfl | hq
  ·exact hy
  ·rw[List.mem_singleton.1 hq];exact hx) hrow (by simp))
 have HB3:=aH hb3
 obtain⟨G,hG⟩:∃ G,s.rename x y=G:=⟨_,rfl⟩
 have HG:Hid (G=match s.look x [y] with | (s1,_,some no)=>(if x=y then (s1,0) else (s1.alter (.ren x y no),0)) | (s1,e,none)=>(s1,e)):=aH (by rw[← hG];exact D.Dsk.on_look ..)
 rw[hG]
 clear hG hb1 hb2 hb3 hnx hny hrow hbg h
 go_enter Tryz.func108,Tryz.ntmps108
 go_wp2_with fail
 refine HON.out.mono ?_
 rintro e w2 ⟨rfl,u,hg,hd2,hs2⟩
 have HS2:=aH ((Stepped.below (HB3.out.trans ((HBG.out u hg).mono (by omega))):Stepped M s w M s u).trans hs2)
 have HX2:=aH (hs2.fresh HD.out (zA _) (HX.out.under (HBG.out u hg) (by omega)))
 have HY2:=aH (hs2.fresh HD.out (Nat.le_succ _) (HY.out.under (HBG.out u hg) (by omega)))
 have hsz2:w.heap.size+3≤w2.heap.size:=by have h1:=hs2.size;have h2:=hg.size;simp at h2;omega
 clear hg hs2 HON HX HY z0 z1 HBG HB3
 rcases s.look_or x [y] with ⟨n,e,hl,he⟩ | ⟨n,no,hl,hf⟩
 ·rw[hl]at hd2 HS2 HG
  rw[hl]
  have HD2:=aH hd2
  have heb:(e==0)=false:=beq_eq_false_iff_ne.2 he
  clear hd2 hl
  dsimp only[D.kN]
  go_wp2
  go_ret
  exact⟨by rw[HG.out];rfl,M,by rw[HG.out];exact HD2.out.below ((zB _ _).alloc (zA _) _),by rw[HG.out];exact HS2.out.trans (Stepped.below ((zB _ _).alloc (zA _) _))⟩
 ·rw[hl]at hd2 HS2 HG
  rw[hl]
  have hb4:Below w2.heap.size w2 (w2.alloc (.cells #[.pointer (some ⟨M.fa no,0,none⟩)] 98)):=(zB _ _).alloc (zA _) _
  have hd4:=hd2.below hb4
  have HD4:=aH hd4
  have HS4:=aH (HS2.out.trans (Stepped.below hb4))
  have hx4:=HX2.out.alloc (.cells #[.pointer (some ⟨M.fa no,0,none⟩)] 98)
  have hy4:=HY2.out.alloc (.cells #[.pointer (some ⟨M.fa no,0,none⟩)] 98)
  have hf4:Blk (w2.alloc (.cells #[.pointer (some ⟨M.fa no,0,none⟩)] 98)) w2.heap.size #[.pointer (some ⟨M.fa no,0,none⟩)] 98:=Blk.new _ _ _
  have z0:(w2.alloc (.cells #[.pointer (some ⟨M.fa no,0,none⟩)] 98)).cell? ⟨w.heap.size,0,none⟩=some (.string x):=hx4.cell 0 rfl
  have z1:(w2.alloc (.cells #[.pointer (some ⟨M.fa no,0,none⟩)] 98)).cell? ⟨w.heap.size+1,0,none⟩=some (.string y):=hy4.cell 0 rfl
  have HA:=aH (aG7 B M { s with n:=n } (.pointer (some ⟨w.heap.size,0,none⟩)) (.pointer (some ⟨w2.heap.size,0,none⟩)) (.pointer (some ⟨w.heap.size+1,0,none⟩)) (.ren x y no) _ hd4 ⟨w.heap.size,w2.heap.size,w.heap.size+1,rfl,HB.out,by have:=HB.out;omega,by have:=HB.out;omega,hx4,hf4,hy4⟩ hs.pend (aFS x y no w.heap.size w2.heap.size (w.heap.size+1) hd4.now hs.now hx hy hx4 hf4 hy4))
  clear hb4 hd4 hx4 hy4 hf4 hd2 hl hf HX2 HY2
  dsimp only[D.kN]
  have HG2:Hid (G=if x=y then (({ s with n:=n }:D.Dsk),(0:Int)) else (({ s with n:=n }:D.Dsk).alter (.ren x y no),0)):=HG
  clear HG
  by_cases hxy:x=y
  ·rw[if_pos hxy]at HG2
   subst hxy
   go_wp2
   go_ret
   exact⟨by rw[HG2.out];rfl,M,by rw[HG2.out];exact HD4.out,by rw[HG2.out];exact HS4.out⟩
  ·have hxyl:(x.toList==y.toList)=false:=beq_eq_false_iff_ne.2 (fun e=>hxy (toList_inj.1 e))
   rw[if_neg hxy]at HG2
   go_wp2_with fail
   refine HA.out.mono ?_
   rintro e w5 ⟨rfl,M',hd5,hs5,_⟩
   have HD5:=aH hd5
   have HS5:=aH hs5
   clear hd5 hs5 HA
   go_wp2
   go_ret
   exact⟨by rw[HG2.out];rfl,M',by rw[HG2.out];exact HD5.out,by rw[HG2.out];exact HS4.out.trans HS5.out⟩
theorem aGZ (A:Option Addr) (n c:Nat) (bs:List UInt8) (w:World) (hn:n≤1099511627776) (hl:bs.length=n) (hA:A=none→n=0∧c=0) (hx:Rd w A n 1 (aB bs)) :
  Calls Tryz.prog 49 #[.slice A n c] w (dN w 5 1 bs.length (aB bs)):=by
 subst hl
 cases A with
 | none =>
  obtain⟨h1,rfl⟩:=hA rfl
  have h2:bs=[]:=List.length_eq_zero_iff.1 h1
  subst h2
  have he:=fun w=>Lib.run_eql_slice_nil (P:=Tryz.prog) w 39 _ none 0 0 (h:=Tryz.underlying39)
  clear hx h1
  go_enter Tryz.func49,Tryz.ntmps49
  go_wp2
  go_ret
  exact⟨none,0,rfl,Row.none_ _ _ _ _,zB _ _⟩
 | some a =>
  have HX:=aH (hx.alloc (.cells #[] 5))
  have he:=fun w=>Lib.run_eql_slice_nil (P:=Tryz.prog) w 39 _ (some a) bs.length c (h:=Tryz.underlying39)
  clear hx
  go_enter Tryz.func49,Tryz.ntmps49
  go_wp2_with (at_builtin;refine aPP _ rfl (.tmp 5) (.tmp 6) rfl w.heap.size _ 0 0 [] rfl (Row.empty _ _ _ _ _) (some a) bs.length c bs rfl HX.out (by omega) (by rw[bJ];omega) ?_;intro A1 c1 w1 hr1 ha1)
  have hb:=((zB w.heap.size w).alloc (zA _) (.cells #[] 5)).trans (ha1.below (Row.empty _ w.heap.size 5 1 _) (by rw[bJ];omega))
  have e:0+bs.length=bs.length:=Nat.zero_add _
  rw[e]at hr1
  go_ret
  exact⟨A1,c1,rfl,hr1,hb⟩
theorem nilD {u:World} {base size n c:Nat} {e:TypeId} {A:Option Addr} {xs:List Value} (h:Row u base e size A n c xs) (hA:A=none):n=0∧c=0:=by
 rcases h with h | ⟨h1,h2,_⟩
 ·subst hA
  rcases h.2 with ⟨hv,h0⟩ | ⟨g,cap,cur,hv,_⟩
  ·injection hv with _ h1 h2
   exact⟨h1,h2⟩
  ·cases hv
 ·exact⟨h1,h2⟩
def aPG (w:World) (x:List UInt8 × Int) (e:Ending) (w':World):Prop :=
 ∃ A c,e=.returned (.tuple #[.slice A x.1.length c,.int .i64 x.2])∧Row w' w.heap.size 5 1 A x.1.length c (aB x.1)∧Below w.heap.size w w'
theorem aEB (B:Nat) (M:DM) (s:D.Dsk) (nm:ByteArray) (w:World) (h:bU B M s w) (hs:s.Sml) (ok:s.Ok) (hn:nm.size≤1099511627776) :
  Calls Tryz.prog 90 #[.pointer (some ⟨M.d,0,none⟩),.string nm] w (aPG w (s.read nm)):=by
 have HD:=aH h
 have HDW:=aH (zL B M s w h)
 have HGN:=aH (fun u=>oZ nm u hn)
 obtain⟨y0,y1,y2,y3,y4,y5,y6,y7⟩:=h.cells
 have hlk:=kF h.now nm (by simp only[maxLen];omega)
 obtain⟨G,hG⟩:∃ G,s.read nm=G:=⟨_,rfl⟩
 have HG:Hid (G=if s.down then (([]:List UInt8),(93:Int)) else if D.good nm=false then ([],95) else match D.find s.now nm with | none=>([],90) | some no=>(s.data.getD no [],0)):=aH (by rw[← hG];rfl)
 rw[hG]
 clear hG h y1 y2 y3 y4 y5 y6 y7
 cases hd:s.down
 rotate_left
 ·rw[hd]at HDW HG
  rw[if_pos rfl]at HG
  cases hf:D.find s.now nm<;>rw[hf]at hlk<;>dsimp only[D.kN]at hlk
  all_goals
   go_enter Tryz.func90,Tryz.ntmps90
   go_wp2_with fail
   refine HDW.out.mono ?_
   rintro e w1 ⟨rfl,hb1⟩
   go_wp2
   go_ret2
   rw[HG.out]
   exact⟨none,0,rfl,Row.none_ _ _ _ _,hb1⟩
 rw[hd]at HDW HG
 rw[if_neg (by decide)]at HG
 cases hg:D.good nm
 ·rw[hg]at HGN HG
  rw[if_pos rfl]at HG
  cases hf:D.find s.now nm<;>rw[hf]at hlk<;>dsimp only[D.kN]at hlk
  all_goals
   go_enter Tryz.func90,Tryz.ntmps90
   go_wp2_with fail
   refine HDW.out.mono ?_
   rintro e w1 ⟨rfl,hb1⟩
   have HG2:=aH (HGN.out w1)
   go_wp2_with fail
   refine HG2.out.mono ?_
   rintro e w2 ⟨rfl,hb2⟩
   go_wp2
   go_ret2
   rw[HG.out]
   exact⟨none,0,rfl,Row.none_ _ _ _ _,aA hb1.size hb1 hb2⟩
 rw[hg]at HGN HG
 rw[if_neg (by decide)]at HG
 cases hf:D.find s.now nm with
 | none =>
  rw[hf]at hlk HG
  dsimp only[D.kN]at hlk HG
  go_enter Tryz.func90,Tryz.ntmps90
  go_wp2_with fail
  refine HDW.out.mono ?_
  rintro e w1 ⟨rfl,hb1⟩
  have HG2:=aH (HGN.out w1)
  go_wp2_with fail
  refine HG2.out.mono ?_
  rintro e w2 ⟨rfl,hb2⟩
  go_wp2
  go_ret2
  rw[HG.out]
  exact⟨none,0,rfl,Row.none_ _ _ _ _,aA hb1.size hb1 hb2⟩
 | some no =>
  have hno:=D.find_lt ok hf
  rw[hf]at hlk HG
  dsimp only[D.kN]at hlk HG
  have HF:=aH (HD.out.files no hno)
  have hsz:=hs.size no
  clear hf hno
  go_enter Tryz.func90,Tryz.ntmps90
  go_wp2_with fail
  refine HDW.out.mono ?_
  rintro e w1 ⟨rfl,hb1⟩
  have HG2:=aH (HGN.out w1)
  have HB1:=aH hb1
  clear hb1
  go_wp2_with fail
  refine HG2.out.mono ?_
  rintro e w2 ⟨rfl,hb2⟩
  have HB2:=aH (aA HB1.out.size HB1.out hb2)
  clear hb2 HG2 HB1
  have z1:w2.cell? ⟨M.fa no,1,none⟩=some (.slice (M.da no) (s.size no) (M.dc no)):=(HF.out.blk.below HB2.out).cell 1 rfl
  have hrow:=HF.out.row.below HB2.out
  have HC:=aH (aGZ (M.da no) (s.size no) (M.dc no) (s.data.getD no []) w2 hsz rfl (nilD hrow) hrow.rd)
  clear hrow
  go_wp2_with fail
  refine HC.out.mono ?_
  rintro e w3 ⟨A3,c3,rfl,hr3,hb3⟩
  go_wp2
  go_ret2
  rw[HG.out]
  exact⟨A3,c3,rfl,hr3.mono HB2.out.size,aA HB2.out.size HB2.out hb3⟩
end Go.Proofs.YthjeglnkgdpijaaGreatDoor
namespace Go.Proofs.YthjeglnkgdpijaaGreatDoor
open Go.RowKit
theorem aP1 (A B:Option Addr) (n c d:Nat) (xs:List UInt8) (w:World) (hn:n≤1099511627776) (hl:xs.length=n) (hx:Rd w A n 1 (aB xs)) (hy:Rd w B n 1 (aB xs)) :
  Calls Tryz.prog 42 #[.slice A n c,.slice B n d] w (pR w true):=by
 have:=yE A B n n c d xs xs w hn hn hx hy hl hl
 simpa using this
theorem aP0 (m s:Int) (r:ByteArray) (A B:Option Addr) (c d:Nat) (xs:List FD) (w:World) (hn:xs.length≤1099511627776) (hx:Rd w A xs.length 2 (aI xs)) (hy:Rd w B xs.length 2 (aI xs)) :
  Calls Tryz.prog 41 #[.agg #[.int .i64 s,.string r,.int .i64 m,.slice A xs.length c],.agg #[.int .i64 s,.string r,.int .i64 m,.slice B xs.length d]] w (pR w true):=by
 have:=pY s m s m r r A B xs.length xs.length c d xs xs w hn hn hx hy rfl rfl
 simpa using this
theorem yD (k v:ByteArray) (s:Int) (r:ByteArray) (m:Int) (A:Option Addr) (cf:Nat) (fs:List FD) (X:Option Addr) (cb:Nat) (body:List UInt8) (asked got:Int) (A1:Option Addr) (c1:Nat) (X1:Option Addr) (d1:Nat) (w:World) (hn:fs.length≤1099511627776) (hbn:body.length≤1099511627776)
  (hx:Rd w A fs.length 2 (aI fs)) (hy:Rd w A1 fs.length 2 (aI fs)) (hX:Rd w X body.length 1 (aB body)) (hY:Rd w X1 body.length 1 (aB body)) :
  Calls Tryz.prog 16 #[.agg #[.string k,.string v,.int .i64 s,.string r,.int .i64 m,.slice A fs.length cf,.slice X body.length cb,.int .i64 asked,.int .i64 got],.agg #[.string k,.string v,.int .i64 s,.string r,.int .i64 m,.slice A1 fs.length c1,.slice X1 body.length d1,.int .i64 asked,.int .i64 got]] w (pR w true):=by
 have HSR:=aH (fun (u:World) (hu:Below w.heap.size w u)=>aP0 m s r A A1 cf c1 fs u hn (hx.below hu) (hy.below hu))
 have HSB:=aH (fun (u:World) (hu:Below w.heap.size w u)=>aP1 X X1 body.length cb d1 body u hbn rfl (hX.below hu) (hY.below hu))
 have HK:=aH ((Blk.new w #[.string k,.string v,.int .i64 s,.string r,.int .i64 m,.slice A fs.length cf,.slice X body.length cb,.int .i64 asked,.int .i64 got] 41).alloc (.cells #[.string k,.string v,.int .i64 s,.string r,.int .i64 m,.slice A1 fs.length c1,.slice X1 body.length d1,.int .i64 asked,.int .i64 got] 41))
 have HL:=aH (Blk.new (w.alloc (.cells #[.string k,.string v,.int .i64 s,.string r,.int .i64 m,.slice A fs.length cf,.slice X body.length cb,.int .i64 asked,.int .i64 got] 41)) #[.string k,.string v,.int .i64 s,.string r,.int .i64 m,.slice A1 fs.length c1,.slice X1 body.length d1,.int .i64 asked,.int .i64 got] 41)
 have HB:=aH (((zB w.heap.size w).alloc (zA _) (.cells #[.string k,.string v,.int .i64 s,.string r,.int .i64 m,.slice A fs.length cf,.slice X body.length cb,.int .i64 asked,.int .i64 got] 41)).alloc (by rw[bJ];omega) (.cells #[.string k,.string v,.int .i64 s,.string r,.int .i64 m,.slice A1 fs.length c1,.slice X1 body.length d1,.int .i64 asked,.int .i64 got] 41))
 rw[bJ]at HL
 clear hx hy hX hY
 go_enter Tryz.func16,Tryz.ntmps16
 obtain⟨x0,x1,x2,x3,x4,x5,x6,x7,x8⟩:=HK.out.cells9
 obtain⟨y0,y1,y2,y3,y4,y5,y6,y7,y8⟩:=HL.out.cells9
 go_wp2_with fail
 clear x0 x1 x2 x3 x4 x5 x6 x7 x8 y0 y1 y2 y3 y4 y5 y6 y7 y8
 refine (HSR.out _ HB.out).mono ?_
 rintro e w1 ⟨rfl,hb1⟩
 have HK1:=aH (HK.out.below hb1)
 have HL1:=aH (HL.out.below hb1)
 have HB1:=aH (aA HB.out.size HB.out hb1)
 clear HK HL HB HSR hb1
 obtain⟨x0,x1,x2,x3,x4,x5,x6,x7,x8⟩:=HK1.out.cells9
 obtain⟨y0,y1,y2,y3,y4,y5,y6,y7,y8⟩:=HL1.out.cells9
 go_wp2_with fail
 clear x0 x1 x2 x3 x4 x5 x6 x7 x8 y0 y1 y2 y3 y4 y5 y6 y7 y8
 refine (HSB.out _ HB1.out).mono ?_
 rintro e w2 ⟨rfl,hb2⟩
 have HK2:=aH (HK1.out.below hb2)
 have HL2:=aH (HL1.out.below hb2)
 have HB2:=aH (aA HB1.out.size HB1.out hb2)
 clear HK1 HL1 HB1 HSB hb2
 obtain⟨x0,x1,x2,x3,x4,x5,x6,x7,x8⟩:=HK2.out.cells9
 obtain⟨y0,y1,y2,y3,y4,y5,y6,y7,y8⟩:=HL2.out.cells9
 go_wp2
 go_ret
 exact⟨rfl,HB2.out⟩
theorem bQ.apartB {w:World} {base:Nat} {A:Option Addr} {n c:Nat} {bs:List UInt8} (h:bQ w base A n c bs) {b:Nat} (hb:b < base):0 < n→∀ a,A=some a→a.block≠b:=fun hn a ha=>by
 rcases h.2.2 with h0 | ⟨g,hg,hB,_⟩
 ·have:=h.2.1;omega
 ·rw[hg]at ha
  cases ha
  show g≠b
  omega
theorem Row.apartB {w:World} {base:Nat} {e:TypeId} {size:Nat} {A:Option Addr} {n c:Nat} {xs:List Value} (h:Row w base e size A n c xs) {b:Nat} (hb:b < base):0 < n→∀ a,A=some a→a.block≠b:=fun hn a ha=>by
 have hc:=h.cap.1
 have:=h.lt a.block (by unfold ownB;rw[if_neg (by omega),ha];rfl)
 omega
end Go.Proofs.YthjeglnkgdpijaaGreatDoor
