/- The walks of the disk's Rename and Sync. Conditions: names of at most 2^40 bytes, at most 2^40 steps, names, files and changes. The walks of the disk's List and SyncNames, and of New without files. Conditions: at most 2^30 names; what begin asks. -/
import Derived.Test.YtkempjcphpnocaaGreatDoorZ10
import Derived.Carry
namespace Go.Proofs.YtkempjcphpnocaaGreatDoor
open Go Go.RowKit Go.Maps
theorem nameRow (u:World) (s:ByteArray) (B:Nat) (hB:B≤u.heap.size):Row (u.alloc (.cells #[.string s] 9)) B 9 1 (some ⟨u.heap.size,0,none⟩) 1 1 (scells [s]) :=
 .inl ⟨rfl,.inr ⟨u.heap.size,1,_,rfl,hB,heap_alloc_new u _,Nat.le_refl _,by decide,rfl,rfl⟩⟩
section
variable {B:Nat} {M:DM} {s:D.Dsk} {w:World}
theorem DkAt.firm (h:DkAt B M s w) (ok:s.Ok) {no:Nat} (hn:no < s.data.length) :
  DkAt B M { s with firm:=s.firm.set no (s.size no) } (w.setCell ⟨M.fa no,2,none⟩ (.int .i64 (s.size no:Nat))):=by
 have hg:=grown_set w (M.fa no) 2 (.int .i64 (s.size no:Nat))
 have hF:=(h.files no hn).blk
 have hT:=hF.tag
 have hb:∀ {k t},Tag w k t→t≠78→some (M.fa no)≠some k:=fun ht hn e=>ht.ne hT hn (by simpa using e.symm)
 refine⟨h.blk.keptG hg (hb h.blk.tag (by decide)),h.now.kept hg (fun e=>hT.map (ownsMap_tag h.now) (by simpa using e.symm)),h.safe.kept hg (fun e=>hT.map (ownsMap_tag h.safe) (by simpa using e.symm)),h.ne,
  h.pend.keptG hg (fun k hk=>hb (h.pend.tag hk) (by decide)),h.chg.imp (fun c v hc=>hc.keptT hg (fun k e=>by cases e;exact hT) (by decide)),h.fails.keptG hg (fun k hk=>hb (h.fails.tag hk) (by decide)),
  fun i hi=>?_,h.apart,h.ge⟩
 obtain⟨f1,f2,f3⟩:=h.files i hi
 refine⟨?_,f2.keptG hg (fun k hk=>hb (f2.tag hk) (by decide)),f3⟩
 by_cases e:i=no
 ·subst e
  have e2:(s.firm.set i (s.size i)).getD i 0=s.size i:=by
   have:i < s.firm.length:=by rw[ok.lens];exact hn
   simp [List.getD,this]
  show Blk _ _ #[_,_,.int .i64 ((s.firm.set i (s.size i)).getD i 0:Nat)] _
  rw[e2]
  exact f1.set 2 _
 ·have e2:(s.firm.set no (s.size no)).getD i 0=s.firm.getD i 0:=by
   simp [List.getD,List.getElem?_set_ne (fun h=>e h.symm)]
  show Blk _ _ #[_,_,.int .i64 ((s.firm.set no (s.size no)).getD i 0:Nat)] _
  rw[e2]
  exact f1.keptG hg (fun e3=>(h.apart no i hn hi (fun h=>e h.symm)).1 (by simpa using e3))
theorem Stepped.file {s':D.Dsk} {i:Nat} {x:Value} {no:Nat} (hn:no < s.data.length) (hs:s'.data.length=s.data.length):Stepped M s w M s' (w.setCell ⟨M.fa no,i,none⟩ x) :=
 Stepped.grown (grown_set w _ i x) (fun k e=>by cases e;exact .inr (.inr (.inr (.inr ⟨no,hn,.inl rfl⟩)))) (fun k hf=>.inl (by unfold DM.foot at *;rw[hs]at hf;exact hf)) rfl
end
theorem D.find_lt {s:D.Dsk} (ok:s.Ok) {nm:ByteArray} {no:Nat} (h:D.find s.now nm=some no):no < s.data.length:=ok.inN _ (D.find_mem h)
set_option maxHeartbeats 2000000 in
theorem sync_any (B:Nat) (M:DM) (s:D.Dsk) (nm:ByteArray) (w:World) (h:DkAt B M s w) (hs:s.Sml) (ok:s.Ok) (hn:nm.size≤1099511627776) :
  Calls Tryz.prog 62 #[.pointer (some ⟨M.d,0,none⟩),.string nm] w (fun e w'=>e=.returned (.int .i64 (s.sync nm).2)∧DkAt B M (s.sync nm).1 w'∧Stepped M s w M (s.sync nm).1 w'):=by
 have HON:=Lib.hid (on_any B M s nm none 0 0 0 [] w (fun u hg=>h.below (grown_below hg)) ⟨hs.n0,hs.n⟩ hs.fails (by omega) rfl (fun x hx=>by rw[List.mem_singleton.1 hx];exact hn) (Row.none_ _ _ _ _) (Nat.zero_le _))
 obtain⟨G,hG⟩:∃ G,s.sync nm=G:=⟨_,rfl⟩
 have HG:Hid (G=match s.look nm [] with | (s1,_,some no)=>({ s1 with firm:=s1.firm.set no (s1.size no) },0) | (s1,e,none)=>(s1,e)):=Lib.hid (by rw[← hG];exact D.Dsk.on_look ..)
 rw[hG]
 clear hG h
 go_enter Tryz.func62,Tryz.ntmps62
 go_wp2_with fail
 refine HON.out.mono ?_
 rintro e w2 ⟨rfl,u,hg,hd2,hs2⟩
 have HS2:=Lib.hid ((Stepped.below (grown_below hg)).trans hs2)
 clear hg hs2 HON
 rcases s.look_or nm [] with ⟨n,e,hl,he⟩ | ⟨n,no,hl,hf⟩
 ·rw[hl]at hd2 HS2 HG
  rw[hl]
  have HD2:=Lib.hid hd2
  have heb:(e==0)=false:=beq_eq_false_iff_ne.2 he
  clear hd2 hl
  go_wp2
  go_ret
  exact⟨by rw[HG.out];rfl,by rw[HG.out];exact HD2.out,by rw[HG.out];exact HS2.out⟩
 ·rw[hl]at hd2 HS2 HG
  rw[hl]
  have hno:=D.find_lt ok hf
  have HD2:=Lib.hid hd2
  have okn:({ s with n:=n }:D.Dsk).Ok:=⟨ok.lens,ok.upN,ok.upS,ok.inN,ok.inS,ok.inP,ok.fold,ok.firms⟩
  have HD3:=Lib.hid (hd2.firm okn hno)
  have HS3:=Lib.hid (HS2.out.trans (Stepped.file (s':={ s with n:=n,firm:=s.firm.set no (s.size no) }) (i:=2) (x:=.int .i64 (s.size no:Nat)) hno rfl))
  have z1:w2.cell? ⟨M.fa no,1,none⟩=some (.slice (M.da no) (s.size no) (M.dc no)):=(hd2.files no hno).blk.cell 1 rfl
  have z2:w2.cell? ⟨M.fa no,2,none⟩=some (.int .i64 (s.firm.getD no 0:Nat)):=(hd2.files no hno).blk.cell 2 rfl
  have f2:=(hd2.files no hno).blk.free 2
  clear hd2 hl hf okn
  dsimp only[D.ptrOf]
  go_wp2
  go_ret
  exact⟨by rw[HG.out];rfl,by rw[HG.out];exact HD3.out,by rw[HG.out];exact HS3.out⟩
set_option maxHeartbeats 2000000 in
theorem rename_any (B:Nat) (M:DM) (s:D.Dsk) (x y:ByteArray) (w:World) (h:DkAt B M s w) (hs:s.Sml) (hx:x.size≤1099511627776) (hy:y.size≤1099511627776) :
  Calls Tryz.prog 71 #[.pointer (some ⟨M.d,0,none⟩),.string x,.string y] w (RetStep B M s w (s.rename x y)):=by
 have HD:=Lib.hid h
 have HB:=Lib.hid h.base
 have hb1:Below w.heap.size w (w.alloc (.cells #[.string x] 9)):=(Below.refl _ _).alloc (Nat.le_refl _) _
 have hb2:Below w.heap.size w ((w.alloc (.cells #[.string x] 9)).alloc (.cells #[.string y] 9)):=hb1.alloc (by simp) _
 have hb3:Below w.heap.size w (((w.alloc (.cells #[.string x] 9)).alloc (.cells #[.string y] 9)).alloc (.cells #[.string y] 9)):=hb2.alloc (by simp;omega) _
 have hnx:Blk (w.alloc (.cells #[.string x] 9)) w.heap.size #[.string x] 9:=Blk.new w _ _
 have hny:Blk ((w.alloc (.cells #[.string x] 9)).alloc (.cells #[.string y] 9)) (w.heap.size+1) #[.string y] 9:=by
  have:=Blk.new (w.alloc (.cells #[.string x] 9)) #[.string y] 9
  simpa using this
 have HX:=Lib.hid ((hnx.alloc (.cells #[.string y] 9)).alloc (.cells #[.string y] 9))
 have HY:=Lib.hid (hny.alloc (.cells #[.string y] 9))
 have z0:((w.alloc (.cells #[.string x] 9)).alloc (.cells #[.string y] 9)).cell? ⟨w.heap.size,0,none⟩=some (.string x):=(hnx.alloc _).cell 0 rfl
 have z1:((w.alloc (.cells #[.string x] 9)).alloc (.cells #[.string y] 9)).cell? ⟨w.heap.size+1,0,none⟩=some (.string y):=hny.cell 0 rfl
 have hrow:Row (((w.alloc (.cells #[.string x] 9)).alloc (.cells #[.string y] 9)).alloc (.cells #[.string y] 9)) (w.heap.size+2) 9 1 (some ⟨w.heap.size+2,0,none⟩) 1 1 (scells [y]):=by
  have:=nameRow ((w.alloc (.cells #[.string x] 9)).alloc (.cells #[.string y] 9)) y (w.heap.size+2) (by simp)
  simpa using this
 have hbg:∀ u,World.grownBy (((w.alloc (.cells #[.string x] 9)).alloc (.cells #[.string y] 9)).alloc (.cells #[.string y] 9)) u (ownB (some ⟨w.heap.size+2,0,none⟩) 1)→Below (w.heap.size+2) (((w.alloc (.cells #[.string x] 9)).alloc (.cells #[.string y] 9)).alloc (.cells #[.string y] 9)) u:=fun u hg =>
  (Below.refl _ _).grown hg (by simp) (fun k hk=>(hrow.lt k hk).1)
 have HBG:=Lib.hid hbg
 have HON:=Lib.hid (on_any B M s x (some ⟨w.heap.size+2,0,none⟩) 1 1 (w.heap.size+2) [y] _ (fun u hg=>h.below (hb3.trans ((hbg u hg).mono (by omega)))) ⟨hs.n0,hs.n⟩ hs.fails (by omega) rfl (fun q hq=>by
  rcases List.mem_cons.1 hq with rfl | hq
  ·exact hy
  ·rw[List.mem_singleton.1 hq];exact hx) hrow (by simp))
 have HB3:=Lib.hid hb3
 obtain⟨G,hG⟩:∃ G,s.rename x y=G:=⟨_,rfl⟩
 have HG:Hid (G=match s.look x [y] with | (s1,_,some no)=>(if x=y then (s1,0) else (s1.alter (.ren x y no),0)) | (s1,e,none)=>(s1,e)):=Lib.hid (by rw[← hG];exact D.Dsk.on_look ..)
 rw[hG]
 clear hG hb1 hb2 hb3 hnx hny hrow hbg h
 go_enter Tryz.func71,Tryz.ntmps71
 go_wp2_with fail
 refine HON.out.mono ?_
 rintro e w2 ⟨rfl,u,hg,hd2,hs2⟩
 have HS2:=Lib.hid ((Stepped.below (HB3.out.trans ((HBG.out u hg).mono (by omega))):Stepped M s w M s u).trans hs2)
 have HX2:=Lib.hid (hs2.fresh HD.out (Nat.le_refl _) (HX.out.under (HBG.out u hg) (by omega)))
 have HY2:=Lib.hid (hs2.fresh HD.out (Nat.le_succ _) (HY.out.under (HBG.out u hg) (by omega)))
 have hsz2:w.heap.size+3≤w2.heap.size:=by have h1:=hs2.size;have h2:=hg.size;simp at h2;omega
 clear hg hs2 HON HX HY z0 z1 HBG HB3
 rcases s.look_or x [y] with ⟨n,e,hl,he⟩ | ⟨n,no,hl,hf⟩
 ·rw[hl]at hd2 HS2 HG
  rw[hl]
  have HD2:=Lib.hid hd2
  have heb:(e==0)=false:=beq_eq_false_iff_ne.2 he
  clear hd2 hl
  dsimp only[D.ptrOf]
  go_wp2
  go_ret
  exact⟨by rw[HG.out];rfl,M,by rw[HG.out];exact HD2.out.below ((Below.refl _ _).alloc (Nat.le_refl _) _),by rw[HG.out];exact HS2.out.trans (Stepped.below ((Below.refl _ _).alloc (Nat.le_refl _) _))⟩
 ·rw[hl]at hd2 HS2 HG
  rw[hl]
  have hb4:Below w2.heap.size w2 (w2.alloc (.cells #[.pointer (some ⟨M.fa no,0,none⟩)] 75)):=(Below.refl _ _).alloc (Nat.le_refl _) _
  have hd4:=hd2.below hb4
  have HD4:=Lib.hid hd4
  have HS4:=Lib.hid (HS2.out.trans (Stepped.below hb4))
  have hx4:=HX2.out.alloc (.cells #[.pointer (some ⟨M.fa no,0,none⟩)] 75)
  have hy4:=HY2.out.alloc (.cells #[.pointer (some ⟨M.fa no,0,none⟩)] 75)
  have hf4:Blk (w2.alloc (.cells #[.pointer (some ⟨M.fa no,0,none⟩)] 75)) w2.heap.size #[.pointer (some ⟨M.fa no,0,none⟩)] 75:=Blk.new _ _ _
  have z0:(w2.alloc (.cells #[.pointer (some ⟨M.fa no,0,none⟩)] 75)).cell? ⟨w.heap.size,0,none⟩=some (.string x):=hx4.cell 0 rfl
  have z1:(w2.alloc (.cells #[.pointer (some ⟨M.fa no,0,none⟩)] 75)).cell? ⟨w.heap.size+1,0,none⟩=some (.string y):=hy4.cell 0 rfl
  have HA:=Lib.hid (alter3_any B M { s with n:=n } (.pointer (some ⟨w.heap.size,0,none⟩)) (.pointer (some ⟨w2.heap.size,0,none⟩)) (.pointer (some ⟨w.heap.size+1,0,none⟩)) (.ren x y no) _ hd4 ⟨w.heap.size,w2.heap.size,w.heap.size+1,rfl,HB.out,by have:=HB.out;omega,by have:=HB.out;omega,hx4,hf4,hy4⟩ hs.pend (renChg_any x y no w.heap.size w2.heap.size (w.heap.size+1) hd4.now hs.now hx hy hx4 hf4 hy4))
  clear hb4 hd4 hx4 hy4 hf4 hd2 hl hf HX2 HY2
  dsimp only[D.ptrOf]
  have HG2:Hid (G=if x=y then (({ s with n:=n }:D.Dsk),(0:Int)) else (({ s with n:=n }:D.Dsk).alter (.ren x y no),0)):=HG
  clear HG
  by_cases hxy:x=y
  ·rw[if_pos hxy]at HG2
   subst hxy
   go_wp2
   go_ret
   exact⟨by rw[HG2.out];rfl,M,by rw[HG2.out];exact HD4.out,by rw[HG2.out];exact HS4.out⟩
  ·have hxyl:(x.toList==y.toList)=false:=beq_eq_false_iff_ne.2 (fun e=>hxy (toList_inj.1 e))
   rw[if_neg hxy]at HG2
   go_wp2_with fail
   refine HA.out.mono ?_
   rintro e w5 ⟨rfl,M',hd5,hs5,_⟩
   have HD5:=Lib.hid hd5
   have HS5:=Lib.hid hs5
   clear hd5 hs5 HA
   go_wp2
   go_ret
   exact⟨by rw[HG2.out];rfl,M',by rw[HG2.out];exact HD5.out,by rw[HG2.out];exact HS4.out.trans HS5.out⟩
end Go.Proofs.YtkempjcphpnocaaGreatDoor
namespace Go.Proofs.YtkempjcphpnocaaGreatDoor
open Go Go.RowKit Go.Maps
set_option maxHeartbeats 1000000 in
theorem dlist_any (B:Nat) (M:DM) (s:D.Dsk) (w:World) (h:DkAt B M s w) (ok:s.Ok) (hl:s.now.length≤1073741824) :
  Calls Tryz.prog 14 #[.pointer (some ⟨M.d,0,none⟩)] w (RetRow w 9 1 s.list.length (scells s.list)):=by
 have HD:=Lib.hid h
 have HDW:=Lib.hid (down_any B M s w h)
 obtain⟨G,hG⟩:∃ G,s.list=G:=⟨_,rfl⟩
 have HG:Hid (G=if s.down then [] else s.now.map (·.1)):=Lib.hid hG.symm
 have hup:=ok.upN
 rw[hG]
 clear h hG ok
 cases hd:s.down
 rotate_left
 ·rw[hd]at HDW HG
  rw[if_pos rfl]at HG
  go_enter Tryz.func14,Tryz.ntmps14
  go_wp2_with fail
  refine HDW.out.mono ?_
  rintro e w1 ⟨rfl,hb1⟩
  go_wp2
  go_ret
  rw[HG.out]
  exact⟨none,0,rfl,Row.none_ _ _ _ _,hb1⟩
 rw[hd]at HDW HG
 rw[if_neg (by decide)]at HG
 have HKE:=Lib.hid (fun u=>keysD_any (some M.mN) u)
 go_enter Tryz.func14,Tryz.ntmps14
 go_wp2_with fail
 refine HDW.out.mono ?_
 rintro e w1 ⟨rfl,hb1⟩
 have HD1:=Lib.hid (HD.out.below hb1)
 have HB1:=Lib.hid hb1
 obtain⟨y0,y1,y2,y3,y4,y5,y6,y7⟩:=HD1.out.cells
 clear hb1 HD y1 y2 y3 y4 y5 y6 y7 HDW
 go_wp2_with fail
 refine (HKE.out _).mono ?_
 rintro e w2 ⟨rfl,rfl⟩
 have hb2:Below w1.heap.size w1 (w1.alloc (.cells #[.map (some M.mN)] 67)):=(Below.refl _ _).alloc (Nat.le_refl _) _
 have HSO:=Lib.hid (sortedD_any M.fa s.now w1.heap.size M.mN (w1.alloc (.cells #[.map (some M.mN)] 67)) (by simp) ((Blk.new w1 _ _).cell 0 rfl) (HD1.out.below hb2).now hup hl)
 have HB2:=Lib.hid (below_then HB1.out.size HB1.out hb2)
 clear hb2 HB1 y0
 go_wp2_with fail
 refine HSO.out.mono ?_
 rintro e w3 ⟨A,c,rfl,hr,hb3⟩
 have HR:=Lib.hid (hr.mono HB2.out.size)
 have HB3:=Lib.hid (below_then HB2.out.size HB2.out hb3)
 clear hr hb3 HSO HB2
 go_wp2
 go_ret
 rw[HG.out]
 exact⟨A,c,by rw[List.length_map];rfl,HR.out,HB3.out⟩
section
variable {B:Nat} {M:DM} {s:D.Dsk} {w w1 w2:World} {k:Nat}
def DM.safed (M:DM) (k:Nat):DM:={ M with mS:=k,PA:=none,pc:=0,pv:=[] }
theorem DkAt.synced (h:DkAt B M s w) (hm:w1.ownsMap Tryz.prog 9 D.ptrR w.heap.size s.now.length (D.datum M.fa s.now)) (hb:Below w.heap.size w w1) :
  DkAt B (M.safed w.heap.size) { s with safe:=s.now,pend:=[] } ((w1.setCell ⟨M.d,1,none⟩ (.map (some w.heap.size))).setCell ⟨M.d,2,none⟩ (.slice none 0 0)) ∧
  Stepped M s w (M.safed w.heap.size) { s with safe:=s.now,pend:=[] } ((w1.setCell ⟨M.d,1,none⟩ (.map (some w.heap.size))).setCell ⟨M.d,2,none⟩ (.slice none 0 0)):=by
 have h1:=h.below hb
 have hT:=h1.blk.tag
 have hg1:=grown_set w1 M.d 1 (.map (some w.heap.size))
 have hT2:Tag (w1.setCell ⟨M.d,1,none⟩ (.map (some w.heap.size))) M.d 71:=(h1.blk.set 1 _).tag
 have hg2:=grown_set (w1.setCell ⟨M.d,1,none⟩ (.map (some w.heap.size))) M.d 2 (.slice none 0 0)
 have hg:w1.grownBy ((w1.setCell ⟨M.d,1,none⟩ (.map (some w.heap.size))).setCell ⟨M.d,2,none⟩ (.slice none 0 0)) (some M.d):=hg1.trans hg2
 have hb':∀ {k t},Tag w1 k t→t≠71→some M.d≠some k:=fun ht hn e=>ht.ne hT hn (by simpa using e.symm)
 refine⟨⟨?_,h1.now.kept hg (fun e=>hT.map (ownsMap_tag h1.now) (by simpa using e.symm)),hm.kept hg (fun e=>hT.map (ownsMap_tag hm) (by simpa using e.symm)),?_,Row.none_ _ _ _ _,trivial,h1.fails.keptG hg (fun k hk=>hb' (h1.fails.tag hk) (by decide)),
  fun no hn=>⟨(h1.files no hn).blk.keptG hg (hb' (h1.files no hn).blk.tag (by decide)),(h1.files no hn).row.keptG hg (fun k hk=>hb' ((h1.files no hn).row.tag hk) (by decide)),(h1.files no hn).ge⟩,h1.apart,⟨h.ge.1,h.ge.2.1,h.base⟩⟩,?_⟩
 ·exact (h1.blk.set 1 (.map (some w.heap.size))).set 2 (.slice none 0 0)
 ·have:=h.now.lt
  show M.mN≠w.heap.size
  omega
 ·refine⟨hg.os.trans hb.os,hg.tape.trans hb.tape,hg.output.trans hb.output,Nat.le_trans hb.size hg.size,fun i hi hn=>(hg.block i (Nat.lt_of_lt_of_le hi hb.size) (fun e=>hn (.inl (by simpa using e)))).trans (hb.block i hi),fun i hf=>?_,rfl⟩
  rcases hf with hf | hf | hf | hf | ⟨no,hn,hf⟩
  ·exact .inl (.inl hf)
  ·exact .inl (.inr (.inl hf))
  ·exact .inr (Nat.le_of_eq hf.symm)
  ·cases hf
  ·exact .inl (.inr (.inr (.inr (.inr ⟨no,hn,hf⟩))))
end
set_option maxHeartbeats 2000000 in
theorem syncNames_any (B:Nat) (M:DM) (s:D.Dsk) (w:World) (h:DkAt B M s w) (hs:s.Sml) :
  Calls Tryz.prog 63 #[.pointer (some ⟨M.d,0,none⟩)] w (RetStep B M s w s.syncNames):=by
 have HBG:=Lib.hid (begin_any B M s none 0 0 [] w h ⟨hs.n0,hs.n⟩ hs.fails (by omega) rfl (fun x hx=>by cases hx) (Rd.nil _ _ _) (fun h=>absurd h (by decide)))
 obtain⟨n,hbn⟩:=s.begin_as []
 obtain⟨G,hG⟩:∃ G,s.syncNames=G:=⟨_,rfl⟩
 have HG:Hid (G=if (s.begin []).2≠0 then ({ s with n:=n },(s.begin []).2) else (({ s with n:=n,safe:=s.now,pend:=[] }:D.Dsk),0)):=Lib.hid (by
  rw[← hG]
  unfold D.Dsk.syncNames
  cases hb:s.begin [] with
  | mk s1 e =>
   rw[hb]at hbn
   dsimp only at hbn ⊢
   subst hbn
   rfl)
 rw[hG]
 rw[hbn]at HBG
 generalize (s.begin []).2=e at *
 clear hG h hbn
 go_enter Tryz.func63,Tryz.ntmps63
 go_wp2_with fail
 refine HBG.out.mono ?_
 rintro e2 w2 ⟨rfl,hd2,hs2⟩
 have HD2:=Lib.hid hd2
 have HS2:=Lib.hid hs2
 clear hd2 hs2 HBG
 by_cases he:e=0
 ·subst he
  rw[if_neg (by simp)]at HG
  have HCL:=Lib.hid (cloneM_any M s.now M.mN w2 HD2.out.now)
  obtain⟨y0,y1,y2,y3,y4,y5,y6,y7⟩:=HD2.out.cells
  clear y1 y2 y3 y4 y5 y6 y7
  go_wp2_with fail
  refine HCL.out.mono ?_
  rintro e w3 ⟨rfl,hm3,hb3,_⟩
  obtain⟨HD4,HS4⟩:=HD2.out.synced hm3 hb3
  have HD4:=Lib.hid HD4
  have HS4:=Lib.hid HS4
  have hD3:=HD2.out.below hb3
  have z1:w3.cell? ⟨M.d,1,none⟩=some (.map (some M.mS)):=hD3.blk.cell 1 rfl
  have z2:w3.cell? ⟨M.d,2,none⟩=some (.slice M.PA s.pend.length M.pc):=hD3.blk.cell 2 rfl
  have f1:=hD3.blk.free 1
  have f2:=hD3.blk.free 2
  clear hm3 hb3 HCL y0 hD3
  go_wp2
  go_ret
  exact⟨by rw[HG.out]<;>rfl,_,by rw[HG.out];exact HD4.out,by rw[HG.out];exact HS2.out.trans HS4.out⟩
 ·rw[if_pos he]at HG
  have heb:(e==0)=false:=beq_eq_false_iff_ne.2 he
  go_wp2
  go_ret
  exact⟨by rw[HG.out]<;>rfl,M,by rw[HG.out];exact HD2.out,by rw[HG.out];exact HS2.out⟩
theorem cloneNil_any (w:World):Calls Tryz.prog 26 #[.slice none 0 0] w (RetP w (.slice none 0 0)):=by
 have he:=fun w=>Lib.run_eql_slice_nil (P:=Tryz.prog) w 51 _ none 0 0 (h:=Tryz.underlying51)
 go_enter Tryz.func26,Tryz.ntmps26
 go_wp2
 go_ret
 exact⟨rfl,rfl⟩
def D.none_ (room power:Int):D.Dsk:=⟨[],[],[],[],[],room,[],power,0⟩
theorem DkAt.new (w w1:World) (room power:Int) (_hb:Below w.heap.size w w1) (a b d:Nat) (ha:w.heap.size≤a) (hB:w.heap.size≤b) (hd:w.heap.size≤d) (hab:a≠b)
  (hN:w1.ownsMap Tryz.prog 9 D.ptrR a 0 (.map [])) (hS:w1.ownsMap Tryz.prog 9 D.ptrR b 0 (.map []))
  (hk:Blk w1 d #[.map (some a),.map (some b),.slice none 0 0,.int .i64 0,.int .i64 room,.slice none 0 0,.int .i64 power,.int .i64 0] 71) :
  DkAt w.heap.size ⟨d,a,b,none,0,[],fun _=>0,fun _=>none,fun _=>0,none,0⟩ (D.none_ room power) w1 :=
 ⟨hk,hN,hS,hab,Row.none_ _ _ _ _,trivial,Row.none_ _ _ _ _,fun _ hn=>absurd hn (Nat.not_lt_zero _),fun _ _ hi=>absurd hi (Nat.not_lt_zero _),⟨hd,ha,hB⟩⟩
def RetNew (w:World) (room power:Int) (e:Ending) (w':World):Prop :=
 (¬ (0≤room∧room≤1073741824)∧e=.returned (.tuple #[.pointer none,.int .i64 131])∧Below w.heap.size w w') ∨
 (0≤room∧room≤1073741824∧∃ M,e=.returned (.tuple #[.pointer (some ⟨M.d,0,none⟩),.int .i64 0])∧DkAt w.heap.size M (D.none_ room power) w'∧Below w.heap.size w w')
set_option maxRecDepth 100000 in
set_option maxHeartbeats 2000000 in
theorem newNil_any (room power:Int) (w:World) :
  Calls Tryz.prog 7 #[.slice none 0 0,.int .i64 room,.slice none 0 0,.int .i64 power] w (RetNew w room power):=by
 by_cases h0:0≤room
 rotate_left
 ·have h0i:room < 0:=by omega
  go_enter Tryz.func7,Tryz.ntmps7
  go_wp2
  go_ret2
  exact .inl ⟨fun h=>by omega,rfl,Below.refl _ _⟩
 by_cases h1:room≤1073741824
 rotate_left
 ·have h1i:room > 1073741824:=by omega
  have h0i:¬ room < 0:=by omega
  go_enter Tryz.func7,Tryz.ntmps7
  go_wp2
  go_ret2
  exact .inl ⟨fun h=>by omega,rfl,Below.refl _ _⟩
 have h0i:¬ room < 0:=by omega
 have h1i:¬ room > 1073741824:=by omega
 have hmm:=@run_makeMap Tryz.prog
 have HCN:=Lib.hid (fun u=>cloneNil_any u)
 go_enter Tryz.func7,Tryz.ntmps7
 go_wp2_with fail
 clear hmm
 refine (HCN.out _).mono ?_
 rintro e w1 ⟨rfl,rfl⟩
 obtain⟨M0,hM0⟩:∃ M0,w.alloc (.map #[] 0)=M0:=⟨_,rfl⟩
 have hs0:M0.heap.size=w.heap.size+1:=by rw[← hM0];exact World.size_alloc ..
 have HN:=Lib.hid ((World.ownsMap_made w Tryz.prog 9 D.ptrR))
 rw[hM0]at HN ⊢
 have hb0:Below w.heap.size w M0:=by rw[← hM0];exact (Below.refl _ _).alloc (Nat.le_refl _) _
 obtain⟨D0,hD0⟩:∃ D0,D0=M0.alloc (.cells #[.map (some w.heap.size),.map none,.slice none 0 0,.int .i64 0,.int .i64 room,.slice none 0 0,.int .i64 power,.int .i64 0] 71):=⟨_,rfl⟩
 have HK:=Lib.hid (Blk.new M0 #[.map (some w.heap.size),.map none,.slice none 0 0,.int .i64 0,.int .i64 room,.slice none 0 0,.int .i64 power,.int .i64 0] 71)
 rw[← hD0,hs0]at HK
 have hbd:Below M0.heap.size M0 D0:=by rw[hD0];exact (Below.refl _ _).alloc (Nat.le_refl _) _
 have HB1:=Lib.hid (below_then hb0.size hb0 hbd)
 have HN1:Hid (D0.ownsMap Tryz.prog 9 D.ptrR w.heap.size 0 (.map [])):=Lib.hid (HN.out.kept (show M0.grownBy D0 none from⟨hbd.os,hbd.tape,hbd.output,hbd.size,fun k hk _=>hbd.block k hk⟩) (by simp))
 have HCL:=Lib.hid (cloneM_any ⟨0,0,0,none,0,[],fun _=>0,fun _=>none,fun _=>0,none,0⟩ [] w.heap.size D0 HN1.out)
 clear HN hM0
 go_upto_region 4 with fail
 simp only[← hD0]
 have z0:D0.cell? ⟨w.heap.size+1,0,none⟩=some (.map (some w.heap.size)):=HK.out.cell 0 rfl
 clear hD0
 go_wp2
 go_loopw [29] (fun i wr=>i=.int .i64 0∧D0=wr) (fun _ _=>0)
 case atStart=>exact⟨rfl,rfl⟩
 case round =>
 obtain⟨rfl,rfl⟩:=hrel
 go_wp2_with fail
 clear z0
 refine HCL.out.mono ?_
 rintro e w2 ⟨rfl,hm2,hb2,hlt⟩
 have HK2:=Lib.hid (HK.out.below hb2)
 have z1:w2.cell? ⟨w.heap.size+1,1,none⟩=some (.map none):=HK2.out.cell 1 rfl
 have f1:=HK2.out.free 1
 have HB2:=Lib.hid (below_then HB1.out.size HB1.out hb2)
 have hge:w.heap.size < D0.heap.size:=HN1.out.lt
 have hg1:=grown_set w2 (w.heap.size+1) 1 (.map (some D0.heap.size))
 have hT:=HK2.out.tag
 have HN2:=Lib.hid ((HN1.out.kept (show D0.grownBy w2 none from⟨hb2.os,hb2.tape,hb2.output,hb2.size,fun k hk _=>hb2.block k hk⟩) (by simp)).kept hg1 (fun e=>absurd e (by simp)))
 have HS2:=Lib.hid (hm2.kept hg1 (fun e=>hT.map (ownsMap_tag hm2) (by simpa using e.symm)))
 have HK3:=Lib.hid (HK2.out.set 1 (.map (some D0.heap.size)))
 have HB3:=Lib.hid (below_set HB2.out (b:=w.heap.size+1) (by omega) 1 (.map (some D0.heap.size)))
 clear hm2 hb2 hg1 HN1 HCL HK HB1 hb0 hbd
 go_wp2
 go_ret2
 refine .inr ⟨h0,h1,_,rfl,DkAt.new w _ room power HB3.out w.heap.size D0.heap.size (w.heap.size+1) (Nat.le_refl _) (Nat.le_of_lt hge) (by omega) (by omega) HN2.out HS2.out ?_,HB3.out⟩
 exact HK3.out
end Go.Proofs.YtkempjcphpnocaaGreatDoor
