/- The walks of the disk's Rename and Sync. Conditions: names of at most 2^40 bytes, at most 2^40 steps, names, files and changes. The walk of the disk's Read. Conditions: names and files of at most 2^40 bytes. The walk of the disk's Used: a range over the names. Conditions: at most 2^40 bytes of a file, 2^40 names; the sum within 2^60. -/
import Derived.Test.YtkempjcphpnocaaGreatDoorDiskE
import Derived.Maps.RangeWalk
import Derived.Sort.KeysCollected
namespace Go.Proofs.YtkempjcphpnocaaGreatDoor
open Go Go.RowKit Go.Maps
theorem nameRow (u:World) (s:ByteArray) (B:Nat) (hB:B ≤ u.heap.size):Row (u.alloc (.cells #[.string s] 9)) B 9 1 (some ⟨u.heap.size,0,none⟩) 1 1 (scells [s]) :=
  .inl ⟨rfl,.inr ⟨u.heap.size,1,_,rfl,hB,heap_alloc_new u _,Nat.le_refl _,by decide,rfl,rfl⟩⟩
section
variable {B:Nat} {M:DM} {s:D.Dsk} {w:World}
theorem DkAt.firm (h:DkAt B M s w) (ok:s.Ok) {no:Nat} (hn:no < s.data.length) :
    DkAt B M { s with firm:=s.firm.set no (s.size no) } (w.setCell ⟨M.fa no,2,none⟩ (.int .i64 (s.size no:Nat))):=by
  have hg:=grown_set w (M.fa no) 2 (.int .i64 (s.size no:Nat))
  have hF:=(h.files no hn).blk
  have hT:=hF.tag
  have hb:∀ {k t},Tag w k t → t ≠ 78 → some (M.fa no) ≠ some k:=fun ht hn e=>ht.ne hT hn (by simpa using e.symm)
  refine ⟨h.blk.keptG hg (hb h.blk.tag (by decide)),h.now.kept hg (fun e=>hT.map (ownsMap_tag h.now) (by simpa using e.symm)),h.safe.kept hg (fun e=>hT.map (ownsMap_tag h.safe) (by simpa using e.symm)),h.ne,
    h.pend.keptG hg (fun k hk=>hb (h.pend.tag hk) (by decide)),h.chg.imp (fun c v hc=>hc.keptT hg (fun k e=>by cases e; exact hT) (by decide)),h.fails.keptG hg (fun k hk=>hb (h.fails.tag hk) (by decide)),
    fun i hi=>?_,h.apart,h.ge⟩
  obtain ⟨f1,f2,f3⟩:=h.files i hi
  refine ⟨?_,f2.keptG hg (fun k hk=>hb (f2.tag hk) (by decide)),f3⟩
  by_cases e:i = no
  · subst e
    have e2:(s.firm.set i (s.size i)).getD i 0 = s.size i:=by
      have:i < s.firm.length:=by rw [ok.lens]; exact hn
      simp [List.getD,this]
    show Blk _ _ #[_,_,.int .i64 ((s.firm.set i (s.size i)).getD i 0:Nat)] _
    rw [e2]
    exact f1.set 2 _
  · have e2:(s.firm.set no (s.size no)).getD i 0 = s.firm.getD i 0:=by
      simp [List.getD,List.getElem?_set_ne (fun h=>e h.symm)]
    show Blk _ _ #[_,_,.int .i64 ((s.firm.set no (s.size no)).getD i 0:Nat)] _
    rw [e2]
    exact f1.keptG hg (fun e3=>(h.apart no i hn hi (fun h=>e h.symm)).1 (by simpa using e3))
theorem Stepped.file {s':D.Dsk} {i:Nat} {x:Value} {no:Nat} (hn:no < s.data.length) (hs:s'.data.length = s.data.length):Stepped M s w M s' (w.setCell ⟨M.fa no,i,none⟩ x) :=
  Stepped.grown (grown_set w _ i x) (fun k e=>by cases e; exact .inr (.inr (.inr (.inr ⟨no,hn,.inl rfl⟩)))) (fun k hf=>.inl (by unfold DM.foot at *; rw [hs] at hf; exact hf)) rfl
end
theorem D.find_lt {s:D.Dsk} (ok:s.Ok) {nm:ByteArray} {no:Nat} (h:D.find s.now nm = some no):no < s.data.length:=ok.inN _ (D.find_mem h)
set_option maxHeartbeats 2000000 in
theorem sync_any (B:Nat) (M:DM) (s:D.Dsk) (nm:ByteArray) (w:World) (h:DkAt B M s w) (hs:s.Sml) (ok:s.Ok) (hn:nm.size ≤ 1099511627776) :
    Calls Tryz.prog 62 #[.pointer (some ⟨M.d,0,none⟩),.string nm] w (fun e w'=>e = .returned (.int .i64 (s.sync nm).2) ∧ DkAt B M (s.sync nm).1 w' ∧ Stepped M s w M (s.sync nm).1 w'):=by
  have HON:=Lib.hid (on_any B M s nm none 0 0 0 [] w (fun u hg=>h.below (grown_below hg)) ⟨hs.n0,hs.n⟩ hs.fails (by omega) rfl (fun x hx=>by rw [List.mem_singleton.1 hx]; exact hn) (Row.none_ _ _ _ _) (Nat.zero_le _))
  obtain ⟨G,hG⟩:∃ G,s.sync nm = G:=⟨_,rfl⟩
  have HG:Hid (G = match s.look nm [] with | (s1,_,some no)=>({ s1 with firm:=s1.firm.set no (s1.size no) },0) | (s1,e,none)=>(s1,e)):=Lib.hid (by rw [← hG]; exact D.Dsk.on_look ..)
  rw [hG]
  clear hG h
  go_enter Tryz.func62,Tryz.ntmps62
  go_wp2_with fail
  refine HON.out.mono ?_
  rintro e w2 ⟨rfl,u,hg,hd2,hs2⟩
  have HS2:=Lib.hid ((Stepped.below (grown_below hg)).trans hs2)
  clear hg hs2 HON
  rcases s.look_or nm [] with ⟨n,e,hl,he⟩ | ⟨n,no,hl,hf⟩
  · rw [hl] at hd2 HS2 HG
    rw [hl]
    have HD2:=Lib.hid hd2
    have heb:(e == 0) = false:=beq_eq_false_iff_ne.2 he
    clear hd2 hl
    go_wp2
    go_ret
    exact ⟨by rw [HG.out]; rfl,by rw [HG.out]; exact HD2.out,by rw [HG.out]; exact HS2.out⟩
  · rw [hl] at hd2 HS2 HG
    rw [hl]
    have hno:=D.find_lt ok hf
    have HD2:=Lib.hid hd2
    have okn:({ s with n:=n }:D.Dsk).Ok:=⟨ok.lens,ok.upN,ok.upS,ok.inN,ok.inS,ok.inP,ok.fold,ok.firms⟩
    have HD3:=Lib.hid (hd2.firm okn hno)
    have HS3:=Lib.hid (HS2.out.trans (Stepped.file (s':={ s with n:=n,firm:=s.firm.set no (s.size no) }) (i:=2) (x:=.int .i64 (s.size no:Nat)) hno rfl))
    have z1:w2.cell? ⟨M.fa no,1,none⟩ = some (.slice (M.da no) (s.size no) (M.dc no)):=(hd2.files no hno).blk.cell 1 rfl
    have z2:w2.cell? ⟨M.fa no,2,none⟩ = some (.int .i64 (s.firm.getD no 0:Nat)):=(hd2.files no hno).blk.cell 2 rfl
    have f2:=(hd2.files no hno).blk.free 2
    clear hd2 hl hf okn
    dsimp only [D.ptrOf]
    go_wp2
    go_ret
    exact ⟨by rw [HG.out]; rfl,by rw [HG.out]; exact HD3.out,by rw [HG.out]; exact HS3.out⟩
set_option maxHeartbeats 2000000 in
theorem rename_any (B:Nat) (M:DM) (s:D.Dsk) (x y:ByteArray) (w:World) (h:DkAt B M s w) (hs:s.Sml) (hx:x.size ≤ 1099511627776) (hy:y.size ≤ 1099511627776) :
    Calls Tryz.prog 71 #[.pointer (some ⟨M.d,0,none⟩),.string x,.string y] w (RetStep B M s w (s.rename x y)):=by
  have HD:=Lib.hid h
  have HB:=Lib.hid h.base
  have hb1:Below w.heap.size w (w.alloc (.cells #[.string x] 9)):=(Below.refl _ _).alloc (Nat.le_refl _) _
  have hb2:Below w.heap.size w ((w.alloc (.cells #[.string x] 9)).alloc (.cells #[.string y] 9)):=hb1.alloc (by simp) _
  have hb3:Below w.heap.size w (((w.alloc (.cells #[.string x] 9)).alloc (.cells #[.string y] 9)).alloc (.cells #[.string y] 9)):=hb2.alloc (by simp; omega) _
  have hnx:Blk (w.alloc (.cells #[.string x] 9)) w.heap.size #[.string x] 9:=Blk.new w _ _
  have hny:Blk ((w.alloc (.cells #[.string x] 9)).alloc (.cells #[.string y] 9)) (w.heap.size + 1) #[.string y] 9:=by
    have:=Blk.new (w.alloc (.cells #[.string x] 9)) #[.string y] 9
    simpa using this
  have HX:=Lib.hid ((hnx.alloc (.cells #[.string y] 9)).alloc (.cells #[.string y] 9))
  have HY:=Lib.hid (hny.alloc (.cells #[.string y] 9))
  have z0:((w.alloc (.cells #[.string x] 9)).alloc (.cells #[.string y] 9)).cell? ⟨w.heap.size,0,none⟩ = some (.string x):=(hnx.alloc _).cell 0 rfl
  have z1:((w.alloc (.cells #[.string x] 9)).alloc (.cells #[.string y] 9)).cell? ⟨w.heap.size + 1,0,none⟩ = some (.string y):=hny.cell 0 rfl
  have hrow:Row (((w.alloc (.cells #[.string x] 9)).alloc (.cells #[.string y] 9)).alloc (.cells #[.string y] 9)) (w.heap.size + 2) 9 1 (some ⟨w.heap.size + 2,0,none⟩) 1 1 (scells [y]):=by
    have:=nameRow ((w.alloc (.cells #[.string x] 9)).alloc (.cells #[.string y] 9)) y (w.heap.size + 2) (by simp)
    simpa using this
  have hbg:∀ u,World.grownBy (((w.alloc (.cells #[.string x] 9)).alloc (.cells #[.string y] 9)).alloc (.cells #[.string y] 9)) u (ownB (some ⟨w.heap.size + 2,0,none⟩) 1) → Below (w.heap.size + 2) (((w.alloc (.cells #[.string x] 9)).alloc (.cells #[.string y] 9)).alloc (.cells #[.string y] 9)) u:=fun u hg =>
    (Below.refl _ _).grown hg (by simp) (fun k hk=>(hrow.lt k hk).1)
  have HBG:=Lib.hid hbg
  have HON:=Lib.hid (on_any B M s x (some ⟨w.heap.size + 2,0,none⟩) 1 1 (w.heap.size + 2) [y] _ (fun u hg=>h.below (hb3.trans ((hbg u hg).mono (by omega)))) ⟨hs.n0,hs.n⟩ hs.fails (by omega) rfl (fun q hq=>by
    rcases List.mem_cons.1 hq with rfl | hq
    · exact hy
    · rw [List.mem_singleton.1 hq]; exact hx) hrow (by simp))
  have HB3:=Lib.hid hb3
  obtain ⟨G,hG⟩:∃ G,s.rename x y = G:=⟨_,rfl⟩
  have HG:Hid (G = match s.look x [y] with | (s1,_,some no)=>(if x = y then (s1,0) else (s1.alter (.ren x y no),0)) | (s1,e,none)=>(s1,e)):=Lib.hid (by rw [← hG]; exact D.Dsk.on_look ..)
  rw [hG]
  clear hG hb1 hb2 hb3 hnx hny hrow hbg h
  go_enter Tryz.func71,Tryz.ntmps71
  go_wp2_with fail
  refine HON.out.mono ?_
  rintro e w2 ⟨rfl,u,hg,hd2,hs2⟩
  have HS2:=Lib.hid ((Stepped.below (HB3.out.trans ((HBG.out u hg).mono (by omega))):Stepped M s w M s u).trans hs2)
  have HX2:=Lib.hid (hs2.fresh HD.out (Nat.le_refl _) (HX.out.under (HBG.out u hg) (by omega)))
  have HY2:=Lib.hid (hs2.fresh HD.out (Nat.le_succ _) (HY.out.under (HBG.out u hg) (by omega)))
  have hsz2:w.heap.size + 3 ≤ w2.heap.size:=by have h1:=hs2.size; have h2:=hg.size; simp at h2; omega
  clear hg hs2 HON HX HY z0 z1 HBG HB3
  rcases s.look_or x [y] with ⟨n,e,hl,he⟩ | ⟨n,no,hl,hf⟩
  · rw [hl] at hd2 HS2 HG
    rw [hl]
    have HD2:=Lib.hid hd2
    have heb:(e == 0) = false:=beq_eq_false_iff_ne.2 he
    clear hd2 hl
    dsimp only [D.ptrOf]
    go_wp2
    go_ret
    exact ⟨by rw [HG.out]; rfl,M,by rw [HG.out]; exact HD2.out.below ((Below.refl _ _).alloc (Nat.le_refl _) _),by rw [HG.out]; exact HS2.out.trans (Stepped.below ((Below.refl _ _).alloc (Nat.le_refl _) _))⟩
  · rw [hl] at hd2 HS2 HG
    rw [hl]
    have hb4:Below w2.heap.size w2 (w2.alloc (.cells #[.pointer (some ⟨M.fa no,0,none⟩)] 75)):=(Below.refl _ _).alloc (Nat.le_refl _) _
    have hd4:=hd2.below hb4
    have HD4:=Lib.hid hd4
    have HS4:=Lib.hid (HS2.out.trans (Stepped.below hb4))
    have hx4:=HX2.out.alloc (.cells #[.pointer (some ⟨M.fa no,0,none⟩)] 75)
    have hy4:=HY2.out.alloc (.cells #[.pointer (some ⟨M.fa no,0,none⟩)] 75)
    have hf4:Blk (w2.alloc (.cells #[.pointer (some ⟨M.fa no,0,none⟩)] 75)) w2.heap.size #[.pointer (some ⟨M.fa no,0,none⟩)] 75:=Blk.new _ _ _
    have z0:(w2.alloc (.cells #[.pointer (some ⟨M.fa no,0,none⟩)] 75)).cell? ⟨w.heap.size,0,none⟩ = some (.string x):=hx4.cell 0 rfl
    have z1:(w2.alloc (.cells #[.pointer (some ⟨M.fa no,0,none⟩)] 75)).cell? ⟨w.heap.size + 1,0,none⟩ = some (.string y):=hy4.cell 0 rfl
    have HA:=Lib.hid (alter3_any B M { s with n:=n } (.pointer (some ⟨w.heap.size,0,none⟩)) (.pointer (some ⟨w2.heap.size,0,none⟩)) (.pointer (some ⟨w.heap.size + 1,0,none⟩)) (.ren x y no) _ hd4 ⟨w.heap.size,w2.heap.size,w.heap.size + 1,rfl,HB.out,by have:=HB.out; omega,by have:=HB.out; omega,hx4,hf4,hy4⟩ hs.pend (renChg_any x y no w.heap.size w2.heap.size (w.heap.size + 1) hd4.now hs.now hx hy hx4 hf4 hy4))
    clear hb4 hd4 hx4 hy4 hf4 hd2 hl hf HX2 HY2
    dsimp only [D.ptrOf]
    have HG2:Hid (G = if x = y then (({ s with n:=n }:D.Dsk),(0:Int)) else (({ s with n:=n }:D.Dsk).alter (.ren x y no),0)):=HG
    clear HG
    by_cases hxy:x = y
    · rw [if_pos hxy] at HG2
      subst hxy
      go_wp2
      go_ret
      exact ⟨by rw [HG2.out]; rfl,M,by rw [HG2.out]; exact HD4.out,by rw [HG2.out]; exact HS4.out⟩
    · have hxyl:(x.toList == y.toList) = false:=beq_eq_false_iff_ne.2 (fun e=>hxy (toList_inj.1 e))
      rw [if_neg hxy] at HG2
      go_wp2_with fail
      refine HA.out.mono ?_
      rintro e w5 ⟨rfl,M',hd5,hs5,_⟩
      have HD5:=Lib.hid hd5
      have HS5:=Lib.hid hs5
      clear hd5 hs5 HA
      go_wp2
      go_ret
      exact ⟨by rw [HG2.out]; rfl,M',by rw [HG2.out]; exact HD5.out,by rw [HG2.out]; exact HS4.out.trans HS5.out⟩
end Go.Proofs.YtkempjcphpnocaaGreatDoor
namespace Go.Proofs.YtkempjcphpnocaaGreatDoor
open Go Go.RowKit Go.Maps
set_option maxRecDepth 100000 in
set_option maxHeartbeats 1000000 in
theorem cloneD_any (A:Option Addr) (n c:Nat) (bs:List UInt8) (w:World) (hn:n ≤ 1099511627776) (hl:bs.length = n) (hA:A = none → n = 0 ∧ c = 0) (hx:Rd w A n 1 (bcells bs)) :
    Calls Tryz.prog 28 #[.slice A n c] w (RetRow w 5 1 bs.length (bcells bs)):=by
  subst hl
  cases A with
  | none =>
    obtain ⟨h1,rfl⟩:=hA rfl
    have h2:bs = []:=List.length_eq_zero_iff.1 h1
    subst h2
    have he:=fun w=>Lib.run_eql_slice_nil (P:=Tryz.prog) w 26 _ none 0 0 (h:=Tryz.underlying26)
    clear hx h1
    go_enter Tryz.func28,Tryz.ntmps28
    go_wp2
    go_ret
    exact ⟨none,0,rfl,Row.none_ _ _ _ _,Below.refl _ _⟩
  | some a =>
    have HX:=Lib.hid (hx.alloc (.cells #[] 5))
    have he:=fun w=>Lib.run_eql_slice_nil (P:=Tryz.prog) w 26 _ (some a) bs.length c (h:=Tryz.underlying26)
    clear hx
    go_enter Tryz.func28,Tryz.ntmps28
    go_wp2_with (at_builtin; refine appB _ rfl (.tmp 5) (.tmp 6) rfl w.heap.size _ 0 0 [] rfl (Row.empty _ _ _ _ _) (some a) bs.length c bs rfl HX.out (by omega) (by rw [World.size_alloc]; omega) ?_; intro A1 c1 w1 hr1 ha1)
    have hb:=((Below.refl w.heap.size w).alloc (Nat.le_refl _) (.cells #[] 5)).trans (ha1.below (Row.empty _ w.heap.size 5 1 _) (by rw [World.size_alloc]; omega))
    have e:0 + bs.length = bs.length:=Nat.zero_add _
    rw [e] at hr1
    go_ret
    exact ⟨A1,c1,rfl,hr1,hb⟩
theorem nilD {u:World} {base size n c:Nat} {e:TypeId} {A:Option Addr} {xs:List Value} (h:Row u base e size A n c xs) (hA:A = none):n = 0 ∧ c = 0:=by
  rcases h with h | ⟨h1,h2,_⟩
  · subst hA
    rcases h.2 with ⟨hv,h0⟩ | ⟨g,cap,cur,hv,_⟩
    · injection hv with _ h1 h2
      exact ⟨h1,h2⟩
    · cases hv
  · exact ⟨h1,h2⟩
def RetRead (w:World) (x:List UInt8 × Int) (e:Ending) (w':World):Prop :=
  ∃ A c,e = .returned (.tuple #[.slice A x.1.length c,.int .i64 x.2]) ∧ Row w' w.heap.size 5 1 A x.1.length c (bcells x.1) ∧ Below w.heap.size w w'
set_option maxHeartbeats 2000000 in
theorem read_any (B:Nat) (M:DM) (s:D.Dsk) (nm:ByteArray) (w:World) (h:DkAt B M s w) (hs:s.Sml) (ok:s.Ok) (hn:nm.size ≤ 1099511627776) :
    Calls Tryz.prog 57 #[.pointer (some ⟨M.d,0,none⟩),.string nm] w (RetRead w (s.read nm)):=by
  have HD:=Lib.hid h
  have HDW:=Lib.hid (down_any B M s w h)
  have HGN:=Lib.hid (fun u=>goodName_any nm u hn)
  obtain ⟨y0,y1,y2,y3,y4,y5,y6,y7⟩:=h.cells
  have hlk:=names_look h.now nm (by simp only [maxLen]; omega)
  obtain ⟨G,hG⟩:∃ G,s.read nm = G:=⟨_,rfl⟩
  have HG:Hid (G = if s.down then (([]:List UInt8),(93:Int)) else if D.good nm = false then ([],95) else match D.find s.now nm with | none=>([],90) | some no=>(s.data.getD no [],0)):=Lib.hid (by rw [← hG]; rfl)
  rw [hG]
  clear hG h y1 y2 y3 y4 y5 y6 y7
  cases hd:s.down
  rotate_left
  · rw [hd] at HDW HG
    rw [if_pos rfl] at HG
    cases hf:D.find s.now nm <;> rw [hf] at hlk <;> dsimp only [D.ptrOf] at hlk
    all_goals
      go_enter Tryz.func57,Tryz.ntmps57
      go_wp2_with fail
      refine HDW.out.mono ?_
      rintro e w1 ⟨rfl,hb1⟩
      go_wp2
      go_ret2
      rw [HG.out]
      exact ⟨none,0,rfl,Row.none_ _ _ _ _,hb1⟩
  rw [hd] at HDW HG
  rw [if_neg (by decide)] at HG
  cases hg:D.good nm
  · rw [hg] at HGN HG
    rw [if_pos rfl] at HG
    cases hf:D.find s.now nm <;> rw [hf] at hlk <;> dsimp only [D.ptrOf] at hlk
    all_goals
      go_enter Tryz.func57,Tryz.ntmps57
      go_wp2_with fail
      refine HDW.out.mono ?_
      rintro e w1 ⟨rfl,hb1⟩
      have HG2:=Lib.hid (HGN.out w1)
      go_wp2_with fail
      refine HG2.out.mono ?_
      rintro e w2 ⟨rfl,hb2⟩
      go_wp2
      go_ret2
      rw [HG.out]
      exact ⟨none,0,rfl,Row.none_ _ _ _ _,below_then hb1.size hb1 hb2⟩
  rw [hg] at HGN HG
  rw [if_neg (by decide)] at HG
  cases hf:D.find s.now nm with
  | none =>
    rw [hf] at hlk HG
    dsimp only [D.ptrOf] at hlk HG
    go_enter Tryz.func57,Tryz.ntmps57
    go_wp2_with fail
    refine HDW.out.mono ?_
    rintro e w1 ⟨rfl,hb1⟩
    have HG2:=Lib.hid (HGN.out w1)
    go_wp2_with fail
    refine HG2.out.mono ?_
    rintro e w2 ⟨rfl,hb2⟩
    go_wp2
    go_ret2
    rw [HG.out]
    exact ⟨none,0,rfl,Row.none_ _ _ _ _,below_then hb1.size hb1 hb2⟩
  | some no =>
    have hno:=D.find_lt ok hf
    rw [hf] at hlk HG
    dsimp only [D.ptrOf] at hlk HG
    have HF:=Lib.hid (HD.out.files no hno)
    have hsz:=hs.size no
    clear hf hno
    go_enter Tryz.func57,Tryz.ntmps57
    go_wp2_with fail
    refine HDW.out.mono ?_
    rintro e w1 ⟨rfl,hb1⟩
    have HG2:=Lib.hid (HGN.out w1)
    have HB1:=Lib.hid hb1
    clear hb1
    go_wp2_with fail
    refine HG2.out.mono ?_
    rintro e w2 ⟨rfl,hb2⟩
    have HB2:=Lib.hid (below_then HB1.out.size HB1.out hb2)
    clear hb2 HG2 HB1
    have z1:w2.cell? ⟨M.fa no,1,none⟩ = some (.slice (M.da no) (s.size no) (M.dc no)):=(HF.out.blk.below HB2.out).cell 1 rfl
    have hrow:=HF.out.row.below HB2.out
    have HC:=Lib.hid (cloneD_any (M.da no) (s.size no) (M.dc no) (s.data.getD no []) w2 hsz rfl (nilD hrow) hrow.rd)
    clear hrow
    go_wp2_with fail
    refine HC.out.mono ?_
    rintro e w3 ⟨A3,c3,rfl,hr3,hb3⟩
    go_wp2
    go_ret2
    rw [HG.out]
    exact ⟨A3,c3,rfl,hr3.mono HB2.out.size,below_then HB2.out.size HB2.out hb3⟩
end Go.Proofs.YtkempjcphpnocaaGreatDoor
namespace Go.Proofs.YtkempjcphpnocaaGreatDoor
open Go Go.RowKit Go.Maps
namespace D
def rem (f:Nat → Nat) (l:NM) (left:Lit → Bool):Nat:=((l.filter fun p=>left (key p.1)).map fun p=>f p.2).sum
theorem rem_none {f:Nat → Nat} {l:NM} {left:Lit → Bool} (h:∀ kl,left kl = false):rem f l left = 0:=by
  unfold rem
  rw [List.filter_eq_nil_iff.2 (fun p _=>by rw [h]; decide)]
  rfl
theorem rem_all (fa f:Nat → Nat) (l:NM):rem f l (Maps.has (datum fa l)) = (l.map fun p=>f p.2).sum:=by
  unfold rem
  rw [List.filter_eq_self.2 (fun p hp=>?_)]
  unfold datum
  rw [Maps.has_eq,List.any_eq_true]
  exact ⟨ent fa p,List.mem_map_of_mem hp,by show (key p.1).sameKey (key p.1) = true; rw [same_key]; simp⟩
theorem rem_step (f:Nat → Nat) (nm:ByteArray) (no:Nat) (left:Lit → Bool) (hl:left (key nm) = true):∀ {l:NM},Up l → find l nm = some no → rem f l left = f no + rem f l (fun z=>left z && !z.sameKey (key nm))
  | [],_,h=>by cases h
  | p :: r,hu,h=>by
    obtain ⟨h1,h2⟩:=List.pairwise_cons.1 hu
    show ((List.filter (fun p=>left (key p.1)) (p :: r)).map _).sum = f no + ((List.filter (fun q=>left (key q.1) && !(key q.1).sameKey (key nm)) (p :: r)).map _).sum
    by_cases e:p.1 = nm
    · have hp:p.2 = no:=by
        unfold find at h
        rw [List.find?_cons] at h
        simp only [e,decide_true] at h
        simpa using h
      have hr:∀ q ∈ r,(left (key q.1) && !(key q.1).sameKey (key nm)) = left (key q.1):=fun q hq=>by
        have hne:q.1 ≠ nm:=fun e2=>by
          have:=h1 q hq
          rw [e,e2,lt_irrefl] at this
          cases this
        rw [same_key,decide_eq_false hne]
        simp
      have hL:left (key p.1) = true:=by rw [e]; exact hl
      have hk:(left (key p.1) && !(key p.1).sameKey (key nm)) = false:=by rw [e,same_key]; simp
      rw [List.filter_cons_of_pos (p:=fun p:ByteArray × Nat=>left (key p.1)) hL,List.filter_cons_of_neg (p:=fun q:ByteArray × Nat=>left (key q.1) && !(key q.1).sameKey (key nm)) (by rw [hk]; decide),List.filter_congr hr,List.map_cons,List.sum_cons,hp]
    · have hf:find r nm = some no:=by
        unfold find at h ⊢
        rw [List.find?_cons] at h
        simpa only [decide_eq_false e] using h
      have ih:((List.filter (fun p=>left (key p.1)) r).map fun p=>f p.2).sum = f no + ((List.filter (fun q=>left (key q.1) && !(key q.1).sameKey (key nm)) r).map fun p=>f p.2).sum:=rem_step f nm no left hl h2 hf
      have hk:(left (key p.1) && !(key p.1).sameKey (key nm)) = left (key p.1):=by rw [same_key,decide_eq_false e]; simp
      by_cases hL:left (key p.1) = true
      · rw [List.filter_cons_of_pos (p:=fun p:ByteArray × Nat=>left (key p.1)) hL,List.filter_cons_of_pos (p:=fun q:ByteArray × Nat=>left (key q.1) && !(key q.1).sameKey (key nm)) (by rw [hk]; exact hL),List.map_cons,List.map_cons,List.sum_cons,List.sum_cons,ih]
        omega
      · rw [List.filter_cons_of_neg (p:=fun p:ByteArray × Nat=>left (key p.1)) hL,List.filter_cons_of_neg (p:=fun q:ByteArray × Nat=>left (key q.1) && !(key q.1).sameKey (key nm)) (by rw [hk]; exact hL)]
        exact ih
theorem sum_le (f:Nat → Nat) (l:NM) (left:Lit → Bool):rem f l left ≤ (l.map fun p=>f p.2).sum:=by
  unfold rem
  induction l with
  | nil=>simp
  | cons p r ih =>
    rw [List.filter_cons]
    split <;> simp only [List.map_cons,List.sum_cons] <;> omega
end D
theorem names_at {fa:Nat → Nat} {l:D.NM} {x:ByteArray} {c:Option Nat} {kl:Lit} {y:DataW Unit × List MemPlace} (hk:keyOf Tryz.prog 9 (.string x) = some kl) (hv:D.ptrR (.pointer (c.map fun b=>⟨b,0,none⟩)) = some y) (hat:∀ zd,(D.datum fa l).atKey kl zd = y.1) :
    kl = D.key x ∧ ∃ no,D.find l x = some no ∧ c = some (fa no):=by
  have hx:x.size ≤ maxLen:=by
    have h:=hk
    simp [keyOf,mapKey] at h
    exact h.1
  rw [nmKey x hx] at hk
  obtain rfl:=Option.some.inj hk
  refine ⟨rfl,?_⟩
  cases hf:D.find l x with
  | none =>
    have h1:=hat .nil
    have h2:=hat (.lit (.bool true))
    rw [D.datum_at,hf] at h1 h2
    rw [← h1] at h2
    cases h2
  | some no =>
    refine ⟨no,rfl,?_⟩
    have h1:=hat .nil
    rw [D.datum_at,hf] at h1
    dsimp only at h1
    obtain ⟨d,ps⟩:=y
    dsimp only at h1
    subst h1
    have h2:=D.ptrR_inv hv
    cases c with
    | none=>cases h2
    | some b=>simpa using h2
set_option maxHeartbeats 2000000 in
theorem used_any (B:Nat) (M:DM) (s:D.Dsk) (w:World) (h:DkAt B M s w) (hs:∀ no,s.size no ≤ 1099511627776) (ok:s.Ok) (hu:s.used ≤ 1152921504606846976) :
    Calls Tryz.prog 16 #[.pointer (some ⟨M.d,0,none⟩)] w (fun e w'=>e = .returned (.int .i64 s.used) ∧ Below w.heap.size w w'):=by
  have HD:=Lib.hid h
  have HSZ:=Lib.hid hs
  have HOK:=Lib.hid ok
  have hlt:=h.now.lt
  obtain ⟨y0,y1,y2,y3,y4,y5,y6,y7⟩:=h.cells
  clear h y1 y2 y3 y4 y5 y6 y7 hs ok
  go_enter Tryz.func16,Tryz.ntmps16
  go_wp2_with (first
    | (at_range; refine wpList_range_own _ rfl _ 67 rfl 9 75 (string_keyed strT_ul) nmT_ul D.ptrR M.mN s.now.length (D.datum M.fa s.now) rfl HD.out.now ?_; intro w0 hrg0 hg0 hs0)
    | go_in)
  go_frame
  have HB0:=Lib.hid (grown_below hg0)
  clear hg0
  go_loopw [3] (fun i wr=>∃ (left:Lit → Bool) (cnt:Nat),i = .int .i64 ((s.used:Int) - D.rem s.size s.now left) ∧ wr.ranges Tryz.prog 9 D.ptrR M.mN w.heap.size s.now.length (D.datum M.fa s.now) left cnt ∧ Below w.heap.size w wr)
    (fun _ wr=>wr.rangeLeft M.mN w.heap.size)
  case atStart =>
    refine ⟨_,_,?_,hrg0,HB0.out⟩
    rw [D.rem_all]
    show _ = Value.int IntKind.i64 ((s.used:Int) - s.used)
    rw [Int.sub_self]
  case round =>
    obtain ⟨left,cnt,rfl,hrg,hbe⟩:=hrel
    have HBE:=Lib.hid hbe
    have HRG:=Lib.hid hrg
    clear hbe hrg hrg0
    go_wp2_with (first
      | (at_next; refine wpList_next_ranges _ rfl _ rfl 9 (string_keyed strT_ul) D.ptrR Value.string (fun c:Option Nat=>Value.pointer (c.map fun b=>⟨b,0,none⟩)) ?_ ?_ M.mN w.heap.size s.now.length _ left cnt rfl HRG.out ?_ ?_)
      | go_in)
    · intro key kl hkey
      obtain ⟨x,rfl,_⟩:=Maps.keyOf_str strT_ul hkey
      exact ⟨_,rfl⟩
    · intro v y hv
      unfold D.ptrR at hv
      split at hv
      · exact ⟨some _,rfl⟩
      · exact ⟨none,rfl⟩
      · cases hv
    · intro _ hl0
      have hr0:D.rem s.size s.now left = 0:=D.rem_none hl0
      rw [hr0]
      clear hr0 hl0
      go_wp2
      go_ret
      exact ⟨by simp,HBE.out⟩
    · intro x c kl yd yp w1 cnt1 hkey hlx hv hat hrg1 hlt1 hg1 hs1 hen
      obtain ⟨hkl,no,hf,hc⟩:=names_at (fa:=M.fa) (l:=s.now) (y:=(yd,yp)) hkey hv hat
      subst hkl
      subst hc
      have hrem:=D.rem_step s.size x no left hlx HOK.out.upN hf
      have hrle:=D.sum_le s.size s.now left
      have hno:=D.find_lt HOK.out hf
      have hBE1:Below w.heap.size w w1:=HBE.out.grown hg1 (HBE.out.size) (fun j hj=>by cases hj; exact Nat.le_refl _)
      have HBE1:=Lib.hid hBE1
      have z1:w1.cell? ⟨M.fa no,1,none⟩ = some (.slice (M.da no) (s.size no) (M.dc no)):=((HD.out.files no hno).blk.under hBE1 (HD.out.files no hno).blk.lt).cell 1 rfl
      have hs2:=HSZ.out no
      have HRG1:=Lib.hid hrg1
      have hu2:(s.now.map fun p=>s.size p.2).sum = s.used:=rfl
      rw [hu2] at hrle
      have HLE:Hid (w1.rangeLeft M.mN w.heap.size < wr.rangeLeft M.mN w.heap.size):=Lib.hid (by rw [hrg1.left_eq,HRG.out.left_eq]; exact hlt1)
      have HREM:=Lib.hid hrem
      clear hkey hlx hv hat hrg1 hlt1 hf hno hBE1 hu2
      obtain ⟨z,hz⟩:∃ z:Int,(s.used:Int) - (D.rem s.size s.now left:Nat) = z:=⟨_,rfl⟩
      have hz0:0 ≤ z:=by omega
      have hz1:z ≤ 1152921504606846976:=by omega
      rw [hz]
      have HZ:=Lib.hid hz
      clear hz hrem hrle
      dsimp only [Option.map] at hen ⊢
      go_wp2
      go_roundw
      case rel=>exact ⟨_,cnt1,by rw [← HZ.out,HREM.out]; congr 1; push_cast; omega,HRG1.out,HBE1.out⟩
      case measure=>exact HLE.out
end Go.Proofs.YtkempjcphpnocaaGreatDoor
