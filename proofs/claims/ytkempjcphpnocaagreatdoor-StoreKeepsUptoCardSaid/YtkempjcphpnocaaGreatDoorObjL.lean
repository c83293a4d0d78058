/- The walks of the law ObjectEncodes: alive, CopyEntry, SameEntry. Conditions: texts and lists of at most 2^30 bytes, the library's table of powers of ten. -/
import Derived.Test.YtkempjcphpnocaaGreatDoorZ01
import Derived.Test.YtkempjcphpnocaaGreatDoorZ04
import Derived.Test.YtkempjcphpnocaaGreatDoorHeadB
namespace Go.Proofs.YtkempjcphpnocaaGreatDoor
open Go.RowKit
theorem sameBO (A B:Option Addr) (n c d:Nat) (xs:List UInt8) (w:World) (hn:n ≤ 1099511627776) (hl:xs.length = n) (hx:Rd w A n 1 (bcells xs)) (hy:Rd w B n 1 (bcells xs)) :
    Calls Tryz.prog 52 #[.slice A n c,.slice B n d] w (RetB w true):=by
  have:=sameBytes_any A B n n c d xs xs w hn hn hx hy hl hl
  simpa using this
theorem sameRO (m s:Int) (r:ByteArray) (A B:Option Addr) (c d:Nat) (xs:List FD) (w:World) (hn:xs.length ≤ 1099511627776) (hx:Rd w A xs.length 2 (fcells xs)) (hy:Rd w B xs.length 2 (fcells xs)) :
    Calls Tryz.prog 51 #[.agg #[.int .i64 s,.string r,.int .i64 m,.slice A xs.length c],.agg #[.int .i64 s,.string r,.int .i64 m,.slice B xs.length d]] w (RetB w true):=by
  have:=sameResponse_any s m s m r r A B xs.length xs.length c d xs xs w hn hn hx hy rfl rfl
  simpa using this
set_option maxRecDepth 100000 in
set_option maxHeartbeats 2000000 in
theorem sameEntry_any (k v:ByteArray) (s:Int) (r:ByteArray) (m:Int) (A:Option Addr) (cf:Nat) (fs:List FD) (X:Option Addr) (cb:Nat) (body:List UInt8) (asked got:Int) (A1:Option Addr) (c1:Nat) (X1:Option Addr) (d1:Nat) (w:World) (hn:fs.length ≤ 1099511627776) (hbn:body.length ≤ 1099511627776)
    (hx:Rd w A fs.length 2 (fcells fs)) (hy:Rd w A1 fs.length 2 (fcells fs)) (hX:Rd w X body.length 1 (bcells body)) (hY:Rd w X1 body.length 1 (bcells body)) :
    Calls Tryz.prog 17 #[.agg #[.string k,.string v,.int .i64 s,.string r,.int .i64 m,.slice A fs.length cf,.slice X body.length cb,.int .i64 asked,.int .i64 got],.agg #[.string k,.string v,.int .i64 s,.string r,.int .i64 m,.slice A1 fs.length c1,.slice X1 body.length d1,.int .i64 asked,.int .i64 got]] w (RetB w true):=by
  have HSR:=Lib.hid (fun (u:World) (hu:Below w.heap.size w u)=>sameRO m s r A A1 cf c1 fs u hn (hx.below hu) (hy.below hu))
  have HSB:=Lib.hid (fun (u:World) (hu:Below w.heap.size w u)=>sameBO X X1 body.length cb d1 body u hbn rfl (hX.below hu) (hY.below hu))
  have HK:=Lib.hid ((Blk.new w #[.string k,.string v,.int .i64 s,.string r,.int .i64 m,.slice A fs.length cf,.slice X body.length cb,.int .i64 asked,.int .i64 got] 28).alloc (.cells #[.string k,.string v,.int .i64 s,.string r,.int .i64 m,.slice A1 fs.length c1,.slice X1 body.length d1,.int .i64 asked,.int .i64 got] 28))
  have HL:=Lib.hid (Blk.new (w.alloc (.cells #[.string k,.string v,.int .i64 s,.string r,.int .i64 m,.slice A fs.length cf,.slice X body.length cb,.int .i64 asked,.int .i64 got] 28)) #[.string k,.string v,.int .i64 s,.string r,.int .i64 m,.slice A1 fs.length c1,.slice X1 body.length d1,.int .i64 asked,.int .i64 got] 28)
  have HB:=Lib.hid (((Below.refl w.heap.size w).alloc (Nat.le_refl _) (.cells #[.string k,.string v,.int .i64 s,.string r,.int .i64 m,.slice A fs.length cf,.slice X body.length cb,.int .i64 asked,.int .i64 got] 28)).alloc (by rw [World.size_alloc]; omega) (.cells #[.string k,.string v,.int .i64 s,.string r,.int .i64 m,.slice A1 fs.length c1,.slice X1 body.length d1,.int .i64 asked,.int .i64 got] 28))
  rw [World.size_alloc] at HL
  clear hx hy hX hY
  go_enter Tryz.func17,Tryz.ntmps17
  obtain ⟨x0,x1,x2,x3,x4,x5,x6,x7,x8⟩:=HK.out.cells9
  obtain ⟨y0,y1,y2,y3,y4,y5,y6,y7,y8⟩:=HL.out.cells9
  go_wp2_with fail
  clear x0 x1 x2 x3 x4 x5 x6 x7 x8 y0 y1 y2 y3 y4 y5 y6 y7 y8
  refine (HSR.out _ HB.out).mono ?_
  rintro e w1 ⟨rfl,hb1⟩
  have HK1:=Lib.hid (HK.out.below hb1)
  have HL1:=Lib.hid (HL.out.below hb1)
  have HB1:=Lib.hid (below_then HB.out.size HB.out hb1)
  clear HK HL HB HSR hb1
  obtain ⟨x0,x1,x2,x3,x4,x5,x6,x7,x8⟩:=HK1.out.cells9
  obtain ⟨y0,y1,y2,y3,y4,y5,y6,y7,y8⟩:=HL1.out.cells9
  go_wp2_with fail
  clear x0 x1 x2 x3 x4 x5 x6 x7 x8 y0 y1 y2 y3 y4 y5 y6 y7 y8
  refine (HSB.out _ HB1.out).mono ?_
  rintro e w2 ⟨rfl,hb2⟩
  have HK2:=Lib.hid (HK1.out.below hb2)
  have HL2:=Lib.hid (HL1.out.below hb2)
  have HB2:=Lib.hid (below_then HB1.out.size HB1.out hb2)
  clear HK1 HL1 HB1 HSB hb2
  obtain ⟨x0,x1,x2,x3,x4,x5,x6,x7,x8⟩:=HK2.out.cells9
  obtain ⟨y0,y1,y2,y3,y4,y5,y6,y7,y8⟩:=HL2.out.cells9
  go_wp2
  go_ret
  exact ⟨rfl,HB2.out⟩
theorem Rd.farB {w:World} {A:Option Addr} {n size b:Nat} {xs:List Value} (h:Rd w A n size xs) (ha:0 < n → ∀ a,A = some a → a.block ≠ b) (i:Nat) (x:Value):Rd (w.setCell ⟨b,i,none⟩ x) A n size xs :=
  ⟨h.1,fun hn=>by
    obtain ⟨b',o,e,hlt,hc⟩:=h.2 hn
    have hne:b' ≠ b:=ha hn _ e
    exact ⟨b',o,e,by simpa [World.setCell] using hlt,fun j u hu=>(World.cell?_setCell_far _ _ _ _ (fun e=>hne e.symm)).trans (hc j u hu)⟩⟩
theorem CRow.apartB {w:World} {base:Nat} {A:Option Addr} {n c:Nat} {bs:List UInt8} (h:CRow w base A n c bs) {b:Nat} (hb:b < base):0 < n → ∀ a,A = some a → a.block ≠ b:=fun hn a ha=>by
  rcases h.2.2 with h0 | ⟨g,hg,hB,_⟩
  · have:=h.2.1; omega
  · rw [hg] at ha
    cases ha
    show g ≠ b
    omega
theorem Row.apartB {w:World} {base:Nat} {e:TypeId} {size:Nat} {A:Option Addr} {n c:Nat} {xs:List Value} (h:Row w base e size A n c xs) {b:Nat} (hb:b < base):0 < n → ∀ a,A = some a → a.block ≠ b:=fun hn a ha=>by
  have hc:=h.cap.1
  have:=h.lt a.block (by unfold ownB; rw [if_neg (by omega),ha]; rfl)
  omega
def RetEnt (k v:ByteArray) (s:Int) (r:ByteArray) (m:Int) (fs:List FD) (body:List UInt8) (asked got:Int) (w:World) (e:Ending) (w':World):Prop :=
  ∃ A c X d,e = .returned (.agg #[.string k,.string v,.int .i64 s,.string r,.int .i64 m,.slice A fs.length c,.slice X body.length d,.int .i64 asked,.int .i64 got]) ∧ Rd w' A fs.length 2 (fcells fs) ∧ Rd w' X body.length 1 (bcells body) ∧ Below w.heap.size w w'
set_option maxRecDepth 100000 in
set_option maxHeartbeats 2000000 in
theorem copyEntry_any (k v:ByteArray) (s:Int) (r:ByteArray) (m:Int) (A:Option Addr) (cf:Nat) (fs:List FD) (X:Option Addr) (cb:Nat) (body:List UInt8) (asked got:Int) (w:World) (hn:fs.length ≤ 1099511627776) (hbn:body.length ≤ 1099511627776) (hx:Rd w A fs.length 2 (fcells fs)) (hX:Rd w X body.length 1 (bcells body)) :
    Calls Tryz.prog 11 #[.agg #[.string k,.string v,.int .i64 s,.string r,.int .i64 m,.slice A fs.length cf,.slice X body.length cb,.int .i64 asked,.int .i64 got]] w (RetEnt k v s r m fs body asked got w):=by
  have HCR:=Lib.hid (fun (u:World) (hu:Below w.heap.size w u)=>copyResponse_any s m r A fs.length cf fs u rfl hn (hx.below hu))
  have HCB:=Lib.hid (fun (u:World) (hu:Below w.heap.size w u)=>copyBytes_any X cb body u hbn (hX.below hu))
  have HK:=Lib.hid ((Blk.new w #[.string k,.string v,.int .i64 s,.string r,.int .i64 m,.slice A fs.length cf,.slice X body.length cb,.int .i64 asked,.int .i64 got] 28).alloc (.cells #[.string ⟨#[]⟩,.string ⟨#[]⟩,.int .i64 0,.string ⟨#[]⟩,.int .i64 0,.slice none 0 0,.slice none 0 0,.int .i64 0,.int .i64 0] 28))
  have HL:=Lib.hid (Blk.new (w.alloc (.cells #[.string k,.string v,.int .i64 s,.string r,.int .i64 m,.slice A fs.length cf,.slice X body.length cb,.int .i64 asked,.int .i64 got] 28)) #[.string ⟨#[]⟩,.string ⟨#[]⟩,.int .i64 0,.string ⟨#[]⟩,.int .i64 0,.slice none 0 0,.slice none 0 0,.int .i64 0,.int .i64 0] 28)
  have HB:=Lib.hid (((Below.refl w.heap.size w).alloc (Nat.le_refl _) (.cells #[.string k,.string v,.int .i64 s,.string r,.int .i64 m,.slice A fs.length cf,.slice X body.length cb,.int .i64 asked,.int .i64 got] 28)).alloc (by rw [World.size_alloc]; omega) (.cells #[.string ⟨#[]⟩,.string ⟨#[]⟩,.int .i64 0,.string ⟨#[]⟩,.int .i64 0,.slice none 0 0,.slice none 0 0,.int .i64 0,.int .i64 0] 28))
  have hz0:w.heap.size + 2 = ((w.alloc (.cells #[.string k,.string v,.int .i64 s,.string r,.int .i64 m,.slice A fs.length cf,.slice X body.length cb,.int .i64 asked,.int .i64 got] 28)).alloc (.cells #[.string ⟨#[]⟩,.string ⟨#[]⟩,.int .i64 0,.string ⟨#[]⟩,.int .i64 0,.slice none 0 0,.slice none 0 0,.int .i64 0,.int .i64 0] 28)).heap.size:=by rw [World.size_alloc,World.size_alloc]
  rw [World.size_alloc] at HL
  clear hx hX
  go_enter Tryz.func11,Tryz.ntmps11
  obtain ⟨x0,x1,x2,x3,x4,x5,x6,x7,x8⟩:=HK.out.cells9
  go_wp2_with fail
  clear x0 x1 x2 x3 x4 x5 x6 x7 x8
  refine (HCR.out _ HB.out).mono ?_
  rintro e w1 ⟨A1,c1,rfl,hr1,hb1⟩
  rw [← hz0] at hr1
  have HR1:=Lib.hid hr1
  have HK1:=Lib.hid (HK.out.below hb1)
  have HL1:=Lib.hid (HL.out.below hb1)
  have HB1:=Lib.hid (below_then HB.out.size HB.out hb1)
  clear HK HL HB HCR hb1 hr1 hz0
  obtain ⟨x0,x1,x2,x3,x4,x5,x6,x7,x8⟩:=HK1.out.cells9
  obtain ⟨f2,f3,f4,f5⟩:_ ∧ _ ∧ _ ∧ _:=⟨HK1.out.free 2,HK1.out.free 3,HK1.out.free 4,HK1.out.free 5⟩
  have HK2:Hid (Blk ((((w1.setCell ⟨w.heap.size,2,none⟩ (.int .i64 s)).setCell ⟨w.heap.size,3,none⟩ (.string r)).setCell ⟨w.heap.size,4,none⟩ (.int .i64 m)).setCell ⟨w.heap.size,5,none⟩ (.slice A1 fs.length c1)) w.heap.size #[.string k,.string v,.int .i64 s,.string r,.int .i64 m,.slice A1 fs.length c1,.slice X body.length cb,.int .i64 asked,.int .i64 got] 28):=Lib.hid ((((HK1.out.set 2 (.int .i64 s)).set 3 (.string r)).set 4 (.int .i64 m)).set 5 (.slice A1 fs.length c1))
  have y6:=HK2.out.cell 6 (v:=.slice X body.length cb) rfl
  have hne:w.heap.size ≠ w.heap.size + 1:=by omega
  have HL2:Hid (Blk ((((w1.setCell ⟨w.heap.size,2,none⟩ (.int .i64 s)).setCell ⟨w.heap.size,3,none⟩ (.string r)).setCell ⟨w.heap.size,4,none⟩ (.int .i64 m)).setCell ⟨w.heap.size,5,none⟩ (.slice A1 fs.length c1)) (w.heap.size + 1) #[.string ⟨#[]⟩,.string ⟨#[]⟩,.int .i64 0,.string ⟨#[]⟩,.int .i64 0,.slice none 0 0,.slice none 0 0,.int .i64 0,.int .i64 0] 28):=Lib.hid ((((HL1.out.far 2 (.int .i64 s) hne).far 3 (.string r) hne).far 4 (.int .i64 m) hne).far 5 (.slice A1 fs.length c1) hne)
  have HB2:Hid (Below w.heap.size w ((((w1.setCell ⟨w.heap.size,2,none⟩ (.int .i64 s)).setCell ⟨w.heap.size,3,none⟩ (.string r)).setCell ⟨w.heap.size,4,none⟩ (.int .i64 m)).setCell ⟨w.heap.size,5,none⟩ (.slice A1 fs.length c1))):=Lib.hid (below_set (below_set (below_set (below_set HB1.out (Nat.le_refl _) 2 _) (Nat.le_refl _) 3 _) (Nat.le_refl _) 4 _) (Nat.le_refl _) 5 _)
  have hl2:w.heap.size < w.heap.size + 2:=by omega
  have HR2:Hid (Row ((((w1.setCell ⟨w.heap.size,2,none⟩ (.int .i64 s)).setCell ⟨w.heap.size,3,none⟩ (.string r)).setCell ⟨w.heap.size,4,none⟩ (.int .i64 m)).setCell ⟨w.heap.size,5,none⟩ (.slice A1 fs.length c1)) (w.heap.size + 2) 167 2 A1 fs.length c1 (fcells fs)):=Lib.hid ((((HR1.out.far (i:=2) hl2 (.int .i64 s)).far (i:=3) hl2 (.string r)).far (i:=4) hl2 (.int .i64 m)).far (i:=5) hl2 (.slice A1 fs.length c1))
  go_wp2_with fail
  clear x0 x1 x2 x3 x4 x5 x6 x7 x8 f2 f3 f4 f5 y6 HK1 HL1 HB1 HR1
  generalize ((((w1.setCell ⟨w.heap.size,2,none⟩ (.int .i64 s)).setCell ⟨w.heap.size,3,none⟩ (.string r)).setCell ⟨w.heap.size,4,none⟩ (.int .i64 m)).setCell ⟨w.heap.size,5,none⟩ (.slice A1 fs.length c1)) = w2 at *
  refine (HCB.out _ HB2.out).mono ?_
  rintro e w3 ⟨X1,d1,rfl,hr3,hb3⟩
  have hz2:w.heap.size + 1 < w2.heap.size:=HL2.out.lt
  have HXA:=Lib.hid (hr3.apartB (b:=w.heap.size + 1) hz2)
  have HXB:=Lib.hid (hr3.apartB (b:=w.heap.size) (by omega))
  have HAA:=Lib.hid (HR2.out.apartB (b:=w.heap.size + 1) (by omega))
  have HAB:=Lib.hid (HR2.out.apartB (b:=w.heap.size) hl2)
  have HR3:=Lib.hid (HR2.out.rd.below hb3)
  have HX3:=Lib.hid hr3.rd
  have HK3:=Lib.hid (HK2.out.below hb3)
  have HL3:=Lib.hid (HL2.out.below hb3)
  have HB3:=Lib.hid (below_then HB2.out.size HB2.out hb3)
  clear HCB hr3 hb3 HK2 HL2 HB2 HR2 hz2
  have k6:=HK3.out.cell 6 (v:=.slice X body.length cb) rfl
  have f6:=HK3.out.free 6
  have HK4:Hid (Blk (w3.setCell ⟨w.heap.size,6,none⟩ (.slice X1 body.length d1)) w.heap.size #[.string k,.string v,.int .i64 s,.string r,.int .i64 m,.slice A1 fs.length c1,.slice X1 body.length d1,.int .i64 asked,.int .i64 got] 28):=Lib.hid (HK3.out.set 6 (.slice X1 body.length d1))
  have HL4:Hid (Blk (w3.setCell ⟨w.heap.size,6,none⟩ (.slice X1 body.length d1)) (w.heap.size + 1) #[.string ⟨#[]⟩,.string ⟨#[]⟩,.int .i64 0,.string ⟨#[]⟩,.int .i64 0,.slice none 0 0,.slice none 0 0,.int .i64 0,.int .i64 0] 28):=Lib.hid (HL3.out.far 6 (.slice X1 body.length d1) hne)
  have HB4:Hid (Below w.heap.size w (w3.setCell ⟨w.heap.size,6,none⟩ (.slice X1 body.length d1))):=Lib.hid (below_set HB3.out (Nat.le_refl _) 6 _)
  have HR4:Hid (Rd (w3.setCell ⟨w.heap.size,6,none⟩ (.slice X1 body.length d1)) A1 fs.length 2 (fcells fs)):=Lib.hid (HR3.out.farB HAB.out 6 _)
  have HX4:Hid (Rd (w3.setCell ⟨w.heap.size,6,none⟩ (.slice X1 body.length d1)) X1 body.length 1 (bcells body)):=Lib.hid (HX3.out.farB HXB.out 6 _)
  obtain ⟨x0,x1,x2,x3,x4,x5,x6,x7,x8⟩:=HK4.out.cells9
  obtain ⟨y0,y1,y2,y3,y4,y5,y6,y7,y8⟩:=HL4.out.cells9
  obtain ⟨g0,g1,g2,g3,g4,g5,g6,g7,g8⟩:_ ∧ _ ∧ _ ∧ _ ∧ _ ∧ _ ∧ _ ∧ _ ∧ _:=⟨HL4.out.free 0,HL4.out.free 1,HL4.out.free 2,HL4.out.free 3,HL4.out.free 4,HL4.out.free 5,HL4.out.free 6,HL4.out.free 7,HL4.out.free 8⟩
  go_wp2
  clear x0 x1 x2 x3 x4 x5 x6 x7 x8 y0 y1 y2 y3 y4 y5 y6 y7 y8 g0 g1 g2 g3 g4 g5 g6 g7 g8 k6 f6 HK3 HL3 HB3 HR3 HX3
  generalize (w3.setCell ⟨w.heap.size,6,none⟩ (.slice X1 body.length d1)) = w4 at *
  have hle:w.heap.size ≤ w.heap.size + 1:=Nat.le_succ _
  obtain ⟨b1,hb1⟩:∃ b1,b1 = w.heap.size + 1:=⟨_,rfl⟩
  rw [← hb1] at HL4 HXA HAA hle ⊢
  clear hb1
  have K0:Hid (Blk (w4.setCell ⟨b1,0,none⟩ (.string k)) b1 #[.string k,.string ⟨#[]⟩,.int .i64 0,.string ⟨#[]⟩,.int .i64 0,.slice none 0 0,.slice none 0 0,.int .i64 0,.int .i64 0] 28):=Lib.hid (HL4.out.set 0 (.string k))
  have R0:Hid (Rd (w4.setCell ⟨b1,0,none⟩ (.string k)) A1 fs.length 2 (fcells fs)):=Lib.hid (HR4.out.farB HAA.out 0 (.string k))
  have XX0:Hid (Rd (w4.setCell ⟨b1,0,none⟩ (.string k)) X1 body.length 1 (bcells body)):=Lib.hid (HX4.out.farB HXA.out 0 (.string k))
  have B0:Hid (Below w.heap.size w (w4.setCell ⟨b1,0,none⟩ (.string k))):=Lib.hid (below_set HB4.out hle 0 (.string k))
  clear HL4 HR4 HX4 HB4
  generalize (w4.setCell ⟨b1,0,none⟩ (.string k)) = v0 at *
  have K1:Hid (Blk (v0.setCell ⟨b1,1,none⟩ (.string v)) b1 #[.string k,.string v,.int .i64 0,.string ⟨#[]⟩,.int .i64 0,.slice none 0 0,.slice none 0 0,.int .i64 0,.int .i64 0] 28):=Lib.hid (K0.out.set 1 (.string v))
  have R1:Hid (Rd (v0.setCell ⟨b1,1,none⟩ (.string v)) A1 fs.length 2 (fcells fs)):=Lib.hid (R0.out.farB HAA.out 1 (.string v))
  have XX1:Hid (Rd (v0.setCell ⟨b1,1,none⟩ (.string v)) X1 body.length 1 (bcells body)):=Lib.hid (XX0.out.farB HXA.out 1 (.string v))
  have B1:Hid (Below w.heap.size w (v0.setCell ⟨b1,1,none⟩ (.string v))):=Lib.hid (below_set B0.out hle 1 (.string v))
  clear K0 R0 XX0 B0
  generalize (v0.setCell ⟨b1,1,none⟩ (.string v)) = v1 at *
  have K2:Hid (Blk (v1.setCell ⟨b1,2,none⟩ (.int .i64 s)) b1 #[.string k,.string v,.int .i64 s,.string ⟨#[]⟩,.int .i64 0,.slice none 0 0,.slice none 0 0,.int .i64 0,.int .i64 0] 28):=Lib.hid (K1.out.set 2 (.int .i64 s))
  have R2:Hid (Rd (v1.setCell ⟨b1,2,none⟩ (.int .i64 s)) A1 fs.length 2 (fcells fs)):=Lib.hid (R1.out.farB HAA.out 2 (.int .i64 s))
  have XX2:Hid (Rd (v1.setCell ⟨b1,2,none⟩ (.int .i64 s)) X1 body.length 1 (bcells body)):=Lib.hid (XX1.out.farB HXA.out 2 (.int .i64 s))
  have B2:Hid (Below w.heap.size w (v1.setCell ⟨b1,2,none⟩ (.int .i64 s))):=Lib.hid (below_set B1.out hle 2 (.int .i64 s))
  clear K1 R1 XX1 B1
  generalize (v1.setCell ⟨b1,2,none⟩ (.int .i64 s)) = v2 at *
  have K3:Hid (Blk (v2.setCell ⟨b1,3,none⟩ (.string r)) b1 #[.string k,.string v,.int .i64 s,.string r,.int .i64 0,.slice none 0 0,.slice none 0 0,.int .i64 0,.int .i64 0] 28):=Lib.hid (K2.out.set 3 (.string r))
  have R3:Hid (Rd (v2.setCell ⟨b1,3,none⟩ (.string r)) A1 fs.length 2 (fcells fs)):=Lib.hid (R2.out.farB HAA.out 3 (.string r))
  have XX3:Hid (Rd (v2.setCell ⟨b1,3,none⟩ (.string r)) X1 body.length 1 (bcells body)):=Lib.hid (XX2.out.farB HXA.out 3 (.string r))
  have B3:Hid (Below w.heap.size w (v2.setCell ⟨b1,3,none⟩ (.string r))):=Lib.hid (below_set B2.out hle 3 (.string r))
  clear K2 R2 XX2 B2
  generalize (v2.setCell ⟨b1,3,none⟩ (.string r)) = v3 at *
  have K4:Hid (Blk (v3.setCell ⟨b1,4,none⟩ (.int .i64 m)) b1 #[.string k,.string v,.int .i64 s,.string r,.int .i64 m,.slice none 0 0,.slice none 0 0,.int .i64 0,.int .i64 0] 28):=Lib.hid (K3.out.set 4 (.int .i64 m))
  have R4:Hid (Rd (v3.setCell ⟨b1,4,none⟩ (.int .i64 m)) A1 fs.length 2 (fcells fs)):=Lib.hid (R3.out.farB HAA.out 4 (.int .i64 m))
  have XX4:Hid (Rd (v3.setCell ⟨b1,4,none⟩ (.int .i64 m)) X1 body.length 1 (bcells body)):=Lib.hid (XX3.out.farB HXA.out 4 (.int .i64 m))
  have B4:Hid (Below w.heap.size w (v3.setCell ⟨b1,4,none⟩ (.int .i64 m))):=Lib.hid (below_set B3.out hle 4 (.int .i64 m))
  clear K3 R3 XX3 B3
  generalize (v3.setCell ⟨b1,4,none⟩ (.int .i64 m)) = v4 at *
  have K5:Hid (Blk (v4.setCell ⟨b1,5,none⟩ (.slice A1 fs.length c1)) b1 #[.string k,.string v,.int .i64 s,.string r,.int .i64 m,.slice A1 fs.length c1,.slice none 0 0,.int .i64 0,.int .i64 0] 28):=Lib.hid (K4.out.set 5 (.slice A1 fs.length c1))
  have R5:Hid (Rd (v4.setCell ⟨b1,5,none⟩ (.slice A1 fs.length c1)) A1 fs.length 2 (fcells fs)):=Lib.hid (R4.out.farB HAA.out 5 (.slice A1 fs.length c1))
  have XX5:Hid (Rd (v4.setCell ⟨b1,5,none⟩ (.slice A1 fs.length c1)) X1 body.length 1 (bcells body)):=Lib.hid (XX4.out.farB HXA.out 5 (.slice A1 fs.length c1))
  have B5:Hid (Below w.heap.size w (v4.setCell ⟨b1,5,none⟩ (.slice A1 fs.length c1))):=Lib.hid (below_set B4.out hle 5 (.slice A1 fs.length c1))
  clear K4 R4 XX4 B4
  generalize (v4.setCell ⟨b1,5,none⟩ (.slice A1 fs.length c1)) = v5 at *
  have K6:Hid (Blk (v5.setCell ⟨b1,6,none⟩ (.slice X1 body.length d1)) b1 #[.string k,.string v,.int .i64 s,.string r,.int .i64 m,.slice A1 fs.length c1,.slice X1 body.length d1,.int .i64 0,.int .i64 0] 28):=Lib.hid (K5.out.set 6 (.slice X1 body.length d1))
  have R6:Hid (Rd (v5.setCell ⟨b1,6,none⟩ (.slice X1 body.length d1)) A1 fs.length 2 (fcells fs)):=Lib.hid (R5.out.farB HAA.out 6 (.slice X1 body.length d1))
  have XX6:Hid (Rd (v5.setCell ⟨b1,6,none⟩ (.slice X1 body.length d1)) X1 body.length 1 (bcells body)):=Lib.hid (XX5.out.farB HXA.out 6 (.slice X1 body.length d1))
  have B6:Hid (Below w.heap.size w (v5.setCell ⟨b1,6,none⟩ (.slice X1 body.length d1))):=Lib.hid (below_set B5.out hle 6 (.slice X1 body.length d1))
  clear K5 R5 XX5 B5
  generalize (v5.setCell ⟨b1,6,none⟩ (.slice X1 body.length d1)) = v6 at *
  have K7:Hid (Blk (v6.setCell ⟨b1,7,none⟩ (.int .i64 asked)) b1 #[.string k,.string v,.int .i64 s,.string r,.int .i64 m,.slice A1 fs.length c1,.slice X1 body.length d1,.int .i64 asked,.int .i64 0] 28):=Lib.hid (K6.out.set 7 (.int .i64 asked))
  have R7:Hid (Rd (v6.setCell ⟨b1,7,none⟩ (.int .i64 asked)) A1 fs.length 2 (fcells fs)):=Lib.hid (R6.out.farB HAA.out 7 (.int .i64 asked))
  have XX7:Hid (Rd (v6.setCell ⟨b1,7,none⟩ (.int .i64 asked)) X1 body.length 1 (bcells body)):=Lib.hid (XX6.out.farB HXA.out 7 (.int .i64 asked))
  have B7:Hid (Below w.heap.size w (v6.setCell ⟨b1,7,none⟩ (.int .i64 asked))):=Lib.hid (below_set B6.out hle 7 (.int .i64 asked))
  clear K6 R6 XX6 B6
  generalize (v6.setCell ⟨b1,7,none⟩ (.int .i64 asked)) = v7 at *
  have K8:Hid (Blk (v7.setCell ⟨b1,8,none⟩ (.int .i64 got)) b1 #[.string k,.string v,.int .i64 s,.string r,.int .i64 m,.slice A1 fs.length c1,.slice X1 body.length d1,.int .i64 asked,.int .i64 got] 28):=Lib.hid (K7.out.set 8 (.int .i64 got))
  have R8:Hid (Rd (v7.setCell ⟨b1,8,none⟩ (.int .i64 got)) A1 fs.length 2 (fcells fs)):=Lib.hid (R7.out.farB HAA.out 8 (.int .i64 got))
  have XX8:Hid (Rd (v7.setCell ⟨b1,8,none⟩ (.int .i64 got)) X1 body.length 1 (bcells body)):=Lib.hid (XX7.out.farB HXA.out 8 (.int .i64 got))
  have B8:Hid (Below w.heap.size w (v7.setCell ⟨b1,8,none⟩ (.int .i64 got))):=Lib.hid (below_set B7.out hle 8 (.int .i64 got))
  clear K7 R7 XX7 B7
  generalize (v7.setCell ⟨b1,8,none⟩ (.int .i64 got)) = v8 at *
  obtain ⟨z0,z1,z2,z3,z4,z5,z6,z7,z8⟩:=K8.out.cells9
  refine bodyPost_ret (v:=.agg #[.string k,.string v,.int .i64 s,.string r,.int .i64 m,.slice A1 fs.length c1,.slice X1 body.length d1,.int .i64 asked,.int .i64 got]) (by simp [results,Tryz.results11,go_sem,z0,z1,z2,z3,z4,z5,z6,z7,z8]) rfl ?_
  exact ⟨A1,c1,X1,d1,rfl,R8.out,XX8.out,B8.out⟩
end Go.Proofs.YtkempjcphpnocaaGreatDoor
