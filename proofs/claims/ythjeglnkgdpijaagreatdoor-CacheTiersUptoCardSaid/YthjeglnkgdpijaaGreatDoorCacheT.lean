/- The walk of the Cache laws' first script (printed by gen/cachet.py). Condition: the library's tables. -/
import Derived.Test.YthjeglnkgdpijaaGreatDoorZ10
set_option maxHeartbeats 8000000
set_option maxRecDepth 100000
namespace Go.Proofs.YthjeglnkgdpijaaGreatDoor
open Go Go.RowKit Go.Maps
def C.ent (k:ByteArray) (g:Int):O.Ent:=⟨k,⟨#[]⟩,200,⟨#[]⟩,1,[],[],0,g⟩
def C.entP (k:ByteArray) (g:Int):EP:=⟨C.ent k g,none,0,none,0⟩
theorem C.entP_v (k:ByteArray) (g:Int):(C.entP k g).v=.agg #[.string k,.string ⟨#[]⟩,.int .i64 200,.string ⟨#[]⟩,.int .i64 1,.slice none 0 0,.slice none 0 0,.int .i64 0,.int .i64 g]:=rfl
theorem C.entP_own (k:ByteArray) (g:Int) (w:World) (b:Nat):gB w b (C.entP k g):=⟨Row.none_ _ _ _ _,Row.none_ _ _ _ _⟩
theorem aBF (k:ByteArray) (g:Int) (w:World):Calls Tryz.prog 19 #[.string k,.int .i64 g] w (fun e w'=>e=.returned (.agg #[.string k,.string ⟨#[]⟩,.int .i64 200,.string ⟨#[]⟩,.int .i64 1,.slice none 0 0,.slice none 0 0,.int .i64 0,.int .i64 g])∧Below w.heap.size w w'):=by
 obtain⟨w0,hw0⟩:∃ w0,w.alloc (.cells #[.string ⟨#[]⟩,.string ⟨#[]⟩,.int .i64 0,.string ⟨#[]⟩,.int .i64 0,.slice none 0 0,.slice none 0 0,.int .i64 0,.int .i64 0] 41)=w0:=⟨_,rfl⟩
 have hb0:Below w.heap.size w w0:=by rw[← hw0];exact (zB _ _).alloc (zA _) _
 have hk0:Blk w0 w.heap.size #[.string ⟨#[]⟩,.string ⟨#[]⟩,.int .i64 0,.string ⟨#[]⟩,.int .i64 0,.slice none 0 0,.slice none 0 0,.int .i64 0,.int .i64 0] 41:=by rw[← hw0];exact Blk.new w _ _
 obtain⟨z0,z1,z2,z3,z4,z5,z6,z7,z8⟩:=hk0.cells9
 obtain⟨r0,r1,r2,r3,r4,r5,r6,r7,r8⟩:=hk0.free9
 have HB:=aH (aK hb0 (zA _) (.string k) (.string ⟨#[]⟩) (.int .i64 200) (.string ⟨#[]⟩) (.int .i64 1) (.slice none 0 0) (.slice none 0 0) (.int .i64 0) (.int .i64 g))
 obtain⟨v0,v1,v2,v3,v4,v5,v6,v7,v8⟩:=(hk0.set9 (.string k) (.string ⟨#[]⟩) (.int .i64 200) (.string ⟨#[]⟩) (.int .i64 1) (.slice none 0 0) (.slice none 0 0) (.int .i64 0) (.int .i64 g)).cells9
 unfold nine at HB v0 v1 v2 v3 v4 v5 v6 v7 v8
 clear hb0 hk0
 go_enter Tryz.func19,Tryz.ntmps19
 go_wp2
 refine bK (v:=.agg #[.string k,.string ⟨#[]⟩,.int .i64 200,.string ⟨#[]⟩,.int .i64 1,.slice none 0 0,.slice none 0 0,.int .i64 0,.int .i64 g]) (by simp [results,Tryz.results19,go_sem,v0,v1,v2,v3,v4,v5,v6,v7,v8]) rfl ?_
 exact⟨rfl,HB.out⟩
theorem kV {w w1:World} {B:Nat} (ht:Tabs w) (hb:Below w.heap.size w w1) (hB:w.heap.size≤B):∀ u,Below B w1 u→Tabs u:=fun _ hu=>ht.below (hb.trans (hu.mono hB))
theorem aO.far9 {F F':Nat→Prop} {w w':World} {b:Nat} {cs:Array Value} {T:TypeId} (h:aO F w F' w') (hk:Blk w b cs T) (hn:¬ F b):Blk w' b cs T:=h.blk hk hn
theorem vO (w:World) (ht:Tabs w):Calls Tryz.prog 6 #[] w (pR w true):=by
 obtain⟨s0,s1,s2,s3,hfour⟩:=C.four
 have HX:=aH hfour
 have HTB:=aH ht
 have hbg:=jS 9999 none 0 [] (-1) 9 70 w (by decide) (Rd.nil _ _ _)
 rw[hfour.start]at hbg
 have HBG:=aH hbg
 dsimp only[List.length_nil]at HBG
 clear ht hbg hfour
 go_enter Tryz.func6,Tryz.ntmps6
 go_wp2_with fail
 refine HBG.out.mono ?_
 rintro e w1 ⟨B,Z,pd,rfl,hc1,hB1,hB2,hb1,hpd⟩
 obtain⟨ad,rfl⟩:=Option.isSome_iff_exists.1 (hpd rfl)
 have HC1:=aH hc1
 have HBB:=aH hB1
 have HB1:=aH hb1
 have HB2:=aH hB2
 have HS1:Hid (C.bV s0 (C.abs ⟨some s0,[],[]⟩)):=aH ⟨HX.out.b0,rfl,rfl,fun x F h=>by cases h⟩
 have HEN:=aH (fun k g u=>aBF k g u)
 clear hc1 hB1 hB2 hb1 hpd HBG
 go_wp2_with fail
 refine (HEN.out _ _ _).mono ?_
 rintro e w2 ⟨rfl,hb2⟩
 have HC2:=aH (HC1.out.below hb2)
 have HB3:=aH (aA HB1.out.size HB1.out hb2)
 have HZ2:=aH (bD HB2.out hb2.size)
 have HSA:=aH (wJ B _ w2.heap.size Z _ s0 (C.entP ⟨#[97]⟩ 1) w2 HC2.out HS1.out (by rw[show (C.entP ⟨#[97]⟩ 1).E=C.uA from rfl,HX.out.p1];exact HX.out.b1) (fun _=>by rw[show (C.entP ⟨#[97]⟩ 1).E=C.uA from rfl,HX.out.p1];exact HX.out.get1) (C.entP_own _ _ _ _) (fun k hk=>HC2.out.lt hk) (by unfold EP.lim;decide) (kV HTB.out HB3.out HBB.out) HZ2.out)
 rw[C.entP_v,show ((C.entP ⟨#[97]⟩ 1).E)=C.uA from rfl,HX.out.p1]at HSA
 dsimp only at HSA
 clear hb2 HC1 HB1 HB2
 go_wp2_with fail
 refine HSA.out.mono ?_
 rintro e w3 ⟨rfl,hb3,hx3⟩
 obtain⟨Z3,a3,hz3,hc3,hw3,hs3⟩:=hx3 (by trivial)
 rw[← hz3]
 have HC3:=aH hc3
 have HS3:Hid (C.bV s1 (C.abs a3)):=aH hs3
 have HB4:=aH (HB3.out.trans (hb3.mono HBB.out))
 have HZ3:=aH (bD HZ2.out hb3.size)
 clear hb3 hx3 hc3 hw3 hs3 hz3 HSA HC2 HB3 HS1 HZ2 Z
 go_wp2_with fail
 refine (HEN.out _ _ _).mono ?_
 rintro e w4 ⟨rfl,hb4⟩
 have HC4:=aH (HC3.out.below hb4)
 have HB5:=aH (aA HB4.out.size HB4.out hb4)
 have HZ4:=aH (bD HZ3.out hb4.size)
 have HSB:=aH (wJ B _ w4.heap.size Z3 a3 s1 (C.entP ⟨#[98]⟩ 2) w4 HC4.out HS3.out (by rw[show (C.entP ⟨#[98]⟩ 2).E=C.aBS from rfl,HX.out.p2];exact HX.out.b2) (fun _=>by rw[show (C.entP ⟨#[98]⟩ 2).E=C.aBS from rfl,HX.out.p2];exact HX.out.get2) (C.entP_own _ _ _ _) (fun k hk=>HC4.out.lt hk) (by unfold EP.lim;decide) (kV HTB.out HB5.out HBB.out) HZ4.out)
 rw[C.entP_v,show ((C.entP ⟨#[98]⟩ 2).E)=C.aBS from rfl,HX.out.p2]at HSB
 dsimp only at HSB
 clear hb4 HC3 HB4 HEN HZ3
 go_wp2_with fail
 refine HSB.out.mono ?_
 rintro e w5 ⟨rfl,hb5,hx5⟩
 obtain⟨Z5,a5,hz5,hc5,hw5,hs5⟩:=hx5 (by trivial)
 rw[← hz5]
 have HC5:=aH hc5
 have HS5:Hid (C.bV s2 (C.abs a5)):=aH hs5
 have HB6:=aH (HB5.out.trans (hb5.mono HBB.out))
 have HZ5:=aH (bD HZ4.out hb5.size)
 have HID:=aH (jW B _ Z5 a5 2000 w5 hc5 (fun s hs=>by obtain rfl:s2=s:=Option.some.inj (HS5.out.st.symm.trans hs);exact HX.out.b2.fine))
 rw[HX.out.ids2 _ HS5.out]at HID
 clear hb5 hx5 hc5 hw5 hs5 hz5 HSB HC4 HB5 HS3 HZ4 Z3
 go_wp2_with fail
 refine HID.out.mono ?_
 rintro e w6 ⟨A6,c6,rfl,hr6,hb6⟩
 have hbe:Below w6.heap.size w6 (w6.alloc (.cells #[.string ⟨#[97,10]⟩,.string ⟨#[98,10]⟩] 9)):=(zB _ _).alloc (zA _) _
 have HC6:=aH ((HC5.out.below hb6).below hbe)
 have HB7:=aH (aA (bD HB6.out.size hb6.size) (aA HB6.out.size HB6.out hb6) hbe)
 have HZ6:=aH (bD (bD HZ5.out hb6.size) hbe.size)
 have HST:=aH (lV A6 (some ⟨w6.heap.size,0,none⟩) 2 c6 2 [C.idA,C.idB] _ rfl (by decide) (hr6.rd.below hbe) (Rd.newRow w6 9 #[.string ⟨#[97,10]⟩,.string ⟨#[98,10]⟩] 2 1 rfl))
 clear hr6 hb6 hbe HC5 HB6 HID HZ5
 go_wp2_with fail
 refine HST.out.mono ?_
 rintro e w7 ⟨rfl,hb7⟩
 have HC7:=aH (HC6.out.below hb7)
 have HB8:=aH (aA HB7.out.size HB7.out hb7)
 have HZ7:=aH (bD HZ6.out hb7.size)
 have HFI:=aH (nM B _ Z5 a5 s2 ⟨#[97]⟩ none 0 [] w7 HC7.out HS5.out (by decide) (by decide) (Rd.nil _ _ _) (kV HTB.out HB8.out HBB.out) HZ7.out)
 rw[HX.out.find2 _ HS5.out]at HFI
 dsimp only[List.length_nil]at HFI
 clear hb7 HC6 HB7 HST HS5 HZ6
 go_wp2_with fail
 refine HFI.out.mono ?_
 rintro e w8 ⟨q,a8,rfl,hq8,-,hc8,hw8,hs8,hb8,-⟩
 obtain⟨w9,hw9⟩:∃ w9,w8.alloc (.cells #[.string ⟨#[]⟩,.string ⟨#[]⟩,.int .i64 0,.string ⟨#[]⟩,.int .i64 0,.slice none 0 0,.slice none 0 0,.int .i64 0,.int .i64 0] 41)=w9:=⟨_,rfl⟩
 have hb9:Below w8.heap.size w8 w9:=by rw[← hw9];exact (zB _ _).alloc (zA _) _
 have hk9:Blk w9 w8.heap.size #[.string ⟨#[]⟩,.string ⟨#[]⟩,.int .i64 0,.string ⟨#[]⟩,.int .i64 0,.slice none 0 0,.slice none 0 0,.int .i64 0,.int .i64 0] 41:=by rw[← hw9];exact Blk.new w8 _ _
 obtain⟨z0,z1,z2,z3,z4,z5,z6,z7,z8⟩:=hk9.cells9
 obtain⟨r0,r1,r2,r3,r4,r5,r6,r7,r8⟩:=hk9.free9
 have hc9:=(hc8.below hb9).entry9 hk9 (.string q.E.k) (.string q.E.v) (.int .i64 q.E.s) (.string q.E.r) (.int .i64 q.E.m) (.slice q.A q.E.fs.length q.c) (.slice q.X q.E.body.length q.d) (.int .i64 q.E.asked) (.int .i64 q.E.got)
 have HB10:=aH (aK (aA (bD HB8.out.size hw8.size) (HB8.out.trans (hb8.mono HBB.out)) hb9) (bD HB8.out.size hw8.size) (.string q.E.k) (.string q.E.v) (.int .i64 q.E.s) (.string q.E.r) (.int .i64 q.E.m) (.slice q.A q.E.fs.length q.c) (.slice q.X q.E.body.length q.d) (.int .i64 q.E.asked) (.int .i64 q.E.got))
 have HK10:=aH (hk9.set9 (.string q.E.k) (.string q.E.v) (.int .i64 q.E.s) (.string q.E.r) (.int .i64 q.E.m) (.slice q.A q.E.fs.length q.c) (.slice q.X q.E.body.length q.d) (.int .i64 q.E.asked) (.int .i64 q.E.got))
 have HZ10:Hid (B≤(nine w9 w8.heap.size (.string q.E.k) (.string q.E.v) (.int .i64 q.E.s) (.string q.E.r) (.int .i64 q.E.m) (.slice q.A q.E.fs.length q.c) (.slice q.X q.E.body.length q.d) (.int .i64 q.E.asked) (.int .i64 q.E.got)).heap.size):=aH (by
  have h1:=(dW (F:=fun k=>k=w8.heap.size) (w:=w9) (b:=w8.heap.size) rfl (.string q.E.k) (.string q.E.v) (.int .i64 q.E.s) (.string q.E.r) (.int .i64 q.E.m) (.slice q.A q.E.fs.length q.c) (.slice q.X q.E.body.length q.d) (.int .i64 q.E.asked) (.int .i64 q.E.got)).size
  have:=HZ7.out;have:=hw8.size;have:=hb9.size;omega)
 have HC10:=aH hc9
 have HS10:Hid (C.bV s2 (C.abs a8)):=aH hs8
 have HQG:Hid (q.E.got=1):=aH (by rw[hq8];rfl)
 unfold EP.v kK
 unfold nine at HB10 HK10 HZ10 HC10
 clear hq8 hc8 hw8 hs8 hb8 hb9 hk9 hc9 HFI HC7 HB8 HZ7
 go_upto_region 7 with fail
 obtain⟨w10,hw10⟩:∃ w10,(((((((((w9.setCell ⟨w8.heap.size,0,none⟩ (.string q.E.k)).setCell ⟨w8.heap.size,1,none⟩ (.string q.E.v)).setCell ⟨w8.heap.size,2,none⟩ (.int .i64 q.E.s)).setCell ⟨w8.heap.size,3,none⟩ (.string q.E.r)).setCell ⟨w8.heap.size,4,none⟩ (.int .i64 q.E.m)).setCell ⟨w8.heap.size,5,none⟩ (.slice q.A q.E.fs.length q.c)).setCell ⟨w8.heap.size,6,none⟩ (.slice q.X q.E.body.length q.d)).setCell ⟨w8.heap.size,7,none⟩ (.int .i64 q.E.asked)).setCell ⟨w8.heap.size,8,none⟩ (.int .i64 q.E.got))=w10:=⟨_,rfl⟩
 rw[hw10]at HB10 HK10 HZ10 HC10 ⊢
 clear hw9 hw10 z0 z1 z2 z3 z4 z5 z6 z7 z8 r0 r1 r2 r3 r4 r5 r6 r7 r8
 generalize w8.heap.size=b4 at *
 obtain⟨u,hall,hpu,hsu⟩:=HX.out.purge _ HS10.out
 have HPG:=aH (rZ B _ Z5 a8 ⟨#[97]⟩ w10 HC10.out (by decide) (by
  rw[hall]
  intro k hk
  rcases Nat.lt_or_ge k 1 with h1 | h1
  ·obtain rfl:k=0:=by omega
   refine⟨by show a8.hd.length≤_;rw[show a8.hd=[] from HS10.out.hd];exact zF _,fun s hs=>?_⟩
   obtain rfl:s2=s:=Option.some.inj (HS10.out.st.symm.trans hs)
   exact HX.out.b2.fine
  ·obtain rfl:k=1:=by simpa using Nat.le_antisymm hk h1
   rw[show [C.idA].take 1=[C.idA] from rfl,hpu]
   refine⟨by show u.hd.length≤_;rw[hsu.hd];exact zF _,fun s hs=>?_⟩
   obtain rfl:s3=s:=Option.some.inj (hsu.st.symm.trans hs)
   exact HX.out.b3.fine) (kV HTB.out HB10.out HBB.out) HZ10.out)
 rw[hall,hpu]at HPG
 dsimp only at HPG
 have HSU:=aH hsu
 clear hall hpu hsu HS10
 go_wp2_with fail
 refine HPG.out.mono ?_
 rintro e w11 ⟨Z11,a11,hz11,rfl,hc11,hw11,ha11,hb11⟩
 rw[← hz11]
 have HK11:=aH (hw11.blk HK10.out (HC10.out.offE HK10.out))
 have HC11:=aH hc11
 have HB11:=aH (HB10.out.trans (hb11.mono HBB.out))
 have HZ11:=aH (bD HZ10.out hw11.size)
 have HS11:Hid (C.bV s3 (C.abs a11)):=aH (by rw[ha11];exact HSU.out)
 have HF2:=aH (nM B _ Z11 a11 s3 ⟨#[97]⟩ none 0 [] w11 HC11.out HS11.out (by decide) (by decide) (Rd.nil _ _ _) (kV HTB.out HB11.out HBB.out) HZ11.out)
 rw[HX.out.find3 _ HS11.out]at HF2
 dsimp only[List.length_nil]at HF2
 clear hz11 hc11 hw11 ha11 hb11 HPG HK10 HC10 HB10 HZ10 HSU Z5
 go_wp2_with fail
 refine HF2.out.mono ?_
 rintro e w12 ⟨q2,a12,rfl,-,-,-,hw12,-,hb12,-⟩
 have HK12:=aH (hw12.blk HK11.out (HC11.out.offE HK11.out))
 have HB12:=aH (HB11.out.trans (hb12.mono HBB.out))
 obtain⟨w13,hw13⟩:∃ w13,w12.alloc (.cells #[.string ⟨#[]⟩,.string ⟨#[]⟩,.int .i64 0,.string ⟨#[]⟩,.int .i64 0,.slice none 0 0,.slice none 0 0,.int .i64 0,.int .i64 0] 41)=w13:=⟨_,rfl⟩
 have hb13:Below w12.heap.size w12 w13:=by rw[← hw13];exact (zB _ _).alloc (zA _) _
 have hk13:Blk w13 w12.heap.size #[.string ⟨#[]⟩,.string ⟨#[]⟩,.int .i64 0,.string ⟨#[]⟩,.int .i64 0,.slice none 0 0,.slice none 0 0,.int .i64 0,.int .i64 0] 41:=by rw[← hw13];exact Blk.new w12 _ _
 obtain⟨z0,z1,z2,z3,z4,z5,z6,z7,z8⟩:=hk13.cells9
 obtain⟨r0,r1,r2,r3,r4,r5,r6,r7,r8⟩:=hk13.free9
 have hne:b4≠w12.heap.size:=by have:=HK12.out.lt;omega
 have HK13:=aH ((HK12.out.below hb13).nine_far hne (.string q2.E.k) (.string q2.E.v) (.int .i64 q2.E.s) (.string q2.E.r) (.int .i64 q2.E.m) (.slice q2.A q2.E.fs.length q2.c) (.slice q2.X q2.E.body.length q2.d) (.int .i64 q2.E.asked) (.int .i64 q2.E.got))
 have HB13:=aH (aK (aA HB12.out.size HB12.out hb13) HB12.out.size (.string q2.E.k) (.string q2.E.v) (.int .i64 q2.E.s) (.string q2.E.r) (.int .i64 q2.E.m) (.slice q2.A q2.E.fs.length q2.c) (.slice q2.X q2.E.body.length q2.d) (.int .i64 q2.E.asked) (.int .i64 q2.E.got))
 unfold EP.v kK
 unfold nine at HK13 HB13
 have v8:=HK13.out.cell 8 (v:=.int .i64 q.E.got) rfl
 rw[HQG.out]at v8
 clear hw12 hb12 hb13 hk13 hne HF2 HK11 HC11 HB11 HK12 HB12
 go_upto_region 9 with fail
 obtain⟨w14,hw14⟩:∃ w14,(((((((((w13.setCell ⟨w12.heap.size,0,none⟩ (.string q2.E.k)).setCell ⟨w12.heap.size,1,none⟩ (.string q2.E.v)).setCell ⟨w12.heap.size,2,none⟩ (.int .i64 q2.E.s)).setCell ⟨w12.heap.size,3,none⟩ (.string q2.E.r)).setCell ⟨w12.heap.size,4,none⟩ (.int .i64 q2.E.m)).setCell ⟨w12.heap.size,5,none⟩ (.slice q2.A q2.E.fs.length q2.c)).setCell ⟨w12.heap.size,6,none⟩ (.slice q2.X q2.E.body.length q2.d)).setCell ⟨w12.heap.size,7,none⟩ (.int .i64 q2.E.asked)).setCell ⟨w12.heap.size,8,none⟩ (.int .i64 q2.E.got))=w14:=⟨_,rfl⟩
 rw[hw14]at HB13 v8 ⊢
 clear hw13 hw14 HK13 z0 z1 z2 z3 z4 z5 z6 z7 z8 r0 r1 r2 r3 r4 r5 r6 r7 r8
 go_wp2
 go_ret
 exact⟨rfl,HB13.out⟩
end Go.Proofs.YthjeglnkgdpijaaGreatDoor
