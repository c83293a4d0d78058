/- The walks of cache's stored and hide. The walks of cache's all, Ids, begin and New. The log's records: what is written is read back, one by one and all of them. The walk of vary.Key. Conditions: as each theorem states them. -/
import Derived.Test.YthjeglnkgdpijaaGreatDoorZ05
set_option maxHeartbeats 4000000
set_option maxRecDepth 100000
namespace Go.Proofs.YthjeglnkgdpijaaGreatDoor
open Go Go.RowKit Go.Maps
namespace C
structure Fine (m:Nat) (s:S.Sto):Prop where
 fit:D.Fit m s.d
 up:D.Up s.tab
 len:s.tab.length≤262144
 sz:∀ p∈s.tab,p.1.size≤1048576
 no:∀ p∈s.tab,p.2 < s.used.length
 used:s.used.length≤4096
 cnt:s.count≤549755813888
def stored (a:CSt) (id:ByteArray):Bool:=match a.s with
 | some s=>V.has s.ids id
 | none=>false
def hide (a:CSt) (id:ByteArray) (yes:Bool):CSt:={ a with hd:=if (yes&&stored a id)=true then D.put a.hd id 0 else D.del a.hd id }
end C
theorem nK (B room:Nat) (Z:CM) (a:CSt) (id:ByteArray) (m:Nat) (w:World) (h:CAt B room Z a w) (hf:∀ s,a.s=some s→C.Fine m s) :
  Calls Tryz.prog 30 #[.pointer (some ⟨Z.c,0,none⟩),.string id] w (pR w (C.stored a id)):=by
 obtain⟨y0,y1,y2⟩:=h.cells
 cases hs:a.s with
 | none =>
  rw[hs]at y0
  dsimp only[Option.map]at y0
  have HV:Hid (C.stored a id=false):=aH (by unfold C.stored;rw[hs])
  clear h hf hs y1 y2
  go_enter Tryz.func30,Tryz.ntmps30
  go_wp2_with fail
  all_goals (go_ret;exact⟨aP HV.out.symm,zB _ _⟩)
 | some s =>
  rw[hs]at y0
  dsimp only[Option.map]at y0
  have HV:Hid (C.stored a id=V.has s.ids id):=aH (by unfold C.stored;rw[hs])
  have hl:s.ids.length=s.tab.length:=by unfold S.Sto.ids;rw[List.length_map]
  have hl2:=(hf s hs).len
  have HI:=aH (yS B Z.X s w (h.sto s hs) (hf s hs).up (by omega))
  have HL:Hid (s.ids.length≤1099511627776):=aH (by omega)
  clear h hf hs y1 y2 hl hl2
  go_enter Tryz.func30,Tryz.ntmps30
  go_wp2_with fail
  refine HI.out.mono ?_
  rintro e w1 ⟨A,c,rfl,hr,hb⟩
  have HC:=aH (jV A s.ids.length c s.ids id w1 hr.rd HL.out)
  have HB:=aH hb
  clear hr hb HI y0
  go_wp2_with fail
  refine HC.out.mono ?_
  rintro e w2 ⟨rfl,rfl⟩
  go_wp2
  go_ret
  exact⟨aP HV.out.symm,HB.out⟩
theorem yX (B room:Nat) (Z:CM) (a:CSt) (id:ByteArray) (yes:Bool) (m:Nat) (w:World) (h:CAt B room Z a w) (hf:∀ s,a.s=some s→C.Fine m s) (hi:id.size≤1073741824) (hd:a.hd.length≤1073741824) :
  Calls Tryz.prog 32 #[.pointer (some ⟨Z.c,0,none⟩),.string id,.bool yes] w (fun e w'=>e=.returned (.tuple #[])∧CAt B room Z (C.hide a id yes) w'∧aO (Z.foot a) w (Z.foot (C.hide a id yes)) w'):=by
 have HST:=aH (nK B room Z a id m w h hf)
 have HH:=aH h
 obtain⟨y0,y1,y2⟩:=h.cells
 have HDEL:Hid (∀ u u',CAt B room Z a u→aO (Z.foot a) w (Z.foot a) u→(yes&&C.stored a id)=false→(∃ n,u'.ownsMap Tryz.prog 9 pV Z.hm n (D.zN (D.del a.hd id)))→u.grownBy u' (some Z.hm)→CAt B room Z (C.hide a id yes) u'∧aO (Z.foot a) w (Z.foot (C.hide a id yes)) u'):=aH (fun u u' h1 h2 h3 h4 h5=>by
  obtain⟨n,h4⟩:=h4
  obtain⟨q1,q2⟩:=h1.hides (vZ h4) (D.rH h1.up _) h5
  unfold C.hide
  rw[h3]
  exact⟨q1,h2.trans q2⟩)
 cases yes with
 | false =>
  clear h hf HST
  go_enter Tryz.func32,Tryz.ntmps32
  go_wp2_with (at_delete;refine wpList_delete_own _ rfl _ _ 74 9 rfl 88 (string_keyed bT) aAA pV Z.hm a.hd.length (D.zN a.hd) rfl HH.out.hid (.string id) (D.key id) rfl (jJ id (by simp only[maxLen];omega)) ?_;intro w9 hown9 hturn9)
  all_goals
   rw[D.zM]at hown9
   obtain⟨q1,q2⟩:=HDEL.out w w9 HH.out (aO.refl _ _) rfl ⟨_,hown9⟩ hturn9.grown
   go_end0
   exact⟨rfl,q1,q2⟩
 | true =>
  clear h hf
  go_enter Tryz.func32,Tryz.ntmps32
  go_wp2_with fail
  refine HST.out.mono ?_
  rintro e w1 ⟨rfl,hb⟩
  have H1:=aH (HH.out.below hb)
  have HW1:=aH (aO.below hb (Z.foot a))
  obtain⟨v0,v1,v2⟩:=H1.out.cells
  clear hb HST y0 y1 y2
  cases hs:C.stored a id with
  | true =>
   have HS:=aH hs
   clear hs
   go_wp2_with (at_mapUpdate;refine wpList_mapUpdate_own _ rfl _ _ _ 74 rfl 9 88 (string_keyed bT) aAA pV Z.hm a.hd.length (D.zN a.hd) rfl H1.out.hid (by simp only[maxLen];omega) (.string id) (.agg #[]) (D.key id) rfl rfl (jJ id (by simp only[maxLen];omega)) (.agg []) [] unitElem_mk ?_;intro w9 hown9 hgrow9)
   rw[D.aMI _ _ 0]at hown9
   obtain⟨q1,q2⟩:=H1.out.hides (vZ hown9) (D.rG H1.out.up _ _) hgrow9
   have hh:C.hide a id true={ a with hd:=D.put a.hd id 0 }:=by unfold C.hide;rw[HS.out];rfl
   go_end0
   rw[hh]
   exact⟨rfl,q1,HW1.out.trans q2⟩
  | false =>
   have HS:=aH hs
   clear hs
   go_wp2_with (at_delete;refine wpList_delete_own _ rfl _ _ 74 9 rfl 88 (string_keyed bT) aAA pV Z.hm a.hd.length (D.zN a.hd) rfl H1.out.hid (.string id) (D.key id) rfl (jJ id (by simp only[maxLen];omega)) ?_;intro w9 hown9 hturn9)
   rw[D.zM]at hown9
   obtain⟨q1,q2⟩:=HDEL.out w1 w9 H1.out HW1.out (by rw[HS.out];rfl) ⟨_,hown9⟩ hturn9.grown
   go_end0
   exact⟨rfl,q1,q2⟩
namespace C
structure Fit (m:Nat) (a:CSt):Prop where
 sto:∀ s,a.s=some s→Fine m s
 mem:∀ x∈a.l,S.iG x.p.E=0∧x.id=S.aV x.p.E
def all (a:CSt):List ByteArray:=setB (Lr.ids a.l++match a.s with
 | some s=>s.ids
 | none=>[])
def gone (a:CSt) (id:ByteArray):Bool:=(D.find a.hd id).isSome&&!(Lr.peek a.l id).isSome
def ids (a:CSt):List ByteArray:=(all a).filter fun x=>!gone a x
def other (key id:ByteArray):Bool:=!Lib.hasPrefix (L id) (L key++[10])
def aU (l:List ByteArray) (key:ByteArray):List ByteArray:=l.filter fun x=>!other key x
theorem uQ {m:Nat} {a:CSt} (h:∀ s,a.s=some s→Fine m s) (hl:∀ x∈a.l,x.id.size≤1073741824):∀ x∈all a,x.size≤1073741824:=fun x hx=>by
 unfold all at hx
 rw[jB,List.mem_append]at hx
 rcases hx with hx | hx
 ·obtain⟨y,hy,rfl⟩:=List.mem_map.1 hx
  exact hl y hy
 ·cases hs:a.s with
  | none=>rw[hs]at hx;cases hx
  | some s =>
   rw[hs]at hx
   obtain⟨y,hy,rfl⟩:=List.mem_map.1 hx
   exact bD ((h s hs).sz y hy) (by decide)
end C
theorem lF (l:List ByteArray):(dG l).length≤l.length:=by
 unfold dG
 rw[List.length_map]
 have:=xI (l.map L)
 rwa [List.length_map]at this
theorem aJ1 (B room:Nat) (Z:CM) (a:CSt) (m:Nat) (w:World) (h:CAt B room Z a w) (hf:∀ s,a.s=some s→C.Fine m s) :
  Calls Tryz.prog 27 #[.pointer (some ⟨Z.c,0,none⟩)] w (dN w 9 1 (C.all a).length (aC (C.all a))):=by
 have HK:=aH (aF5 B Z.t Z.m room a.l w h.mem)
 have hll:=h.mem.len
 have hil:(Lr.ids a.l).length=a.l.length:=by unfold Lr.ids;rw[List.length_map]
 obtain⟨y0,y1,y2⟩:=h.cells
 have H:=aH h
 have HIL:=aH hil
 have HLL:=aH hll
 have fin:∀ (A:Option Addr) (c:Nat) (ids:List ByteArray) (u:World),ids.length≤1099511627776→setB ids=C.all a→Row u w.heap.size 9 1 A ids.length c (aC ids)→Below w.heap.size w u →
   Calls Tryz.prog 63 #[.slice A ids.length c] u (fun e u1=>e=.returned (.tuple #[])∧Calls Tryz.prog 64 #[.slice A ids.length c] u1 (dN w 9 1 (C.all a).length (aC (C.all a)))):=fun A c ids u hn he hr hb=>by
  refine (rP w.heap.size A ids.length c ids u hr hn).mono ?_
  rintro e u1 ⟨rfl,hr1,hg1⟩
  refine⟨rfl,(kT w.heap.size A ids.length c (sortB ids) u1 hr1 hn).mono ?_⟩
  rintro e u2 ⟨rfl,hr2,hg2⟩
  refine⟨A,c,by rw[← he];rfl,by rw[← he];exact hr2,(hb.grown hg1 hb.size (fun k hk=>(hr.lt k hk).1)).grown hg2 (bD hb.size hg1.size) (fun k hk=>(hr.lt k hk).1)⟩
 have FIN:=aH fin
 clear h hll hil fin
 cases hs:a.s with
 | none =>
  rw[hs]at y0
  dsimp only[Option.map]at y0
  have HE:Hid (setB (Lr.ids a.l)=C.all a):=aH (by unfold C.all;rw[hs];simp)
  have HS:=aH hs
  clear hs
  go_enter Tryz.func27,Tryz.ntmps27
  go_wp2_with fail
  refine HK.out.mono ?_
  rintro e w1 ⟨A,c,rfl,hr,hb⟩
  have HC:=aH (FIN.out A c (Lr.ids a.l) w1 (by rw[HIL.out];have:=HLL.out;omega) HE.out hr hb)
  obtain⟨z0,z1,z2⟩:=(H.out.below hb).cells
  rw[HS.out]at z0
  dsimp only[Option.map]at z0
  obtain⟨n,hn⟩:∃ n,(Lr.ids a.l).length=n:=⟨_,rfl⟩
  rw[hn]at HC ⊢
  clear hn hr hb y0 y1 y2 HK FIN
  go_wp2_with fail
  refine HC.out.mono ?_
  rintro e w2 ⟨rfl,hc2⟩
  have HC2:=aH hc2
  clear hc2 HC z0 z1 z2
  go_wp2_with fail
  refine HC2.out.mono ?_
  rintro e w3 ⟨A3,c3,rfl,hr3,hb3⟩
  have HR3:=aH hr3
  have HB3:=aH hb3
  clear hr3 hb3 HC2
  go_wp2
  go_ret
  exact⟨A3,c3,rfl,HR3.out,HB3.out⟩
 | some s =>
  rw[hs]at y0
  dsimp only[Option.map]at y0
  have HE:Hid (setB (Lr.ids a.l++s.ids)=C.all a):=aH (by unfold C.all;rw[hs])
  have HS:=aH hs
  have hfi:=hf s hs
  have hl2:=hfi.len
  have hsl:s.ids.length=s.tab.length:=by unfold S.Sto.ids;rw[List.length_map]
  have HI:=aH (fun u (hu:Below w.heap.size w u)=>yS B Z.X s u ((H.out.below hu).sto s hs) hfi.up (by omega))
  have HN:Hid ((Lr.ids a.l).length+s.ids.length≤1099511627776):=aH (by rw[HIL.out,hsl];have:=HLL.out;omega)
  clear hs hfi hl2 hsl hf
  go_enter Tryz.func27,Tryz.ntmps27
  go_wp2_with fail
  refine HK.out.mono ?_
  rintro e w1 ⟨A,c,rfl,hr,hb⟩
  have HR:=aH hr
  have HB:=aH hb
  obtain⟨z0,z1,z2⟩:=(H.out.below hb).cells
  rw[HS.out]at z0
  dsimp only[Option.map]at z0
  obtain⟨l1,hl1⟩:∃ l1,Lr.ids a.l=l1:=⟨_,rfl⟩
  rw[hl1]at HR HE HN HIL ⊢
  obtain⟨l2,hl2⟩:∃ l2,s.ids=l2:=⟨_,rfl⟩
  rw[hl2]at HI HE HN
  clear hl1 hl2 hr hb y0 y1 y2 HK
  go_wp2_with fail
  refine (HI.out w1 HB.out).mono ?_
  rintro e w2 ⟨A2,c2,rfl,hr2,hb2⟩
  have HR1:=aH (HR.out.below hb2)
  have HR2:=aH hr2.rd
  have HB2:=aH (aA HB.out.size HB.out hb2)
  clear hr2 hb2 HI z0 z1 z2 HR HB
  go_wp2_with (at_builtin;refine aKJ _ rfl _ _ rfl w.heap.size A l1.length c l1 rfl HR1.out A2 l2.length c2 l2 rfl HR2.out (bD HN.out (by decide)) HB2.out.size ?_;intro A3 c3 w3 hr3 ha3;have hb3:=ha3.below HR1.out HB2.out.size;rw[← bC]at hr3 ⊢;have HC:=aH (FIN.out A3 c3 (l1++l2) w3 (by rw[bC];exact HN.out) HE.out hr3 (HB2.out.trans hb3));generalize (l1++l2).length=n at *;clear hr3 ha3 hb3)
  refine HC.out.mono ?_
  rintro e w4 ⟨rfl,hc4⟩
  have HC2:=aH hc4
  clear hc4 HC
  go_wp2_with fail
  refine HC2.out.mono ?_
  rintro e w5 ⟨A5,c5,rfl,hr5,hb5⟩
  have HR5:=aH hr5
  have HB5:=aH hb5
  clear hr5 hb5 HC2
  go_wp2
  go_ret
  exact⟨A5,c5,rfl,HR5.out,HB5.out⟩
theorem C.all_len {B room:Nat} {Z:CM} {a:CSt} {w:World} {m:Nat} (h:CAt B room Z a w) (hf:∀ s,a.s=some s→C.Fine m s):(C.all a).length≤1099511627776:=by
 have h1:(C.all a).length≤(Lr.ids a.l++match a.s with | some s=>s.ids | none=>[]).length:=by
  unfold C.all setB
  exact bD (lF _) (by rw[lT];exact zA _)
 have h2:=h.mem.len
 have h3:(Lr.ids a.l).length=a.l.length:=by unfold Lr.ids;rw[List.length_map]
 rw[bC,h3]at h1
 cases hs:a.s with
 | none =>
  rw[hs]at h1
  simp at h1
  omega
 | some s =>
  rw[hs]at h1
  have h4:s.ids.length=s.tab.length:=by unfold S.Sto.ids;rw[List.length_map]
  have:=(hf s hs).len
  simp only[h4]at h1
  omega
theorem aI0 (B room:Nat) (Z:CM) (a:CSt) (bx:Nat) (id:ByteArray) (w:World) (h:CAt B room Z a w) (hx:w.cell? ⟨bx,0,none⟩=some (.pointer (some ⟨Z.c,0,none⟩))) (hs:id.size≤1073741824) :
  Calls Tryz.prog 44 #[.string id,.pointer (some ⟨bx,0,none⟩)] w (pR w (C.gone a id)):=by
 have hlk:=aNV h.hid id (by simp only[maxLen];omega)
 obtain⟨w0,hw0⟩:∃ w0,w.alloc (.cells #[] 88)=w0:=⟨_,rfl⟩
 have hb0:Below w.heap.size w w0:=by rw[← hw0];exact (zB _ _).alloc (zA _) _
 obtain⟨y,hy1⟩:∃ y:EP,itV (Lr.peek a.l id)=y.v:=by
  cases Lr.peek a.l id with
  | none=>exact⟨EP.nil,rfl⟩
  | some x=>exact⟨x.p,rfl⟩
 have HPK:=aH (kG B Z.t Z.m room a.l id w0 (h.below hb0).mem hs)
 unfold aDV at HPK
 rw[hy1]at HPK
 obtain⟨y0,y1,y2⟩:=h.cells
 obtain⟨v0,v1,v2⟩:=(h.below hb0).cells
 have hx0:=(hb0.cell (p:=⟨bx,0,none⟩) (cell_lt hx)).trans hx
 have HB0:=aH hb0
 obtain⟨ok,hok⟩:∃ ok,(Lr.peek a.l id).isSome=ok:=⟨_,rfl⟩
 obtain⟨gn,hgn⟩:∃ gn,(D.find a.hd id).isSome=gn:=⟨_,rfl⟩
 rw[hok]at HPK
 rw[hgn]at hlk
 have HG:Hid (C.gone a id=(gn&&!ok)):=aH (by unfold C.gone;rw[hgn,hok])
 clear hb0 hy1 hok hgn h
 go_enter Tryz.func44,Tryz.ntmps44
 go_upto_region 2 with fail
 clear hlk hx y0 y1 y2 hw0 v0 v2
 go_wp2_with fail
 refine HPK.out.mono ?_
 rintro e w1 ⟨rfl,hb1⟩
 obtain⟨w2,hw2⟩:∃ w2,w1.alloc (.cells #[.string ⟨#[]⟩,.string ⟨#[]⟩,.int .i64 0,.string ⟨#[]⟩,.int .i64 0,.slice none 0 0,.slice none 0 0,.int .i64 0,.int .i64 0] 41)=w2:=⟨_,rfl⟩
 have hb2:Below w1.heap.size w1 w2:=by rw[← hw2];exact (zB _ _).alloc (zA _) _
 have hk2:Blk w2 w1.heap.size #[.string ⟨#[]⟩,.string ⟨#[]⟩,.int .i64 0,.string ⟨#[]⟩,.int .i64 0,.slice none 0 0,.slice none 0 0,.int .i64 0,.int .i64 0] 41:=by rw[← hw2];exact Blk.new w1 _ _
 obtain⟨z0,z1,z2,z3,z4,z5,z6,z7,z8⟩:=hk2.cells9
 obtain⟨g0,g1,g2,g3,g4,g5,g6,g7,g8⟩:=hk2.free9
 have HB3:=aH (aK (aA (bD HB0.out.size hb1.size) (aA HB0.out.size HB0.out hb1) hb2) (bD HB0.out.size hb1.size) (.string y.E.k) (.string y.E.v) (.int .i64 y.E.s) (.string y.E.r) (.int .i64 y.E.m) (.slice y.A y.E.fs.length y.c) (.slice y.X y.E.body.length y.d) (.int .i64 y.E.asked) (.int .i64 y.E.got))
 unfold nine at HB3
 clear hb1 hk2 hb2 HPK HB0
 unfold EP.v kK
 cases gn with
 | true =>
  cases ok with
  | true =>
   go_wp2
   go_ret
   exact⟨by rw[HG.out];rfl,HB3.out⟩
  | false =>
   go_wp2
   go_ret
   exact⟨by rw[HG.out];rfl,HB3.out⟩
 | false =>
  go_wp2
  go_ret
  exact⟨by rw[HG.out];rfl,HB3.out⟩
theorem jW (B room:Nat) (Z:CM) (a:CSt) (m:Nat) (w:World) (h:CAt B room Z a w) (hf:∀ s,a.s=some s→C.Fine m s) :
  Calls Tryz.prog 18 #[.pointer (some ⟨Z.c,0,none⟩)] w (dN w 9 1 (C.ids a).length (aC (C.ids a))):=by
 obtain⟨w0,hw0⟩:∃ w0,w.alloc (.cells #[.pointer (some ⟨Z.c,0,none⟩)] 29)=w0:=⟨_,rfl⟩
 have hb0:Below w.heap.size w w0:=by rw[← hw0];exact (zB _ _).alloc (zA _) _
 have hx0:w0.cell? ⟨w.heap.size,0,none⟩=some (.pointer (some ⟨Z.c,0,none⟩)):=by rw[← hw0];exact (Blk.new w _ _).cells1
 have h0:=h.below hb0
 have HA:=aH (aJ1 B room Z a m w0 h0 hf)
 have HD:=aH (fun A c u (hb:Below w0.heap.size w0 u) (hr:Row u w0.heap.size 9 1 A (C.all a).length c (aC (C.all a))) =>
  uD (g:=44) (lb:=#[.pointer (some ⟨w.heap.size,0,none⟩)]) (p:=C.gone a) (ok:=fun x=>x.size≤1073741824) (I:=fun v=>Below w0.heap.size w0 v) w0.heap.size A (C.all a).length c (C.all a) u (C.all_len h hf) (C.uQ hf (fun x hx=>(h.mem.small x hx).1))
   ⟨enters_of Tryz.func44 (by kernel_rfl) rfl,fun x v hx hv=>aI0 B room Z a w.heap.size x v (h0.below hv) ((hv.cell (p:=⟨w.heap.size,0,none⟩) (cell_lt hx0)).trans hx0) hx,fun v v' hv hb'=>aA hv.size hv hb',fun v b i z hb' hv=>aJ hv (hr.lt b hb').1 i z⟩ hb hr)
 have HB0:=aH hb0
 have HE:Hid ((C.all a).filter (fun x=>!C.gone a x)=C.ids a):=aH rfl
 rw[HE.out]at HD
 obtain⟨l1,hl1⟩:∃ l1,C.all a=l1:=⟨_,rfl⟩
 obtain⟨l2,hl2⟩:∃ l2,C.ids a=l2:=⟨_,rfl⟩
 rw[hl1]at HA
 rw[hl1,hl2]at HD
 rw[hl2]
 clear hb0 h0 h hf hl1 hl2 HE
 go_enter Tryz.func18,Tryz.ntmps18
 go_wp2_with fail
 clear hw0 hx0
 refine HA.out.mono ?_
 rintro e w1 ⟨A,c,rfl,hr1,hb1⟩
 have HD1:=aH (HD.out A c w1 hb1 hr1)
 have HB1:=aH (aA HB0.out.size HB0.out hb1)
 have HOW:=aH (fun k hk=>bD HB0.out.size (hr1.lt k hk).1)
 clear HD HA hr1 hb1
 go_wp2_with fail
 refine HD1.out.mono ?_
 rintro e w2 ⟨A2,rfl,hr2,hg2⟩
 have HR2:=aH (hr2.mono HB0.out.size)
 have HB2:=aH (HB1.out.grown hg2 HB1.out.size HOW.out)
 clear HD1 hr2 hg2
 go_wp2
 go_ret
 exact⟨A2,c,rfl,HR2.out,HB2.out⟩
theorem aDQ (bx:Nat) (key id:ByteArray) (w:World) (hx:w.cell? ⟨bx,0,none⟩=some (.string key)) (hk:key.size≤1073741824) :
  Calls Tryz.prog 61 #[.string id,.pointer (some ⟨bx,0,none⟩)] w (pR w (C.other key id)):=by
 have hsz:¬ 9223372036854775807 < key.size+1:=by omega
 have HP:=aH (iF id (key++⟨#[10]⟩) w)
 have HE:Hid (Lib.hasPrefix (L id) (L (key++⟨#[10]⟩))=!C.other key id):=aH (by unfold C.other;rw[eP,Bool.not_not];rfl)
 rw[HE.out]at HP
 obtain⟨ot,hot⟩:∃ ot,C.other key id=ot:=⟨_,rfl⟩
 rw[hot]at HP ⊢
 clear HE hot
 go_enter Tryz.func61,Tryz.ntmps61
 go_wp2_with fail
 refine HP.out.mono ?_
 rintro e w1 ⟨rfl,rfl⟩
 cases ot with
 | true =>
  go_wp2
  go_ret
  exact⟨rfl,zB _ _⟩
 | false =>
  go_wp2
  go_ret
  exact⟨rfl,zB _ _⟩
theorem pM (base:Nat) (A:Option Addr) (n c:Nat) (xs:List ByteArray) (key:ByteArray) (w:World) (hn:n≤1099511627776) (hr:Row w base 9 1 A n c (aC xs)) (hk:key.size≤1073741824) (_hB:base≤w.heap.size) :
  Calls Tryz.prog 26 #[.slice A n c,.string key] w (fun e w'=>∃ A',e=.returned (.slice A' (C.aU xs key).length c)∧Row w' base 9 1 A' (C.aU xs key).length c (aC (C.aU xs key))∧w.grownBy w' (ownB A c)):=by
 obtain⟨w0,hw0⟩:∃ w0,w.alloc (.cells #[.string key] 9)=w0:=⟨_,rfl⟩
 have hb0:Below w.heap.size w w0:=by rw[← hw0];exact (zB _ _).alloc (zA _) _
 have hx0:w0.cell? ⟨w.heap.size,0,none⟩=some (.string key):=by rw[← hw0];exact (Blk.new w _ _).cells1
 have hr0:=hr.below hb0
 have HD:=aH (uD (g:=61) (lb:=#[.pointer (some ⟨w.heap.size,0,none⟩)]) (p:=C.other key) (ok:=fun _=>True) (I:=fun v=>v.cell? ⟨w.heap.size,0,none⟩=some (.string key)) base A n c xs w0 hn (fun _ _=>trivial)
   ⟨enters_of Tryz.func61 (by kernel_rfl) rfl,fun x v _ hv=>aDQ w.heap.size key x v hv hk,fun v v' hv hb'=>(hb'.cell (p:=⟨w.heap.size,0,none⟩) (cell_lt hv)).trans hv,fun v b i z hb' hv=>(World.cell?_setCell_other _ _ _ _ (fun e=>by
    have h1:=(hr.lt b hb').2
    have h2:b=w.heap.size:=congrArg Addr.block e
    omega)).trans hv⟩ hx0 hr0)
 have HG0:Hid (w.grownBy w0 (ownB A c)):=aH ⟨hb0.os,hb0.tape,hb0.output,hb0.size,fun k hk _=>hb0.block k hk⟩
 have HE:Hid (xs.filter (fun x=>!C.other key x)=C.aU xs key):=aH rfl
 rw[HE.out]at HD
 obtain⟨l2,hl2⟩:∃ l2,C.aU xs key=l2:=⟨_,rfl⟩
 rw[hl2]at HD ⊢
 clear hb0 hx0 hr0 hr hl2 HE
 go_enter Tryz.func26,Tryz.ntmps26
 go_wp2_with fail
 clear hw0
 refine HD.out.mono ?_
 rintro e w1 ⟨A2,rfl,hr2,hg2⟩
 have HR2:=aH hr2
 have HG2:=aH (HG0.out.trans hg2)
 clear HD hr2 hg2 HG0
 go_wp2
 go_ret
 exact⟨A2,rfl,HR2.out,HG2.out⟩
theorem CAt.entry9 {B room b:Nat} {Z:CM} {a:CSt} {w:World} {cs:Array Value} (h:CAt B room Z a w) (hk:Blk w b cs 41) (y0 y1 y2 y3 y4 y5 y6 y7 y8:Value):CAt B room Z a (nine w b y0 y1 y2 y3 y4 y5 y6 y7 y8) :=
 h.beside (dW (F:=fun k=>k=b) rfl y0 y1 y2 y3 y4 y5 y6 y7 y8) (fun k e=>by
  subst e
  refine⟨aOK hk.tag ⟨by decide,by decide,by decide⟩,?_,hk.tag.ne h.blk.tag (by decide),fun x hx j hj=>?_⟩
  ·rintro (hf | rfl | ⟨s,hs,hf⟩)
   ·exact h.mem.off hk.tag (by decide) (by decide) hf
   ·exact hk.tag.map (aF h.hid) rfl
   ·exact (h.sto s hs).off hk.tag ⟨by decide,by decide,by decide,by decide⟩ ⟨by decide,by decide,by decide⟩ hf
  ·rcases hj with hj | hj
   ·exact ((h.mem.own x hx).1.tag hj).ne hk.tag (by decide)
   ·exact ((h.mem.own x hx).2.tag hj).ne hk.tag (by decide))
def aDW (sp:Option Addr) (room:Int) (w:World) (e:Ending) (w':World):Prop :=
 ∃ c t m hm,e=.returned (.pointer (some ⟨c,0,none⟩))∧fG w.heap.size t m (Lr.roomOf room) [] w'∧w'.ownsMap Tryz.prog 9 pV hm 0 (.map [])∧Blk w' c #[.pointer sp,.pointer (some ⟨t,0,none⟩),.map (some hm)] 76∧hm≠m∧w.heap.size≤c∧w.heap.size≤hm∧Below w.heap.size w w'
theorem pJ (sp:Option Addr) (room:Int) (w:World) :
  Calls Tryz.prog 22 #[.pointer sp,.int .i64 room] w (aDW sp room w):=by
 have HN:=aH (aIM room w)
 have hmm:=@run_makeMap Tryz.prog
 go_enter Tryz.func22,Tryz.ntmps22
 go_wp2_with fail
 refine HN.out.mono ?_
 rintro e w1 ⟨t,m,rfl,hl1,hb1⟩
 obtain⟨w2,hw2⟩:∃ w2,w1.alloc (.map #[] 0)=w2:=⟨_,rfl⟩
 have hm2:w2.ownsMap Tryz.prog 9 pV w1.heap.size 0 (.map []):=by rw[← hw2];exact World.ownsMap_made w1 Tryz.prog 9 pV
 have hb2:Below w1.heap.size w1 w2:=by rw[← hw2];exact (zB _ _).alloc (zA _) _
 obtain⟨w3,hw3⟩:∃ w3,w2.alloc (.cells #[.pointer sp,.pointer (some ⟨t,0,none⟩),.map (some w1.heap.size)] 76)=w3:=⟨_,rfl⟩
 have hk3:=Blk.new w2 #[.pointer sp,.pointer (some ⟨t,0,none⟩),.map (some w1.heap.size)] 76
 have hb3:Below w2.heap.size w2 w3:=by rw[← hw3];exact (zB _ _).alloc (zA _) _
 rw[hw3]at hk3
 have HK3:=aH hk3
 have HM3:=aH (hm2.kept (show w2.grownBy w3 none from⟨hb3.os,hb3.tape,hb3.output,hb3.size,fun k hk _=>hb3.block k hk⟩) (by simp))
 have HL3:=aH ((hl1.below hb2).below hb3)
 have HB3:=aH (aA (bD hb1.size hb2.size) (aA hb1.size hb1 hb2) hb3)
 have HLT:=aH (hl1.lt (.inr (.inl rfl)))
 have HS1:=aH hb1.size
 have HS2:=aH hb2.size
 clear hl1 hb1 hm2 hb2 hk3 hb3 HN
 go_wp2
 go_ret
 exact⟨w2.heap.size,t,m,w1.heap.size,by simp,HL3.out,HM3.out,HK3.out,by have:=HLT.out;omega,by have:=HS1.out;have:=HS2.out;omega,HS1.out,HB3.out⟩
end Go.Proofs.YthjeglnkgdpijaaGreatDoor
namespace Go.Proofs.YthjeglnkgdpijaaGreatDoor
namespace R
theorem oJ {r:Rc} (h:code r=0):(r.op=1∨r.op=2)∧0≤r.seq∧r.seq≤4294967295∧0≤r.no∧r.no≤4294967295∧r.id.size≤4096:=by
 unfold code at h
 split at h
 ·rename_i h1
  split at h
  ·rename_i h2
   unfold word at h1
   simp only[Bool.and_eq_true,Bool.or_eq_true,decide_eq_true_eq]at h1
   exact⟨h1.1.1,h1.1.2.1,h1.1.2.2,h1.2.1,h1.2.2,h2⟩
  ·cases h
 ·cases h
theorem zS {seq op no:Int} {id:ByteArray} (h1:op=1∨op=2) (h2:0≤seq∧seq≤4294967295) (h3:0≤no∧no≤4294967295) (h4:id.size≤4096):code ⟨seq,op,no,id⟩=0:=by
 rw[aJS h1 (decide_eq_true h2) (decide_eq_true h3),if_pos h4]
def encs (rs:List Rc):List UInt8:=rs.flatMap enc
def aQV:Nat→List Rc→Prop
 | _,[]=>True
 | k,r::t=>r.seq=k∧aQV (k+1) t
structure Good (rs:List Rc):Prop where
 code:∀ r∈rs,R.code r=0
 seq:aQV 0 rs
theorem rU:∀ {rs:List Rc} {k:Nat} {r:Rc},aQV k rs→r.seq=((k+rs.length:Nat):Int)→aQV k (rs++[r])
 | [],k,r,_,h=>⟨by simpa using h,trivial⟩
 | x::t,k,r,h,hr=>⟨h.1,rU h.2 (by rw[hr,List.length_cons];congr 1;omega)⟩
theorem aEN:∀ (rs:List Rc),(∀ r∈rs,code r=0)→rs.length≤(encs rs).length∧(encs rs).length≤4111 * rs.length
 | [],_=>⟨zA _,zA _⟩
 | r::t,h=>by
  obtain⟨h1,h2⟩:=aEN t (fun x hx=>h x (List.mem_cons_of_mem _ hx))
  have h3:=zG r (h r (by simp))
  have h4:=(oJ (h r (by simp))).2.2.2.2.2
  unfold encs at *
  rw[List.flatMap_cons,bC,List.length_cons]
  omega
def iT:Nat→List Rc→List Rc
 | _,[]=>[]
 | k,r::t=>{ r with seq:=k }::iT (k+1) t
theorem sD:∀ (k:Nat) (l:List Rc),(iT k l).length=l.length
 | _,[]=>rfl
 | k,_::t=>congrArg (·+1) (sD (k+1) t)
theorem aAW:∀ (k:Nat) (l:List Rc),aQV k (iT k l)
 | _,[]=>trivial
 | k,_::t=>⟨rfl,aAW (k+1) t⟩
theorem wK:∀ (l:List Rc) (k:Nat),(∀ r∈l,r.seq=0∧code r=0)→k+l.length≤4294967295→∀ r∈iT k l,code r=0
 | [],_,_,_,r,hr=>by cases hr
 | x::t,k,h,hk,r,hr=>by
  simp only[List.length_cons]at hk
  rcases List.mem_cons.1 hr with rfl | hr
  ·obtain⟨h1,h2,h3,h4,h5,h6⟩:=oJ (h x (by simp)).2
   exact zS h1 (by omega) ⟨h4,h5⟩ h6
  ·exact wK t (k+1) (fun y hy=>h y (List.mem_cons_of_mem _ hy)) (by omega) r hr
theorem pF:∀ (l:List Rc) (k:Nat) (b:List UInt8),(∀ r∈iT k l,code r=0)→bH l k b=(b++encs (iT k l),0)
 | [],_,b,_=>by simp [bH,encs,iT]
 | r::t,k,b,h=>by
  have h0:code { r with seq:=(k:Int) }=0:=h _ (by simp [iT])
  rw[bH,h0,if_neg (by decide),pF t (k+1) _ (fun x hx=>h x (by rw[iT];exact List.mem_cons_of_mem _ hx)),iT]
  unfold encs
  rw[List.flatMap_cons,List.append_assoc]
end R
namespace S
def aCH (t:D.NM) (r:R.Rc):D.NM:=if r.op=1 then D.put t r.id r.no.toNat else D.del t r.id
theorem wE (rs:List R.Rc) (r:R.Rc):aHS (rs++[r])=aCH (aHS rs) r:=by
 unfold aHS
 rw[List.foldl_append]
 rfl
theorem aLC:∀ {l:D.NM} {nm:ByteArray} {no:Nat},(∀ p∈l,D.ltB p.1 nm=true)→D.put l nm no=l++[(nm,no)]:=by
 intro l nm no h
 have e1:D.del l nm=l:=by
  unfold D.del
  rw[List.filter_eq_self]
  intro p hp
  have:=h p hp
  simp only[decide_eq_true_eq]
  intro e
  rw[e,D.lt_irrefl]at this
  cases this
 unfold D.put
 rw[e1]
 clear e1
 induction l with
 | nil=>rfl
 | cons p r ih =>
  have h1:=h p (by simp)
  rw[D.ins,if_neg,ih (fun q hq=>h q (List.mem_cons_of_mem _ hq))]
  ·rfl
  ·intro h2
   have:=D.lt_trans h1 h2
   rw[D.lt_irrefl]at this
   cases this
theorem aD6:∀ (t acc:D.NM) (k:Nat),D.Up (acc++t)→(R.iT k (records t)).foldl aCH acc=acc++t
 | [],acc,k,_=>by simp [records,R.iT]
 | p::r,acc,k,h=>by
  have h1:=List.pairwise_append.1 h
  have e:aCH acc { (⟨0,1,p.2,p.1⟩:R.Rc) with seq:=(k:Int) }=acc++[p]:=by
   unfold aCH
   rw[if_pos rfl]
   show D.put acc p.1 ((p.2:Int)).toNat=_
   rw[aLC (fun q hq=>h1.2.2 q hq p (by simp)),Int.toNat_natCast]
  show (R.iT (k+1) (records r)).foldl aCH (aCH acc _)=_
  rw[e,aD6 r (acc++[p]) (k+1) (by rw[List.append_assoc];exact h)]
  simp
theorem aCJ {t:D.NM} (h:D.Up t):aHS (R.iT 0 (records t))=t:=by
 have:=aD6 t [] 0 h
 rw[List.nil_append]at this
 exact this
theorem aAX {t:D.NM} (ht:∀ p∈t,p.2 < 4096∧p.1.size≤4096) (hl:t.length≤4294967295):R.Good (R.iT 0 (records t)):=by
 refine⟨R.wK _ 0 ?_ ?_,R.aAW _ _⟩
 ·intro r hr
  obtain⟨p,hp,rfl⟩:=List.mem_map.1 hr
  have:=ht p hp
  exact⟨rfl,R.zS (.inl rfl) (by decide) (by omega) this.2⟩
 ·unfold records
  rw[List.length_map]
  omega
end S
open Go Go.RowKit
theorem aGV (vs:List ByteArray) (k:Nat) (h:k < vs.length):(vs.take (k+1)).flatMap F.list=(vs.take k).flatMap F.list++F.list (vs[k]'h):=by
 rw[bI h,List.flatMap_append]
 simp
theorem zK (vs:List ByteArray) (k:Nat):((vs.take k).flatMap F.list).length≤(vs.flatMap F.list).length:=by
 conv=>rhs;rw[← List.take_append_drop k vs,List.flatMap_append,bC]
 omega
theorem aLW (names:List ByteArray) (ask:List FD) (k:Nat) (h:k < names.length):V.key (names.take (k+1)) ask=V.key (names.take k) ask++V.line ask (names[k]'h):=by
 unfold V.key
 rw[bI h,List.flatMap_append]
 simp
theorem aDB (names:List ByteArray) (ask:List FD) (k:Nat):(V.key (names.take k) ask).length≤(V.key names ask).length:=by
 unfold V.key
 conv=>rhs;rw[← List.take_append_drop k names,List.flatMap_append,bC]
 omega
theorem aOT (X Y:Option Addr) (nn cn ny cy:Nat) (names:List ByteArray) (ask:List FD) (w:World) (hx:Rd w X nn 1 (aC names)) (hy:Rd w Y ny 2 (aI ask)) (hnn:nn≤1099511627776) (hny:ny≤1099511627776) (hly:ask.length=ny) (hf:pU ask)
  (hns:∀ x∈names,x.size≤1099511627776) (hel:∀ x∈names,(V.elems ask x).length≤1099511627776) (hkl:(V.key names ask).length≤70368744177664) :
  Calls Tryz.prog 40 #[.slice X nn cn,.slice Y ny cy] w (aDU w (B (V.key names ask))):=by
 have hlx:names.length=nn:=by
  have:=hx.1
  unfold aC at this
  rw[List.length_map]at this
  omega
 have HX:=aH hx
 have HY:=aH hy
 have HLX:=aH hlx
 have HNS:=aH hns
 have HEL:=aH hel
 have HKL:=aH hkl
 have HF:=aH hf
 have HLY:=aH hly
 clear hx hy hlx hns hel hkl hf hly
 have h0:Bld w w.heap.size [] (w.alloc (.cells #[.pointer none,.slice none 0 0] 140)) :=
  ⟨.inl ⟨zA _,_,heap_alloc_new w _,World.ownsRow_nil _ _ _ _,by simp [Value.ownBlock]⟩,(zB _ _).alloc (zA _) _,by simp⟩
 have H0:=aH h0
 clear h0
 go_enter Tryz.func40,Tryz.ntmps40
 go_wp2
 go_loopw [7,8,9,11,14,26] (fun _ _ _ _ i _ wr=>∃ k:Nat,k≤nn∧i=.int .i64 k∧Bld w w.heap.size (V.key (names.take k) ask) wr) (fun _ _ _ _ i _ _=>nn - (intOf i).toNat)
 case atStart=>exact⟨0,zF _,rfl,H0.out⟩
 case round =>
  obtain⟨k,hk,rfl,hbl⟩:=hrel
  have HBL:=aH hbl
  clear hbl
  obtain⟨wo,rfl⟩:∃ wo:World,wo=wr:=⟨_,rfl⟩
  by_cases hlt:k < nn
  ·have hkl:k < names.length:=by rw[HLX.out];exact hlt
   obtain⟨b,o,rfl,hb,c1⟩:=(HX.out.below HBL.out.2.1).str hlt HLX.out
   have hxm:=List.getElem_mem hkl
   have HKS:=aH (aLW names ask k hkl)
   have HKT:=aH (aDB names ask (k+1))
   have hs:=HNS.out _ hxm
   have HE:=aH (HEL.out _ hxm)
   obtain⟨x,hxk⟩:∃ x,names[k]'hkl=x:=⟨_,rfl⟩
   rw[hxk]at c1 hs HE HKS
   clear hxm hxk hb
   have HSX:=aH hs
   have HFO:=aH (qP x wo hs)
   go_wp2_with fail
   refine HFO.out.mono ?_
   rintro e w1 ⟨rfl,hb1⟩
   have HB1:=aH (HBL.out.below hb1)
   clear hb1 HFO c1
   obtain⟨kp,hkp⟩:∃ kp,V.key (names.take k) ask=kp:=⟨_,rfl⟩
   obtain⟨fo,hfo⟩:∃ fo,T.fold (L x)=fo:=⟨_,rfl⟩
   obtain⟨vs,hvs⟩:∃ vs,F.values ask x=vs:=⟨_,rfl⟩
   obtain⟨es,hes⟩:∃ es,vs.flatMap F.list=es:=⟨_,rfl⟩
   obtain⟨tl,htl⟩:∃ tl:List UInt8,(if vs=[] then [] else 58::Lib.join (es.map L) [44])=tl:=⟨_,rfl⟩
   have hli:V.line ask x=fo++(tl++[10]):=by
    unfold V.line V.elems
    rw[hfo,hvs,hes,htl]
   have hle:es.length≤1099511627776:=by
    have:=HE.out
    unfold V.elems at this
    rwa [hvs,hes]at this
   have hsum:kp.length+(fo.length+(tl.length+1))≤70368744177664:=by
    have h1:=HKT.out
    have h2:=HKL.out
    rw[HKS.out,hkp,hli,bC,bC,bC]at h1
    simp only[List.length_singleton]at h1
    omega
   rw[hkp,hli]at HKS
   rw[hkp]at HB1
   rw[hfo]
   have HTL:=aH htl
   have HES:=aH hes
   have HLE:=aH hle
   have HSUM:=aH hsum
   have HVS:=aH (oU (name:=x) HF.out)
   have HVA:=aH (fun u (hu:Bld w w.heap.size (kp++L (B fo)) u)=>vV Y ny cy ask x u hny HLY.out HF.out HSX.out (HY.out.below hu.2.1))
   have HVL:=aH (F.zZ ask x)
   rw[hvs]at HVS HVA HVL
   have HW1:=aH (HB1.out.str (B fo) (by rw[aQ,L_B];omega))
   clear hkp hfo hvs hes htl hli hle hsum HKT HE HB1 hs HBL
   go_wp2_with fail
   refine HW1.out.mono ?_
   rintro e w2 ⟨rfl,hb2⟩
   have HB2:=aH hb2
   clear hb2 HW1
   go_wp2_with fail
   refine (HVA.out w2 HB2.out).mono ?_
   rintro e w3 ⟨E,ce,rfl,hE,hb3⟩
   have HB3:=aH (HB2.out.below hb3)
   have HRE:=aH hE.rd
   obtain⟨nv,hnv⟩:∃ nv,vs.length=nv:=⟨_,rfl⟩
   rw[hnv]at HRE HVL ⊢
   have HNV:=aH hnv
   have hnv2:nv≤1099511627776:=by
    have:=HVL.out
    have:=HLY.out
    omega
   clear hE hb3 HB2 HVA hnv
   go_wp2_with fail
   go_loopw [8,11,26] (fun o _ i wi=>∃ (j m:Nat) (A:Option Addr) (c:Nat),j≤nv∧i=.int .i64 j∧o=.slice A m c∧m=((vs.take j).flatMap F.list).length∧Row wi w3.heap.size 9 1 A m c (aC ((vs.take j).flatMap F.list))∧Below w3.heap.size w3 wi) (fun _ _ i _=>nv - (intOf i).toNat)
   case atStart=>exact⟨0,0,none,0,zF _,rfl,rfl,rfl,Row.none_ _ _ _ _,zB _ _⟩
   case round =>
    obtain⟨j,m,A,c,hj,rfl,rfl,hm,hrow,hbe⟩:=hrel
    have HM:=aH hm
    have HROW:=aH hrow
    have HBE:=aH hbe
    clear hm hrow hbe
    by_cases hlt2:j < nv
    ·have hjl:j < vs.length:=by rw[HNV.out];exact hlt2
     obtain⟨b2,o2,rfl,hbb2,c2⟩:=(HRE.out.below HBE.out).str hlt2 HNV.out
     have hsv:=HVS.out _ (List.getElem_mem hjl)
     have hsn:=aGV vs j hjl
     have hel:=zK vs (j+1)
     obtain⟨y,hyv⟩:∃ y,vs[j]'hjl=y:=⟨_,rfl⟩
     rw[hyv]at c2 hsv hsn
     rw[hsn,bC,HES.out]at hel
     have hml:m+(F.list y).length≤4398046511104:=by
      have:=HLE.out
      have:=HM.out
      omega
     have HSN:=aH hsn
     have HLI:=aH (fun u=>aEM y u hsv)
     clear hsn hel hyv hsv hbb2
     go_wp2_with fail
     refine (HLI.out _).mono ?_
     rintro e w4 ⟨G,cg,rfl,hG,hb4⟩
     have HG:=aH hG.rd
     have HR4:=aH (HROW.out.below hb4)
     have HB4:=aH (aA HBE.out.size HBE.out hb4)
     have HZ4:Hid (w3.heap.size≤w4.heap.size):=aH HB4.out.size
     clear hG hb4 HLI HROW HBE c2
     go_wp2_with (at_builtin;refine aKJ _ rfl (.tmp 30) (.tmp 32) rfl w3.heap.size A m c _ rfl HR4.out _ _ _ _ rfl HG.out hml HZ4.out ?_;intro A5 c5 w5 hr5 ha5;rw[← HSN.out]at hr5;have HR5:=aH hr5;have HB5:=aH (HB4.out.trans (ha5.below HR4.out HZ4.out));clear hr5 ha5)
     go_roundw
     case rel=>exact⟨j+1,m+(F.list y).length,A5,c5,by omega,by go_num,rfl,by rw[HSN.out,bC,HM.out],HR5.out,HB5.out⟩
     case measure=>simp [intOf];omega
    ·have hjn:j=nv:=by omega
     have ht:vs.take j=vs:=List.take_of_length_le (by have:=HNV.out;omega)
     rw[ht,HES.out]at HM HROW
     have HB4:=aH (HB3.out.below HBE.out)
     clear ht HB3
     by_cases hv:vs=[]
     ·have hn0:nv=0:=by rw[← HNV.out,hv];rfl
      have htn:tl=[]:=by rw[← HTL.out,if_pos hv]
      subst hn0
      subst htn
      have HBY:=aH (HB4.out.byte 10 (by rw[bC,L_B];have:=HSUM.out;simp only[List.length_nil]at this;omega))
      clear hv
      go_wp2_with fail
      refine HBY.out.mono ?_
      rintro e w5 ⟨rfl,hb5⟩
      rw[L_B,List.append_assoc,show fo++[10]=fo++([]++[10]) from rfl,← HKS.out]at hb5
      have HB5:=aH hb5
      clear hb5 HBY HB4
      go_wp2_with fail
      go_roundw
      case rel=>exact⟨k+1,by omega,by go_num,HB5.out⟩
      case measure=>simp [intOf];omega
     ·have hn0:0 < nv:=by
       rw[← HNV.out]
       exact List.length_pos_iff.2 hv
      have htn:tl=58::Lib.join (es.map L) [44]:=by rw[← HTL.out,if_neg hv]
      obtain⟨jn,hjn⟩:∃ jn,Lib.join (es.map L) [44]=jn:=⟨_,rfl⟩
      rw[hjn]at htn
      subst htn
      have hsu:kp.length+fo.length+(jn.length+2)≤70368744177664:=by
       have:=HSUM.out
       simp only[List.length_cons]at this
       omega
      have HSU:=aH hsu
      have HJN:=aH hjn
      have HJ:=aH (fun u (hu:Below wr.heap.size wr u)=>aDC A m c es ⟨#[44]⟩ u ((HROW.out.below hu).rd) (by rw[HM.out];exact HLE.out) HROW.out.cap.1 (by show (Lib.join (es.map L) [44]).length≤_;rw[HJN.out];omega))
      rw[show L (⟨#[44]⟩:ByteArray)=[44] from rfl,hjn]at HJ
      obtain⟨jb,hjb⟩:∃ jb,B jn=jb:=⟨_,rfl⟩
      have hjs:jb.size=jn.length:=by rw[← hjb,aQ,L_B]
      have hLj:L jb=jn:=by rw[← hjb];rfl
      rw[hjb]at HJ
      have hc1:¬ 9223372036854775807 < (⟨#[58]⟩:ByteArray).size+jb.size:=by rw[show (⟨#[58]⟩:ByteArray).size=1 from rfl];omega
      have hc2:¬ 9223372036854775807 < 1+jb.size:=by omega
      have HLJ:=aH hLj
      have HJS:=aH hjs
      clear hjb hLj hjs
      have hn1:¬ nv=0:=by omega
      have hn2:(nv:Int) > 0:=by omega
      clear hv hjn
      go_wp2_with fail
      refine (HJ.out _ (zB _ _)).mono ?_
      rintro e w5 ⟨rfl,hb5⟩
      have HB5:=aH (HB4.out.below hb5)
      have HWS:=aH (HB5.out.str (⟨#[58]⟩++jb) (by rw[aQ,eP,L_B,bC,bC,HLJ.out];have:=HSU.out;simp only[show L (⟨#[58]⟩:ByteArray)=[58] from rfl,List.length_singleton];omega))
      clear hb5 HJ HB4
      go_wp2_with fail
      refine HWS.out.mono ?_
      rintro e w6 ⟨rfl,hb6⟩
      rw[eP,L_B,HLJ.out,show L (⟨#[58]⟩:ByteArray)=[58] from rfl]at hb6
      have HBY:=aH (hb6.byte 10 (by rw[bC,bC,bC];have:=HSU.out;simp only[List.length_singleton];omega))
      clear hb6 HWS HB5
      go_wp2_with fail
      refine HBY.out.mono ?_
      rintro e w7 ⟨rfl,hb7⟩
      have e7:kp++fo++([58]++jn)++[10]=kp++(fo++(58::jn++[10])):=by simp
      rw[e7,← HKS.out]at hb7
      have HB7:=aH hb7
      clear hb7 HBY e7
      go_wp2_with fail
      go_roundw
      case rel=>exact⟨k+1,by omega,by go_num,HB7.out⟩
      case measure=>simp [intOf];omega
  ·have ht:names.take k=names:=List.take_of_length_le (by have:=HLX.out;omega)
   rw[ht]at HBL
   have HS:=aH HBL.out.string
   clear ht HBL
   go_wp2_with fail
   refine HS.out.mono ?_
   rintro e w1 ⟨rfl,hb1⟩
   have HB1:=aH hb1
   clear hb1 HS
   go_wp2
   go_ret
   exact⟨rfl,HB1.out⟩
end Go.Proofs.YthjeglnkgdpijaaGreatDoor
