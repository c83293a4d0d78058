/- The walks of cache's all, Ids, begin and New. A store over a disk that may fail in any way: what it gives is what was put last, or nothing. Conditions: as each theorem states them. -/
import Derived.Test.YthjeglnkgdpijaaGreatDoorZ18
set_option maxHeartbeats 2000000
set_option maxRecDepth 100000
namespace Go.Proofs.YthjeglnkgdpijaaGreatDoor
open Go Go.RowKit Go.Maps
namespace C
structure Fit (m:Nat) (a:CSt):Prop where
 sto:∀ s,a.s=some s→Fine m s
 mem:∀ x∈a.l,S.gU x.p.E=0∧x.id=S.aU x.p.E
def all (a:CSt):List ByteArray:=setB (Lr.ids a.l++match a.s with
 | some s=>s.ids
 | none=>[])
def gone (a:CSt) (id:ByteArray):Bool:=(D.find a.hd id).isSome&&!(Lr.peek a.l id).isSome
def ids (a:CSt):List ByteArray:=(all a).filter fun x=>!gone a x
def other (key id:ByteArray):Bool:=!Lib.hasPrefix (L id) (L key++[10])
def aV (l:List ByteArray) (key:ByteArray):List ByteArray:=l.filter fun x=>!other key x
theorem vP {m:Nat} {a:CSt} (h:∀ s,a.s=some s→Fine m s) (hl:∀ x∈a.l,x.id.size≤1073741824):∀ x∈all a,x.size≤1073741824:=fun x hx=>by
 unfold all at hx
 rw[iD,List.mem_append]at hx
 rcases hx with hx | hx
 ·obtain⟨y,hy,rfl⟩:=List.mem_map.1 hx
  exact hl y hy
 ·cases hs:a.s with
  | none=>rw[hs]at hx;cases hx
  | some s =>
   rw[hs]at hx
   obtain⟨y,hy,rfl⟩:=List.mem_map.1 hx
   exact bD ((h s hs).sz y hy) (by decide)
end C
theorem uZ (l:List ByteArray):(dK l).length≤l.length:=by
 unfold dK
 rw[List.length_map]
 have:=yI (l.map L)
 rwa [List.length_map]at this
theorem aK1 (B room:Nat) (Z:CM) (a:CSt) (m:Nat) (w:World) (h:CAt B room Z a w) (hf:∀ s,a.s=some s→C.Fine m s) :
  Calls Tryz.prog 27 #[.pointer (some ⟨Z.c,0,none⟩)] w (eP w 9 1 (C.all a).length (aF (C.all a))):=by
 have HK:=aH (aG4 B Z.t Z.m room a.l w h.mem)
 have hll:=h.mem.len
 have hil:(Lr.ids a.l).length=a.l.length:=by unfold Lr.ids;rw[List.length_map]
 obtain⟨y0,y1,y2⟩:=h.cells
 have H:=aH h
 have HIL:=aH hil
 have HLL:=aH hll
 have fin:∀ (A:Option Addr) (c:Nat) (ids:List ByteArray) (u:World),ids.length≤1099511627776→setB ids=C.all a→Row u w.heap.size 9 1 A ids.length c (aF ids)→Below w.heap.size w u →
   Calls Tryz.prog 63 #[.slice A ids.length c] u (fun e u1=>e=.returned (.tuple #[])∧Calls Tryz.prog 64 #[.slice A ids.length c] u1 (eP w 9 1 (C.all a).length (aF (C.all a)))):=fun A c ids u hn he hr hb=>by
  refine (sS w.heap.size A ids.length c ids u hr hn).mono ?_
  rintro e u1 ⟨rfl,hr1,hg1⟩
  refine⟨rfl,(lK w.heap.size A ids.length c (sortB ids) u1 hr1 hn).mono ?_⟩
  rintro e u2 ⟨rfl,hr2,hg2⟩
  refine⟨A,c,by rw[← he];rfl,by rw[← he];exact hr2,(hb.grown hg1 hb.size (fun k hk=>(hr.lt k hk).1)).grown hg2 (bD hb.size hg1.size) (fun k hk=>(hr.lt k hk).1)⟩
 have FIN:=aH fin
 clear h hll hil fin
 cases hs:a.s with
 | none =>
  rw[hs]at y0
  dsimp only[Option.map]at y0
  have HE:Hid (setB (Lr.ids a.l)=C.all a):=aH (by unfold C.all;rw[hs];simp)
  have HS:=aH hs
  clear hs
  go_enter Tryz.func27,Tryz.ntmps27
  go_wp2_with fail
  refine HK.out.mono ?_
  rintro e w1 ⟨A,c,rfl,hr,hb⟩
  have HC:=aH (FIN.out A c (Lr.ids a.l) w1 (by rw[HIL.out];have:=HLL.out;omega) HE.out hr hb)
  obtain⟨z0,z1,z2⟩:=(H.out.below hb).cells
  rw[HS.out]at z0
  dsimp only[Option.map]at z0
  obtain⟨n,hn⟩:∃ n,(Lr.ids a.l).length=n:=⟨_,rfl⟩
  rw[hn]at HC ⊢
  clear hn hr hb y0 y1 y2 HK FIN
  go_wp2_with fail
  refine HC.out.mono ?_
  rintro e w2 ⟨rfl,hc2⟩
  have HC2:=aH hc2
  clear hc2 HC z0 z1 z2
  go_wp2_with fail
  refine HC2.out.mono ?_
  rintro e w3 ⟨A3,c3,rfl,hr3,hb3⟩
  have HR3:=aH hr3
  have HB3:=aH hb3
  clear hr3 hb3 HC2
  go_wp2
  go_ret
  exact⟨A3,c3,rfl,HR3.out,HB3.out⟩
 | some s =>
  rw[hs]at y0
  dsimp only[Option.map]at y0
  have HE:Hid (setB (Lr.ids a.l++s.ids)=C.all a):=aH (by unfold C.all;rw[hs])
  have HS:=aH hs
  have hfi:=hf s hs
  have hl2:=hfi.len
  have hsl:s.ids.length=s.tab.length:=by unfold S.Sto.ids;rw[List.length_map]
  have HI:=aH (fun u (hu:Below w.heap.size w u)=>zS B Z.X s u ((H.out.below hu).sto s hs) hfi.up (by omega))
  have HN:Hid ((Lr.ids a.l).length+s.ids.length≤1099511627776):=aH (by rw[HIL.out,hsl];have:=HLL.out;omega)
  clear hs hfi hl2 hsl hf
  go_enter Tryz.func27,Tryz.ntmps27
  go_wp2_with fail
  refine HK.out.mono ?_
  rintro e w1 ⟨A,c,rfl,hr,hb⟩
  have HR:=aH hr
  have HB:=aH hb
  obtain⟨z0,z1,z2⟩:=(H.out.below hb).cells
  rw[HS.out]at z0
  dsimp only[Option.map]at z0
  obtain⟨l1,hl1⟩:∃ l1,Lr.ids a.l=l1:=⟨_,rfl⟩
  rw[hl1]at HR HE HN HIL ⊢
  obtain⟨l2,hl2⟩:∃ l2,s.ids=l2:=⟨_,rfl⟩
  rw[hl2]at HI HE HN
  clear hl1 hl2 hr hb y0 y1 y2 HK
  go_wp2_with fail
  refine (HI.out w1 HB.out).mono ?_
  rintro e w2 ⟨A2,c2,rfl,hr2,hb2⟩
  have HR1:=aH (HR.out.below hb2)
  have HR2:=aH hr2.rd
  have HB2:=aH (aA HB.out.size HB.out hb2)
  clear hr2 hb2 HI z0 z1 z2 HR HB
  go_wp2_with (at_builtin;refine aLK _ rfl _ _ rfl w.heap.size A l1.length c l1 rfl HR1.out A2 l2.length c2 l2 rfl HR2.out (bD HN.out (by decide)) HB2.out.size ?_;intro A3 c3 w3 hr3 ha3;have hb3:=ha3.below HR1.out HB2.out.size;rw[← bC]at hr3 ⊢;have HC:=aH (FIN.out A3 c3 (l1++l2) w3 (by rw[bC];exact HN.out) HE.out hr3 (HB2.out.trans hb3));generalize (l1++l2).length=n at *;clear hr3 ha3 hb3)
  refine HC.out.mono ?_
  rintro e w4 ⟨rfl,hc4⟩
  have HC2:=aH hc4
  clear hc4 HC
  go_wp2_with fail
  refine HC2.out.mono ?_
  rintro e w5 ⟨A5,c5,rfl,hr5,hb5⟩
  have HR5:=aH hr5
  have HB5:=aH hb5
  clear hr5 hb5 HC2
  go_wp2
  go_ret
  exact⟨A5,c5,rfl,HR5.out,HB5.out⟩
theorem C.all_len {B room:Nat} {Z:CM} {a:CSt} {w:World} {m:Nat} (h:CAt B room Z a w) (hf:∀ s,a.s=some s→C.Fine m s):(C.all a).length≤1099511627776:=by
 have h1:(C.all a).length≤(Lr.ids a.l++match a.s with | some s=>s.ids | none=>[]).length:=by
  unfold C.all setB
  exact bD (uZ _) (by rw[sU];exact zA _)
 have h2:=h.mem.len
 have h3:(Lr.ids a.l).length=a.l.length:=by unfold Lr.ids;rw[List.length_map]
 rw[bC,h3]at h1
 cases hs:a.s with
 | none =>
  rw[hs]at h1
  simp at h1
  omega
 | some s =>
  rw[hs]at h1
  have h4:s.ids.length=s.tab.length:=by unfold S.Sto.ids;rw[List.length_map]
  have:=(hf s hs).len
  simp only[h4]at h1
  omega
theorem aJY (B room:Nat) (Z:CM) (a:CSt) (bx:Nat) (id:ByteArray) (w:World) (h:CAt B room Z a w) (hx:w.cell? ⟨bx,0,none⟩=some (.pointer (some ⟨Z.c,0,none⟩))) (hs:id.size≤1073741824) :
  Calls Tryz.prog 44 #[.string id,.pointer (some ⟨bx,0,none⟩)] w (qP w (C.gone a id)):=by
 have hlk:=aO5 h.hid id (by simp only[maxLen];omega)
 obtain⟨w0,hw0⟩:∃ w0,w.alloc (.cells #[] 88)=w0:=⟨_,rfl⟩
 have hb0:Below w.heap.size w w0:=by rw[← hw0];exact (zB _ _).alloc (zA _) _
 obtain⟨y,hy1⟩:∃ y:EP,itV (Lr.peek a.l id)=y.v:=by
  cases Lr.peek a.l id with
  | none=>exact⟨EP.nil,rfl⟩
  | some x=>exact⟨x.p,rfl⟩
 have HPK:=aH (kU B Z.t Z.m room a.l id w0 (h.below hb0).mem hs)
 unfold aEN at HPK
 rw[hy1]at HPK
 obtain⟨y0,y1,y2⟩:=h.cells
 obtain⟨v0,v1,v2⟩:=(h.below hb0).cells
 have hx0:=(hb0.cell (p:=⟨bx,0,none⟩) (cell_lt hx)).trans hx
 have HB0:=aH hb0
 obtain⟨ok,hok⟩:∃ ok,(Lr.peek a.l id).isSome=ok:=⟨_,rfl⟩
 obtain⟨gn,hgn⟩:∃ gn,(D.find a.hd id).isSome=gn:=⟨_,rfl⟩
 rw[hok]at HPK
 rw[hgn]at hlk
 have HG:Hid (C.gone a id=(gn&&!ok)):=aH (by unfold C.gone;rw[hgn,hok])
 clear hb0 hy1 hok hgn h
 go_enter Tryz.func44,Tryz.ntmps44
 go_upto_region 2 with fail
 clear hlk hx y0 y1 y2 hw0 v0 v2
 go_wp2_with fail
 refine HPK.out.mono ?_
 rintro e w1 ⟨rfl,hb1⟩
 obtain⟨w2,hw2⟩:∃ w2,w1.alloc (.cells #[.string ⟨#[]⟩,.string ⟨#[]⟩,.int .i64 0,.string ⟨#[]⟩,.int .i64 0,.slice none 0 0,.slice none 0 0,.int .i64 0,.int .i64 0] 41)=w2:=⟨_,rfl⟩
 have hb2:Below w1.heap.size w1 w2:=by rw[← hw2];exact (zB _ _).alloc (zA _) _
 have hk2:Blk w2 w1.heap.size #[.string ⟨#[]⟩,.string ⟨#[]⟩,.int .i64 0,.string ⟨#[]⟩,.int .i64 0,.slice none 0 0,.slice none 0 0,.int .i64 0,.int .i64 0] 41:=by rw[← hw2];exact Blk.new w1 _ _
 obtain⟨z0,z1,z2,z3,z4,z5,z6,z7,z8⟩:=hk2.cells9
 obtain⟨g0,g1,g2,g3,g4,g5,g6,g7,g8⟩:=hk2.free9
 have HB3:=aH (aN (aA (bD HB0.out.size hb1.size) (aA HB0.out.size HB0.out hb1) hb2) (bD HB0.out.size hb1.size) (.string y.E.k) (.string y.E.v) (.int .i64 y.E.s) (.string y.E.r) (.int .i64 y.E.m) (.slice y.A y.E.fs.length y.c) (.slice y.X y.E.body.length y.d) (.int .i64 y.E.asked) (.int .i64 y.E.got))
 unfold nine at HB3
 clear hb1 hk2 hb2 HPK HB0
 unfold EP.v lW
 cases gn with
 | true =>
  cases ok with
  | true =>
   go_wp2
   go_ret
   exact⟨by rw[HG.out];rfl,HB3.out⟩
  | false =>
   go_wp2
   go_ret
   exact⟨by rw[HG.out];rfl,HB3.out⟩
 | false =>
  go_wp2
  go_ret
  exact⟨by rw[HG.out];rfl,HB3.out⟩
theorem qK (B room:Nat) (Z:CM) (a:CSt) (m:Nat) (w:World) (h:CAt B room Z a w) (hf:∀ s,a.s=some s→C.Fine m s) :
  Calls Tryz.prog 18 #[.pointer (some ⟨Z.c,0,none⟩)] w (eP w 9 1 (C.ids a).length (aF (C.ids a))):=by
 obtain⟨w0,hw0⟩:∃ w0,w.alloc (.cells #[.pointer (some ⟨Z.c,0,none⟩)] 29)=w0:=⟨_,rfl⟩
 have hb0:Below w.heap.size w w0:=by rw[← hw0];exact (zB _ _).alloc (zA _) _
 have hx0:w0.cell? ⟨w.heap.size,0,none⟩=some (.pointer (some ⟨Z.c,0,none⟩)):=by rw[← hw0];exact (Blk.new w _ _).cells1
 have h0:=h.below hb0
 have HA:=aH (aK1 B room Z a m w0 h0 hf)
 have HD:=aH (fun A c u (hb:Below w0.heap.size w0 u) (hr:Row u w0.heap.size 9 1 A (C.all a).length c (aF (C.all a))) =>
  uV (g:=44) (lb:=#[.pointer (some ⟨w.heap.size,0,none⟩)]) (p:=C.gone a) (ok:=fun x=>x.size≤1073741824) (I:=fun v=>Below w0.heap.size w0 v) w0.heap.size A (C.all a).length c (C.all a) u (C.all_len h hf) (C.vP hf (fun x hx=>(h.mem.small x hx).1))
   ⟨enters_of Tryz.func44 (by kernel_rfl) rfl,fun x v hx hv=>aJY B room Z a w.heap.size x v (h0.below hv) ((hv.cell (p:=⟨w.heap.size,0,none⟩) (cell_lt hx0)).trans hx0) hx,fun v v' hv hb'=>aA hv.size hv hb',fun v b i z hb' hv=>aK hv (hr.lt b hb').1 i z⟩ hb hr)
 have HB0:=aH hb0
 have HE:Hid ((C.all a).filter (fun x=>!C.gone a x)=C.ids a):=aH rfl
 rw[HE.out]at HD
 obtain⟨l1,hl1⟩:∃ l1,C.all a=l1:=⟨_,rfl⟩
 obtain⟨l2,hl2⟩:∃ l2,C.ids a=l2:=⟨_,rfl⟩
 rw[hl1]at HA
 rw[hl1,hl2]at HD
 rw[hl2]
 clear hb0 h0 h hf hl1 hl2 HE
 go_enter Tryz.func18,Tryz.ntmps18
 go_wp2_with fail
 clear hw0 hx0
 refine HA.out.mono ?_
 rintro e w1 ⟨A,c,rfl,hr1,hb1⟩
 have HD1:=aH (HD.out A c w1 hb1 hr1)
 have HB1:=aH (aA HB0.out.size HB0.out hb1)
 have HOW:=aH (fun k hk=>bD HB0.out.size (hr1.lt k hk).1)
 clear HD HA hr1 hb1
 go_wp2_with fail
 refine HD1.out.mono ?_
 rintro e w2 ⟨A2,rfl,hr2,hg2⟩
 have HR2:=aH (hr2.mono HB0.out.size)
 have HB2:=aH (HB1.out.grown hg2 HB1.out.size HOW.out)
 clear HD1 hr2 hg2
 go_wp2
 go_ret
 exact⟨A2,c,rfl,HR2.out,HB2.out⟩
theorem aEH (bx:Nat) (key id:ByteArray) (w:World) (hx:w.cell? ⟨bx,0,none⟩=some (.string key)) (hk:key.size≤1073741824) :
  Calls Tryz.prog 61 #[.string id,.pointer (some ⟨bx,0,none⟩)] w (qP w (C.other key id)):=by
 have hsz:¬ 9223372036854775807 < key.size+1:=by omega
 have HP:=aH (iU id (key++⟨#[10]⟩) w)
 have HE:Hid (Lib.hasPrefix (L id) (L (key++⟨#[10]⟩))=!C.other key id):=aH (by unfold C.other;rw[dG,Bool.not_not];rfl)
 rw[HE.out]at HP
 obtain⟨ot,hot⟩:∃ ot,C.other key id=ot:=⟨_,rfl⟩
 rw[hot]at HP ⊢
 clear HE hot
 go_enter Tryz.func61,Tryz.ntmps61
 go_wp2_with fail
 refine HP.out.mono ?_
 rintro e w1 ⟨rfl,rfl⟩
 cases ot with
 | true =>
  go_wp2
  go_ret
  exact⟨rfl,zB _ _⟩
 | false =>
  go_wp2
  go_ret
  exact⟨rfl,zB _ _⟩
theorem qM (base:Nat) (A:Option Addr) (n c:Nat) (xs:List ByteArray) (key:ByteArray) (w:World) (hn:n≤1099511627776) (hr:Row w base 9 1 A n c (aF xs)) (hk:key.size≤1073741824) (_hB:base≤w.heap.size) :
  Calls Tryz.prog 26 #[.slice A n c,.string key] w (fun e w'=>∃ A',e=.returned (.slice A' (C.aV xs key).length c)∧Row w' base 9 1 A' (C.aV xs key).length c (aF (C.aV xs key))∧w.grownBy w' (ownB A c)):=by
 obtain⟨w0,hw0⟩:∃ w0,w.alloc (.cells #[.string key] 9)=w0:=⟨_,rfl⟩
 have hb0:Below w.heap.size w w0:=by rw[← hw0];exact (zB _ _).alloc (zA _) _
 have hx0:w0.cell? ⟨w.heap.size,0,none⟩=some (.string key):=by rw[← hw0];exact (Blk.new w _ _).cells1
 have hr0:=hr.below hb0
 have HD:=aH (uV (g:=61) (lb:=#[.pointer (some ⟨w.heap.size,0,none⟩)]) (p:=C.other key) (ok:=fun _=>True) (I:=fun v=>v.cell? ⟨w.heap.size,0,none⟩=some (.string key)) base A n c xs w0 hn (fun _ _=>trivial)
   ⟨enters_of Tryz.func61 (by kernel_rfl) rfl,fun x v _ hv=>aEH w.heap.size key x v hv hk,fun v v' hv hb'=>(hb'.cell (p:=⟨w.heap.size,0,none⟩) (cell_lt hv)).trans hv,fun v b i z hb' hv=>(World.cell?_setCell_other _ _ _ _ (fun e=>by
    have h1:=(hr.lt b hb').2
    have h2:b=w.heap.size:=congrArg Addr.block e
    omega)).trans hv⟩ hx0 hr0)
 have HG0:Hid (w.grownBy w0 (ownB A c)):=aH ⟨hb0.os,hb0.tape,hb0.output,hb0.size,fun k hk _=>hb0.block k hk⟩
 have HE:Hid (xs.filter (fun x=>!C.other key x)=C.aV xs key):=aH rfl
 rw[HE.out]at HD
 obtain⟨l2,hl2⟩:∃ l2,C.aV xs key=l2:=⟨_,rfl⟩
 rw[hl2]at HD ⊢
 clear hb0 hx0 hr0 hr hl2 HE
 go_enter Tryz.func26,Tryz.ntmps26
 go_wp2_with fail
 clear hw0
 refine HD.out.mono ?_
 rintro e w1 ⟨A2,rfl,hr2,hg2⟩
 have HR2:=aH hr2
 have HG2:=aH (HG0.out.trans hg2)
 clear HD hr2 hg2 HG0
 go_wp2
 go_ret
 exact⟨A2,rfl,HR2.out,HG2.out⟩
theorem CAt.entry9 {B room b:Nat} {Z:CM} {a:CSt} {w:World} {cs:Array Value} (h:CAt B room Z a w) (hk:Blk w b cs 41) (y0 y1 y2 y3 y4 y5 y6 y7 y8:Value):CAt B room Z a (nine w b y0 y1 y2 y3 y4 y5 y6 y7 y8) :=
 h.beside (dQ (F:=fun k=>k=b) rfl y0 y1 y2 y3 y4 y5 y6 y7 y8) (fun k e=>by
  subst e
  refine⟨aI7 hk.tag ⟨by decide,by decide,by decide⟩,?_,hk.tag.ne h.blk.tag (by decide),fun x hx j hj=>?_⟩
  ·rintro (hf | rfl | ⟨s,hs,hf⟩)
   ·exact h.mem.off hk.tag (by decide) (by decide) hf
   ·exact hk.tag.map (aC h.hid) rfl
   ·exact (h.sto s hs).off hk.tag ⟨by decide,by decide,by decide,by decide⟩ ⟨by decide,by decide,by decide⟩ hf
  ·rcases hj with hj | hj
   ·exact ((h.mem.own x hx).1.tag hj).ne hk.tag (by decide)
   ·exact ((h.mem.own x hx).2.tag hj).ne hk.tag (by decide))
def aEO (sp:Option Addr) (room:Int) (w:World) (e:Ending) (w':World):Prop :=
 ∃ c t m hm,e=.returned (.pointer (some ⟨c,0,none⟩))∧fU w.heap.size t m (Lr.roomOf room) [] w'∧w'.ownsMap Tryz.prog 9 qR hm 0 (.map [])∧Blk w' c #[.pointer sp,.pointer (some ⟨t,0,none⟩),.map (some hm)] 76∧hm≠m∧w.heap.size≤c∧w.heap.size≤hm∧Below w.heap.size w w'
theorem qJ (sp:Option Addr) (room:Int) (w:World) :
  Calls Tryz.prog 22 #[.pointer sp,.int .i64 room] w (aEO sp room w):=by
 have HN:=aH (aJK room w)
 have hmm:=@run_makeMap Tryz.prog
 go_enter Tryz.func22,Tryz.ntmps22
 go_wp2_with fail
 refine HN.out.mono ?_
 rintro e w1 ⟨t,m,rfl,hl1,hb1⟩
 obtain⟨w2,hw2⟩:∃ w2,w1.alloc (.map #[] 0)=w2:=⟨_,rfl⟩
 have hm2:w2.ownsMap Tryz.prog 9 qR w1.heap.size 0 (.map []):=by rw[← hw2];exact World.ownsMap_made w1 Tryz.prog 9 qR
 have hb2:Below w1.heap.size w1 w2:=by rw[← hw2];exact (zB _ _).alloc (zA _) _
 obtain⟨w3,hw3⟩:∃ w3,w2.alloc (.cells #[.pointer sp,.pointer (some ⟨t,0,none⟩),.map (some w1.heap.size)] 76)=w3:=⟨_,rfl⟩
 have hk3:=Blk.new w2 #[.pointer sp,.pointer (some ⟨t,0,none⟩),.map (some w1.heap.size)] 76
 have hb3:Below w2.heap.size w2 w3:=by rw[← hw3];exact (zB _ _).alloc (zA _) _
 rw[hw3]at hk3
 have HK3:=aH hk3
 have HM3:=aH (hm2.kept (show w2.grownBy w3 none from⟨hb3.os,hb3.tape,hb3.output,hb3.size,fun k hk _=>hb3.block k hk⟩) (by simp))
 have HL3:=aH ((hl1.below hb2).below hb3)
 have HB3:=aH (aA (bD hb1.size hb2.size) (aA hb1.size hb1 hb2) hb3)
 have HLT:=aH (hl1.lt (.inr (.inl rfl)))
 have HS1:=aH hb1.size
 have HS2:=aH hb2.size
 clear hl1 hb1 hm2 hb2 hk3 hb3 HN
 go_wp2
 go_ret
 exact⟨w2.heap.size,t,m,w1.heap.size,by simp,HL3.out,HM3.out,HK3.out,by have:=HLT.out;omega,by have:=HS1.out;have:=HS2.out;omega,HS1.out,HB3.out⟩
end Go.Proofs.YthjeglnkgdpijaaGreatDoor
namespace Go.Proofs.YthjeglnkgdpijaaGreatDoor
namespace D
structure Uni (d:Dsk):Prop where
 one:∀ p∈d.now,∀ q∈d.now,p.2=q.2→p=q
 inn:∀ p∈d.now,p.2 < d.data.length
def Mov (T:ByteArray→Prop) (d d':Dsk):Prop:=Uni d→Uni d'∧∀ x,¬ T x→cont d' x=cont d x
structure Turn (T:ByteArray→Prop) (d d':Dsk):Prop where
 mov:Mov T d d'
 down:d.down=true→d'=d
section
variable {T U:ByteArray→Prop} {d d' e:Dsk} {nm:ByteArray}
theorem aJF (n:Int):Mov T d { d with n:=n }:=fun u=>⟨⟨u.one,u.inn⟩,fun _ _=>rfl⟩
theorem Turn.refl (d:Dsk):Turn T d d:=⟨fun u=>⟨u,fun _ _=>rfl⟩,fun _=>rfl⟩
theorem Turn.trans (h:Turn T d d') (k:Turn T d' e):Turn T d e :=
 ⟨fun u=>⟨(k.mov (h.mov u).1).1,fun x hx=>((k.mov (h.mov u).1).2 x hx).trans ((h.mov u).2 x hx)⟩,fun hd=>by
  have h1:=h.down hd
  subst h1
  exact k.down hd⟩
theorem Turn.imp (h:Turn T d d') (hi:∀ x,T x→U x):Turn U d d':=⟨fun u=>⟨(h.mov u).1,fun x hx=>(h.mov u).2 x (fun ht=>hx (hi x ht))⟩,h.down⟩
theorem Turn.on {more:List ByteArray} {f:Dsk→Nat→Dsk × Int} (hf:∀ (s:Dsk) (no:Nat),s.now=d.now→s.data=d.data→find d.now nm=some no→Mov T d (f s no).1):Turn T d (d.on nm more f).1:=by
 refine⟨?_,fun hd=>by unfold Dsk.on Dsk.begin;rw[if_pos hd];rfl⟩
 obtain⟨n,hn⟩:=d.begin_as (more++[nm])
 unfold Dsk.on
 cases hbe:d.begin (more++[nm]) with
 | mk s1 e =>
  rw[hbe]at hn
  dsimp only at hn ⊢
  subst hn
  split
  ·exact aJF n
  ·cases hfd:find d.now nm with
   | none=>exact aJF n
   | some no=>exact hf _ no rfl rfl hfd
theorem gI (d:Dsk) (nm:ByteArray):Turn (·=nm) d (d.remove nm).1:=Turn.on fun s no h1 h2 _ u=>by
 refine⟨⟨?_,?_⟩,fun x hx=>?_⟩
 ·show ∀ p∈del s.now nm,∀ q∈del s.now nm,p.2=q.2→p=q
  rw[h1]
  exact oN u.one
 ·show ∀ p∈del s.now nm,p.2 < s.data.length
  rw[h1,h2]
  exact fun p hp=>u.inn p (aW.1 hp).1
 ·show (find (del s.now nm) x).map (fun no=>s.data.getD no [])=_
  rw[h1,h2,fO,if_neg hx]
  rfl
theorem mJ (d:Dsk) (nm:ByteArray):Turn (fun _=>False) d (d.sync nm).1:=Turn.on fun s no h1 h2 _ u=>by
 refine⟨⟨?_,?_⟩,fun x hx=>?_⟩
 ·show ∀ p∈s.now,∀ q∈s.now,p.2=q.2→p=q
  rw[h1]
  exact u.one
 ·show ∀ p∈s.now,p.2 < s.data.length
  rw[h1,h2]
  exact u.inn
 ·show (find s.now x).map (fun no=>s.data.getD no [])=_
  rw[h1,h2]
  rfl
theorem lN (d:Dsk) (nm:ByteArray) (b:List UInt8):Turn (·=nm) d (d.append nm b).1:=Turn.on fun s no h1 h2 hf u=>by
 split
 ·exact⟨⟨by rw[h1];exact u.one,by rw[h1,h2];exact u.inn⟩,fun x _=>by unfold cont;rw[h1,h2]⟩
 refine⟨⟨?_,?_⟩,fun x hx=>?_⟩
 ·show ∀ p∈s.now,∀ q∈s.now,p.2=q.2→p=q
  rw[h1]
  exact u.one
 ·show ∀ p∈s.now,p.2 < (s.data.set no _).length
  rw[h1,h2,List.length_set]
  exact u.inn
 ·show (find s.now x).map (fun m=>(s.data.set no (s.data.getD no []++b)).getD m [])=_
  unfold cont
  rw[h1,h2]
  cases hx2:find d.now x with
  | none=>rfl
  | some m =>
   have hne:no≠m:=fun e=>hx (congrArg Prod.fst (u.one _ (aI hx2) _ (aI hf) e.symm))
   simp [List.getD,List.getElem?_set,hne]
theorem aC2 (d:Dsk) (a b:ByteArray):Turn (fun x=>x=a∨x=b) d (d.rename a b).1:=Turn.on fun s no h1 h2 hf u=>by
 split
 ·exact⟨⟨by rw[h1];exact u.one,by rw[h1,h2];exact u.inn⟩,fun x _=>by unfold cont;rw[h1,h2]⟩
 refine⟨⟨?_,?_⟩,fun x hx=>?_⟩
 ·show ∀ p∈put (del s.now a) b no,∀ q∈put (del s.now a) b no,p.2=q.2→p=q
  rw[h1]
  exact lU (l:=del d.now a) (nm:=b) (no:=no) (oN u.one) (fun p hp e=>(aW.1 hp).2 (congrArg Prod.fst (u.one p (aW.1 hp).1 _ (aI hf) e)))
 ·show ∀ p∈put (del s.now a) b no,p.2 < s.data.length
  rw[h1,h2]
  intro p hp
  rcases aX.1 hp with rfl | hp
  ·exact u.inn (a,no) (aI hf)
  ·exact u.inn p (aW.1 hp.1).1
 ·show (find (put (del s.now a) b no) x).map (fun no=>s.data.getD no [])=_
  rw[h1,h2,dN,if_neg (fun e=>hx (.inr e)),fO,if_neg (fun e=>hx (.inl e))]
  rfl
theorem iJ (d:Dsk):Turn (fun _=>False) d d.syncNames.1:=by
 refine⟨?_,fun hd=>by unfold Dsk.syncNames Dsk.begin;rw[if_pos hd];rfl⟩
 obtain⟨n,hn⟩:=d.begin_as []
 unfold Dsk.syncNames
 cases hbe:d.begin [] with
 | mk s1 e =>
  rw[hbe]at hn
  dsimp only at hn ⊢
  subst hn
  split
  ·exact aJF n
  ·exact fun u=>⟨⟨u.one,u.inn⟩,fun _ _=>rfl⟩
theorem lM (d:Dsk) (nm:ByteArray):Turn (·=nm) d (d.create nm).1∧((d.create nm).2=0→cont (d.create nm).1 nm=some []):=by
 obtain⟨n,hn⟩:=d.begin_as [nm]
 have key:Mov (·=nm) d (d.create nm).1∧((d.create nm).2=0→cont (d.create nm).1 nm=some []):=by
  unfold Dsk.create
  cases hbe:d.begin [nm] with
  | mk s1 e =>
   rw[hbe]at hn
   dsimp only at hn ⊢
   subst hn
   split
   ·rename_i he
    exact⟨aJF n,fun h0=>absurd h0 he⟩
   split
   ·exact⟨aJF n,fun h0=>absurd h0 (by show ¬ (91:Int)=0;decide)⟩
   refine⟨fun u=>⟨⟨?_,?_⟩,fun x hx=>?_⟩,fun _=>?_⟩
   ·show ∀ p∈put d.now nm d.data.length,∀ q∈put d.now nm d.data.length,p.2=q.2→p=q
    exact lU u.one (fun p hp e=>Nat.lt_irrefl _ (e ▸ u.inn p hp))
   ·show ∀ p∈put d.now nm d.data.length,p.2 < (d.data++[[]]).length
    intro p hp
    rw[bC,List.length_singleton]
    rcases aX.1 hp with rfl | hp
    ·exact Nat.lt_succ_self _
    ·have:=u.inn p hp.1
     omega
   ·show (find (put d.now nm d.data.length) x).map (fun no=>(d.data++[[]]).getD no [])=(find d.now x).map (fun no=>d.data.getD no [])
    rw[dN,if_neg hx]
    cases hx2:find d.now x with
    | none=>rfl
    | some m =>
     have hm:=u.inn _ (aI hx2)
     simp only[Option.map_some,List.getD]
     rw[List.getElem?_append_left hm]
   ·show (find (put d.now nm d.data.length) nm).map (fun no=>(d.data++[[]]).getD no [])=some []
    rw[dN,if_pos rfl]
    simp [List.getD]
 exact⟨⟨key.1,fun hd=>by unfold Dsk.create Dsk.begin;rw[if_pos hd];rfl⟩,key.2⟩
theorem aEJ (u:Uni d) (b:List UInt8) {c:List UInt8} (hc:cont d nm=some c) (h0:(d.append nm b).2=0):cont (d.append nm b).1 nm=some (c++b):=by
 obtain⟨n,hn⟩:=d.begin_as ([]++[nm])
 obtain⟨no,h1,h2⟩:=dV hc
 revert h0
 unfold Dsk.append Dsk.on
 cases hbe:d.begin ([]++[nm]) with
 | mk s1 e =>
  rw[hbe]at hn
  dsimp only at hn ⊢
  subst hn
  split
  ·rename_i he
   exact fun h0=>absurd h0 he
  show ((match find d.now nm with | none=>_ | some no=>_:Dsk × Int)).2=0→cont (match find d.now nm with | none=>_ | some no=>_:Dsk × Int).1 nm=_
  rw[h1]
  dsimp only
  split
  ·exact fun h0=>absurd h0 (by show ¬ (92:Int)=0;decide)
  intro _
  show (find d.now nm).map (fun m=>(d.data.set no (d.data.getD no []++b)).getD m [])=_
  rw[h1,h2]
  have:=u.inn _ (aI h1)
  simp [List.getD,this]
end
end D
namespace S
open D (Turn Uni cont)
section
variable {T:ByteArray→Prop} {d:D.Dsk} {s s':Sto} {id:ByteArray} {F:O.Ent}
theorem oD:∀ (l:List (D.Dsk→D.Dsk × Int)) {d:D.Dsk},(∀ f∈l,∀ d,Turn T d (f d).1)→Turn T d (steps d l).1
 | [],d,_=>Turn.refl d
 | f::r,d,h=>by
  unfold steps
  split
  ·exact h f (List.mem_cons_self ..) d
  ·exact (h f (List.mem_cons_self ..) d).trans (oD r fun g hg=>h g (List.mem_cons_of_mem _ hg))
def rG (x:ByteArray):Prop:=x=bT∨x=dE
theorem aBD (d:D.Dsk) (count:Nat) (list:List R.Rc):Turn rG d (rewrite d count list).1:=by
 have hm:Turn rG d (steps d (moves (R.bH list 0 []).1)).1:=oD _ fun f hf d=>by
  unfold moves at hf
  simp only[List.mem_cons,List.not_mem_nil,or_false]at hf
  rcases hf with rfl | rfl | rfl | rfl
  ·exact (D.lM d dE).1.imp fun x e=>.inr e
  ·exact (D.lN d dE _).imp fun x e=>.inr e
  ·exact (D.mJ d dE).imp fun x e=>e.elim
  ·exact (D.aC2 d dE bT).imp fun x e=>e.elim .inr .inl
 unfold rewrite
 split
 ·exact Turn.refl d
 split
 ·exact hm.trans ((D.iJ _).imp fun x e=>e.elim)
 split
 ·exact hm
 ·exact hm.trans ((D.gI _ dE).imp fun x e=>.inr e)
theorem aF2 (d:D.Dsk) (count:Nat) (op no:Int) (id:ByteArray):Turn rG d (add d count op no id).1∧((add d count op no id).2.2=0→(add d count op no id).2.1≠count)∧(add d count op no id).2.1≤count+1:=by
 unfold add
 split
 ·rename_i h
  exact⟨Turn.refl d,fun h0=>absurd h0 h,Nat.le_succ _⟩
 have ha:=(D.lN d bT (R.enc ⟨count,op,no,id⟩)).imp (U:=rG) fun x e=>.inl e
 split
 ·rename_i h
  exact⟨ha,fun h0=>absurd h0 h,Nat.le_succ _⟩
 ·exact⟨ha.trans ((D.mJ _ bT).imp fun x e=>e.elim),fun _=>Nat.succ_ne_self _,zA _⟩
theorem aMV (d:D.Dsk) (p:ByteArray) (b:List UInt8):Turn (·=p) d (lay d p b).1∧(Uni d→(lay d p b).2.2=0→cont (lay d p b).1 p=some b):=by
 have hx:Turn (·=p) d (if has d.list p then d.remove p else (d,0)).1:=by
  split
  ·exact D.gI d p
  ·exact Turn.refl d
 unfold lay
 generalize (if has d.list p then d.remove p else (d,0):D.Dsk × Int)=x at *
 dsimp only
 split
 ·rename_i h
  exact⟨hx,fun _ h0=>absurd h0 h⟩
 obtain⟨hy,ey⟩:=D.lM x.1 p
 generalize x.1.create p=y at *
 have hy2:=hx.trans hy
 split
 ·rename_i h
  exact⟨hy2,fun _ h0=>absurd h0 h⟩
 rename_i h1
 have hz:=hy2.trans (D.lN y.1 p b)
 have ez:Uni d→(y.1.append p b).2=0→cont (y.1.append p b).1 p=some b:=fun u h0=>D.aEJ (c:=[]) (hy2.mov u).1 b (ey (by omega)) h0
 generalize y.1.append p b=z at *
 split
 ·rename_i h
  exact⟨hz,fun _ h0=>absurd h0 h⟩
 rename_i h2
 have hu:=D.mJ z.1 p
 have hu2:=hz.trans (hu.imp fun x e=>e.elim)
 have eu:Uni d→cont (z.1.sync p).1 p=some b:=fun u=>((hu.mov (hz.mov u).1).2 p id).trans (ez u (by omega))
 generalize z.1.sync p=v at *
 have hn:=D.iJ v.1
 split
 ·rename_i h
  exact⟨hu2,fun _ h0=>absurd h0 h⟩
 ·exact⟨hu2.trans (hn.imp fun x e=>e.elim),fun u _=>((hn.mov (hu2.mov u).1).2 p id).trans (eu u)⟩
theorem aFO (h:s.get id=some F):s.d.down=false∧∃ no c,D.find s.tab id=some no∧cont s.d (path no)=some c∧O.dec c=some F:=by
 unfold Sto.get at h
 cases hf:D.find s.tab id with
 | none=>rw[hf]at h;cases h
 | some no =>
  rw[hf]at h
  dsimp only at h
  unfold read D.Dsk.read at h
  by_cases hd:s.d.down=true
  ·rw[if_pos hd,if_pos (by show ¬ (93:Int)=0;decide)]at h
   cases h
  rw[if_neg hd]at h
  by_cases hg:D.good (path no)=false
  ·rw[if_pos hg,if_pos (by show ¬ (95:Int)=0;decide)]at h
   cases h
  rw[if_neg hg]at h
  cases hc:D.find s.d.now (path no) with
  | none =>
   rw[hc]at h
   dsimp only at h
   rw[if_pos (by decide)]at h
   cases h
  | some m =>
   rw[hc]at h
   dsimp only at h
   rw[if_neg (by decide)]at h
   exact⟨Bool.eq_false_iff.2 hd,no,_,rfl,by unfold cont;rw[hc];rfl,h⟩
theorem aRR {no:Nat} {c:List UInt8} (hn:no < 4096) (h1:s.d.down=false) (h2:D.find s.tab id=some no) (h3:cont s.d (path no)=some c):s.get id=O.dec c:=by
 obtain⟨m,h4,h5⟩:=D.dV h3
 have hr:s.d.read (path no)=(c,0):=by
  unfold D.Dsk.read
  rw[h1,fA hn,h4]
  show (s.d.data.getD m [],(0:Int))=_
  rw[h5]
 unfold Sto.get
 rw[h2]
 dsimp only
 unfold read
 rw[hr]
 rfl
theorem aP7 (h:s.get id=some F):gU F=0:=by
 obtain⟨_,_,c,_,_,hd⟩:=aFO h
 exact (O.dec_enc hd).1
theorem rV (h:Turn T s.d s'.d) (u:Uni s.d) (hn:∀ p∈s.tab,p.2 < 4096) (ht:∀ no,D.find s'.tab id=some no→D.find s.tab id=some no∧¬ T (path no)) (hg:s'.get id=some F):s.get id=some F:=by
 obtain⟨h1,no,c,h2,h3,h4⟩:=aFO hg
 obtain⟨h5,h6⟩:=ht no h2
 refine (aRR (hn _ (D.aI h5)) ?_ h5 (((h.mov u).2 _ h6).symm.trans h3)).trans h4
 refine Bool.eq_false_iff.2 fun hd=>?_
 rw[h.down hd,hd]at h1
 cases h1
end
theorem aDH (d:D.Dsk) (count:Nat) (list:List R.Rc):(rewrite d count list).2.1=count∨(rewrite d count list).2.1=list.length:=by
 unfold rewrite
 split
 ·exact .inl rfl
 split
 ·exact .inr rfl
 split
 ·exact .inl rfl
 ·exact .inl rfl
structure Odd (n i j:Nat) (s:Sto):Prop where
 uni:Uni s.d
 up:D.Up s.tab
 len:s.tab.length≤j
 ids:∀ p∈s.tab,p.1.size≤4096
 cnt:s.count≤i+j
 used:s.used=marks n s.tab
 le:n≤4096
 no:∀ p∈s.tab,p.2 < n
 one:∀ p∈s.tab,∀ q∈s.tab,p.2=q.2→p=q
section
variable {n i j:Nat} {s:Sto}
theorem Odd.no4 (h:Odd n i j s):∀ p∈s.tab,p.2 < 4096:=fun p hp=>Nat.lt_of_lt_of_le (h.no p hp) h.le
theorem Odd.mono {i' j':Nat} (h:Odd n i j s) (hi:i≤i') (hj:j≤j'):Odd n i' j' s:=⟨h.uni,h.up,bD h.len hj,h.ids,by have:=h.cnt;omega,h.used,h.le,h.no,h.one⟩
theorem kV {no:Nat} (hn:no < 4096):¬ rG (path no):=fun h=>h.elim (aY hn) (kR hn)
theorem Odd.tidy (h:Odd n i j s):Odd n i j s.tidy∧Turn rG s.d s.tidy.d∧s.tidy.tab=s.tab:=by
 unfold Sto.tidy
 split
 ·exact⟨h,Turn.refl _,rfl⟩
 ·have ht:=aBD s.d s.count (records s.tab)
  refine⟨⟨(ht.mov h.uni).1,h.up,h.len,h.ids,?_,h.used,h.le,h.no,h.one⟩,ht,rfl⟩
  show (S.rewrite s.d s.count (records s.tab)).2.1≤_
  have h1:=h.cnt
  have h2:=h.len
  rcases aDH s.d s.count (records s.tab) with e | e
  ·omega
  ·rw[e]
   unfold records
   rw[List.length_map]
   omega
theorem Odd.put (h:Odd n i j s) (E:O.Ent):Odd n (i+1) (j+1) (s.put E).1∧(∀ x F,x≠aU E→(s.put E).1.get x=some F→s.get x=some F)∧((s.put E).2=0→∀ F,(s.put E).1.get (aU E)=some F→F=E):=by
 unfold Sto.put
 split
 ·rename_i h0
  exact⟨h.mono (by omega) (by omega),fun _ _ _ hg=>hg,fun h1=>absurd h1 h0⟩
 rename_i hE
 split
 ·exact⟨h.mono (by omega) (by omega),fun _ _ _ hg=>hg,fun h1=>absurd h1 (by show ¬ (101:Int)=0;decide)⟩
 rename_i hid
 split
 ·exact⟨h.mono (by omega) (by omega),fun _ _ _ hg=>hg,fun h1=>absurd h1 (by show ¬ (130:Int)=0;decide)⟩
 rename_i no hf
 rw[List.findIdx?_eq_some_iff_getElem]at hf
 obtain⟨hnl,hnf,_⟩:=hf
 have hul:s.used.length=n:=by rw[h.used,cZ]
 have hnn:no < n:=by omega
 have hn4:no < 4096:=Nat.lt_of_lt_of_le hnn h.le
 have hnv:s.used.getD no false=false:=by
  simp [List.getD,hnl]at hnf ⊢
  exact hnf
 have hfree:∀ p∈s.tab,p.2≠no:=fun p hp e=>by
  have:=(marks_at n s.tab no).2 ⟨hnn,p,hp,e⟩
  rw[← h.used,hnv]at this
  cases this
 have hfp:∀ p∈s.tab,path p.2≠path no:=fun p hp e=>hfree p hp (cO (h.no4 p hp) hn4 e)
 obtain⟨hl,el⟩:=aMV s.d (path no) (gY E)
 replace el:=el h.uni
 generalize lay s.d (path no) (gY E)=x at *
 generalize hide:aU E=id at *
 unfold Sto.entered
 have hy:Turn (fun z=>rG z∨z=path no) s.d (if x.2.2=0 then add x.1 s.count 1 no id else (x.1,s.count,x.2.2):D.Dsk × Nat × Int).1∧(if x.2.2=0 then add x.1 s.count 1 no id else (x.1,s.count,x.2.2):D.Dsk × Nat × Int).2.1≤s.count+1∧((if x.2.2=0 then add x.1 s.count 1 no id else (x.1,s.count,x.2.2):D.Dsk × Nat × Int).2.2=0→(if x.2.2=0 then add x.1 s.count 1 no id else (x.1,s.count,x.2.2):D.Dsk × Nat × Int).2.1≠s.count∧cont (if x.2.2=0 then add x.1 s.count 1 no id else (x.1,s.count,x.2.2):D.Dsk × Nat × Int).1 (path no)=some (gY E)):=by
  have h1:=hl.imp (U:=fun z=>rG z∨z=path no) (fun _ e=>.inr e)
  split
  ·rename_i h0
   obtain⟨a1,a2,a3⟩:=aF2 x.1 s.count 1 no id
   exact⟨h1.trans (a1.imp fun _ e=>.inl e),a3,fun hc=>⟨a2 hc,((a1.mov (hl.mov h.uni).1).2 _ (kV hn4)).trans (el h0)⟩⟩
  ·rename_i h0
   exact⟨h1,Nat.le_succ _,fun hc=>absurd hc h0⟩
 generalize (if x.2.2=0 then add x.1 s.count 1 no id else (x.1,s.count,x.2.2):D.Dsk × Nat × Int)=y at *
 obtain⟨hy,hyc,hy0⟩:=hy
 have hcnt:=h.cnt
 dsimp only
 split
 ·rename_i hcc
  have hr:Turn (fun z=>rG z∨z=path no) s.d (if x.2.1=true then (y.1.remove (path no)).1 else y.1):=by
   split
   ·exact hy.trans ((D.gI _ _).imp fun _ e=>.inr e)
   ·exact hy
  refine⟨⟨(hr.mov h.uni).1,h.up,by show s.tab.length≤_;have:=h.len;omega,h.ids,by show s.count≤_;omega,h.used,h.le,h.no,h.one⟩,fun z F _ hg=>?_,fun h0=>absurd hcc (hy0 h0).1⟩
  exact rV (s:=s) (s':={ s with d:=if x.2.1=true then (y.1.remove (path no)).1 else y.1 }) hr h.uni h.no4 (fun m hm=>⟨hm,fun e=>Or.elim e (kV (h.no4 _ (D.aI hm))) (hfp _ (D.aI hm))⟩) hg
 ·-- the entry is in the table
  have hs2:∃ (d2:D.Dsk) (us:List Bool),(({ s with d:=y.1,count:=y.2.1 }:Sto).freed id).took no id=⟨d2,y.2.1,D.put s.tab id no,us⟩∧us=marks n (D.put s.tab id no)∧Turn (fun z=>rG z∨z=path no∨∃ old,D.find s.tab id=some old∧z=path old) s.d d2∧(cont y.1 (path no)=some (gY E)→cont d2 (path no)=some (gY E)):=by
   unfold Sto.freed
   have hy2:=hy.imp (U:=fun z=>rG z∨z=path no∨∃ old,D.find s.tab id=some old∧z=path old) (fun _ e=>e.imp (fun e=>e) .inl)
   dsimp only
   cases hfd:D.find s.tab id with
   | none =>
    refine⟨y.1,s.used.set no true,rfl,kE (by rw[List.length_set,hul]) fun m hm=>?_,by rw[hfd]at hy2;exact hy2,fun h=>h⟩
    rw[fB]
    by_cases hmn:no=m
    ·rw[if_pos ⟨hmn,by omega⟩]
     exact⟨fun _=>⟨(id,no),D.aX.2 (.inl rfl),hmn⟩,fun _=>rfl⟩
    ·rw[if_neg (fun e=>hmn e.1),h.used,marks_at]
     constructor
     ·rintro⟨_,p,hp,e⟩
      refine⟨p,D.aX.2 (.inr ⟨hp,fun e2=>?_⟩),e⟩
      have:=D.dM h.up hp
      rw[e2,hfd]at this
      cases this
     ·rintro⟨p,hp,e⟩
      rcases D.aX.1 hp with rfl | hp
      ·exact absurd e hmn
      ·exact⟨hm,p,hp.1,e⟩
   | some old =>
    have hmem:=D.aI hfd
    have hrm:=D.gI y.1 (path old)
    refine⟨(y.1.remove (path old)).1,(s.used.set old false).set no true,rfl,kE (by rw[List.length_set,List.length_set,hul]) fun m hm=>?_,by rw[hfd]at hy2;exact hy2.trans (hrm.imp fun _ e=>.inr (.inr ⟨old,rfl,e⟩)),fun h9=>((hrm.mov (hy.mov h.uni).1).2 _ (fun e=>hfp _ hmem e.symm)).trans h9⟩
    rw[fB,fB]
    by_cases hmn:no=m
    ·rw[if_pos ⟨hmn,by rw[List.length_set];omega⟩]
     exact⟨fun _=>⟨(id,no),D.aX.2 (.inl rfl),hmn⟩,fun _=>rfl⟩
    rw[if_neg (fun e=>hmn e.1)]
    by_cases hmo:old=m
    ·rw[if_pos ⟨hmo,by omega⟩]
     constructor
     ·intro h9;cases h9
     ·rintro⟨p,hp,e⟩
      rcases D.aX.1 hp with rfl | hp
      ·exact absurd e hmn
      ·exact absurd (congrArg Prod.fst (h.one p hp.1 _ hmem (e.trans hmo.symm))) hp.2
    ·rw[if_neg (fun e=>hmo e.1),h.used,marks_at]
     constructor
     ·rintro⟨_,p,hp,e⟩
      refine⟨p,D.aX.2 (.inr ⟨hp,fun e2=>?_⟩),e⟩
      have:=D.dM h.up hp
      rw[e2,hfd]at this
      exact hmo ((Option.some.inj this).trans e)
     ·rintro⟨p,hp,e⟩
      rcases D.aX.1 hp with rfl | hp
      ·exact absurd e hmn
      ·exact⟨hm,p,hp.1,e⟩
  obtain⟨d2,us,e2,hus,ht2,hc2⟩:=hs2
  rw[e2]
  have hO:Odd n (i+1) (j+1) ⟨d2,y.2.1,D.put s.tab id no,us⟩:=by
   refine⟨(ht2.mov h.uni).1,D.qA h.up _ _,?_,fun p hp=>?_,by show y.2.1≤_;omega,hus,h.le,fun p hp=>?_,D.lU h.one hfree⟩
   ·show (D.put s.tab id no).length≤_
    have h1:=D.eH s.tab id no
    have h2:=h.len
    omega
   ·rcases D.aX.1 hp with rfl | hp
    ·exact Nat.le_of_not_lt hid
    ·exact h.ids p hp.1
   ·rcases D.aX.1 hp with rfl | hp
    ·exact hnn
    ·exact h.no p hp.1
  obtain⟨t1,t2,t3⟩:=hO.tidy
  have hno4:=t1.no4
  refine⟨t1,fun x F hx hg=>?_,fun h0 F hg=>?_⟩
  ·refine rV (ht2.trans (t2.imp fun _ e=>.inl e)) h.uni h.no4 (fun m hm=>?_) hg
   rw[t3,D.dN,if_neg hx]at hm
   have hmm:=D.aI hm
   refine⟨hm,?_⟩
   rintro (e | e | ⟨old,e1,e⟩)
   ·exact kV (h.no4 _ hmm) e
   ·exact hfp _ hmm e
   ·exact hx (congrArg Prod.fst (h.one _ hmm _ (D.aI e1) (cO (h.no4 _ hmm) (h.no4 _ (D.aI e1)) e)))
  ·obtain⟨_,m,c,g1,g2,g3⟩:=aFO hg
   rw[t3,D.dN,if_pos rfl]at g1
   obtain rfl:=Option.some.inj g1
   rw[(t2.mov hO.uni).2 _ (kV hn4)]at g2
   have:=hc2 (hy0 h0).2
   rw[show cont d2 (path no)=some c from g2]at this
   obtain rfl:=Option.some.inj this
   rw[kZ (by omega)]at g3
   exact (Option.some.inj g3).symm
theorem Odd.drop (h:Odd n i j s) (id:ByteArray):Odd n (i+1) j (s.drop id).1∧(∀ x F,(s.drop id).1.get x=some F→s.get x=some F)∧∀ x,x∈(s.drop id).1.ids→x∈s.ids:=by
 unfold Sto.drop
 split
 ·exact⟨h.mono (by omega) (zA _),fun _ _ hg=>hg,fun _ h=>h⟩
 rename_i no hf
 have hmem:=D.aI hf
 have hn4:=h.no4 _ hmem
 obtain⟨a1,_,a3⟩:=aF2 s.d s.count 2 no id
 generalize add s.d s.count 2 no id=y at *
 have hcnt:=h.cnt
 dsimp only
 split
 ·exact⟨⟨(a1.mov h.uni).1,h.up,h.len,h.ids,by show s.count≤_;omega,h.used,h.le,h.no,h.one⟩,fun x F hg=>rV (s:=s) (s':={ s with d:=y.1 }) a1 h.uni h.no4 (fun m hm=>⟨hm,kV (h.no4 _ (D.aI hm))⟩) hg,fun _ h=>h⟩
 have hrm:=D.gI y.1 (path no)
 have hT:=(a1.imp (U:=fun z=>rG z∨z=path no) fun _ e=>.inl e).trans (hrm.imp fun _ e=>.inr e)
 have hul:s.used.length=n:=by rw[h.used,cZ]
 have hO:Odd n (i+1) j (({ s with d:=y.1,count:=y.2.1,tab:=D.del s.tab id }:Sto).free no):=by
  refine⟨(hT.mov h.uni).1,D.qB h.up _,bD (D.fG ..) h.len,fun p hp=>h.ids p (D.aW.1 hp).1,by show y.2.1≤_;omega,kE (by show (s.used.set no false).length=n;rw[List.length_set,hul]) fun m hm=>?_,h.le,fun p hp=>h.no p (D.aW.1 hp).1,D.oN h.one⟩
  show (s.used.set no false).getD m false=true↔_
  rw[fB]
  by_cases hmn:no=m
  ·rw[if_pos ⟨hmn,by omega⟩]
   constructor
   ·intro h9;cases h9
   ·rintro⟨p,hp,h2⟩
    exact absurd (congrArg Prod.fst (h.one p (D.aW.1 hp).1 _ hmem (by show p.2=no;omega))) (D.aW.1 hp).2
  ·rw[if_neg (fun h9=>hmn h9.1),h.used,marks_at]
   constructor
   ·rintro⟨_,p,hp,e⟩
    refine⟨p,D.aW.2 ⟨hp,fun e2=>?_⟩,e⟩
    have:=D.dM h.up hp
    rw[e2,hf]at this
    exact hmn ((Option.some.inj this).trans e)
   ·rintro⟨p,hp,e⟩
    exact⟨hm,p,(D.aW.1 hp).1,e⟩
 obtain⟨t1,t2,t3⟩:=hO.tidy
 refine⟨t1,fun x F hg=>?_,fun x hx=>?_⟩
 ·refine rV (hT.trans (t2.imp fun _ e=>.inl e)) h.uni h.no4 (fun m hm=>?_) hg
  rw[t3]at hm
  change D.find (D.del s.tab id) x=some m at hm
  rw[D.fO]at hm
  by_cases hx:x=id
  ·rw[if_pos hx]at hm
   cases hm
  rw[if_neg hx]at hm
  have hmm:=D.aI hm
  refine⟨hm,?_⟩
  rintro (e | e)
  ·exact kV (h.no4 _ hmm) e
  ·exact hx (congrArg Prod.fst (h.one _ hmm _ hmem (cO (h.no4 _ hmm) hn4 e)))
 ·unfold Sto.ids at hx ⊢
  rw[t3]at hx
  obtain⟨p,hp,e⟩:=List.mem_map.1 hx
  exact List.mem_map.2 ⟨p,(D.aW.1 hp).1,e⟩
end
end S
end Go.Proofs.YthjeglnkgdpijaaGreatDoor
