/- The walks of cache's all, Ids, begin and New. -/
import Derived.Test.YthjeglnkgdpijaaGreatDoorZ06
set_option maxHeartbeats 2000000
set_option maxRecDepth 100000
namespace Go.Proofs.YthjeglnkgdpijaaGreatDoor
open Go Go.RowKit Go.Maps
namespace C
structure Fit (m:Nat) (a:CSt):Prop where
 sto:∀ s,a.s=some s→Fine m s
 mem:∀ x∈a.l,S.encE x.p.E=0∧x.id=S.idOf x.p.E
def all (a:CSt):List ByteArray:=setB (Lr.ids a.l++match a.s with
 | some s=>s.ids
 | none=>[])
def gone (a:CSt) (id:ByteArray):Bool:=(D.find a.hd id).isSome&&!(Lr.peek a.l id).isSome
def ids (a:CSt):List ByteArray:=(all a).filter fun x=>!gone a x
def other (key id:ByteArray):Bool:=!Lib.hasPrefix (L id) (L key++[10])
def begin_ (l:List ByteArray) (key:ByteArray):List ByteArray:=l.filter fun x=>!other key x
theorem all_small {m:Nat} {a:CSt} (h:∀ s,a.s=some s→Fine m s) (hl:∀ x∈a.l,x.id.size≤1073741824):∀ x∈all a,x.size≤1073741824:=fun x hx=>by
 unfold all at hx
 rw[mem_setB,List.mem_append]at hx
 rcases hx with hx | hx
 ·obtain⟨y,hy,rfl⟩:=List.mem_map.1 hx
  exact hl y hy
 ·cases hs:a.s with
  | none=>rw[hs]at hx;cases hx
  | some s =>
   rw[hs]at hx
   obtain⟨y,hy,rfl⟩:=List.mem_map.1 hx
   exact Nat.le_trans ((h s hs).sz y hy) (by decide)
end C
theorem compactB_le (l:List ByteArray):(compactB l).length≤l.length:=by
 unfold compactB
 rw[List.length_map]
 have:=compact_le (l.map L)
 rwa [List.length_map]at this
theorem all_any (B room:Nat) (Z:CM) (a:CSt) (m:Nat) (w:World) (h:CAt B room Z a w) (hf:∀ s,a.s=some s→C.Fine m s) :
  Calls Tryz.prog 27 #[.pointer (some ⟨Z.c,0,none⟩)] w (RetRow w 9 1 (C.all a).length (scells (C.all a))):=by
 have HK:=Lib.hid (lrKeys_any B Z.t Z.m room a.l w h.mem)
 have hll:=h.mem.len
 have hil:(Lr.ids a.l).length=a.l.length:=by unfold Lr.ids;rw[List.length_map]
 obtain⟨y0,y1,y2⟩:=h.cells
 have H:=Lib.hid h
 have HIL:=Lib.hid hil
 have HLL:=Lib.hid hll
 have fin:∀ (A:Option Addr) (c:Nat) (ids:List ByteArray) (u:World),ids.length≤1099511627776→setB ids=C.all a→Row u w.heap.size 9 1 A ids.length c (scells ids)→Below w.heap.size w u →
   Calls Tryz.prog 63 #[.slice A ids.length c] u (fun e u1=>e=.returned (.tuple #[])∧Calls Tryz.prog 64 #[.slice A ids.length c] u1 (RetRow w 9 1 (C.all a).length (scells (C.all a)))):=fun A c ids u hn he hr hb=>by
  refine (sortRow_any w.heap.size A ids.length c ids u hr hn).mono ?_
  rintro e u1 ⟨rfl,hr1,hg1⟩
  refine⟨rfl,(compactRow_any w.heap.size A ids.length c (sortB ids) u1 hr1 hn).mono ?_⟩
  rintro e u2 ⟨rfl,hr2,hg2⟩
  refine⟨A,c,by rw[← he];rfl,by rw[← he];exact hr2,(hb.grown hg1 hb.size (fun k hk=>(hr.lt k hk).1)).grown hg2 (Nat.le_trans hb.size hg1.size) (fun k hk=>(hr.lt k hk).1)⟩
 have FIN:=Lib.hid fin
 clear h hll hil fin
 cases hs:a.s with
 | none =>
  rw[hs]at y0
  dsimp only[Option.map]at y0
  have HE:Hid (setB (Lr.ids a.l)=C.all a):=Lib.hid (by unfold C.all;rw[hs];simp)
  have HS:=Lib.hid hs
  clear hs
  go_enter Tryz.func27,Tryz.ntmps27
  go_wp2_with fail
  refine HK.out.mono ?_
  rintro e w1 ⟨A,c,rfl,hr,hb⟩
  have HC:=Lib.hid (FIN.out A c (Lr.ids a.l) w1 (by rw[HIL.out];have:=HLL.out;omega) HE.out hr hb)
  obtain⟨z0,z1,z2⟩:=(H.out.below hb).cells
  rw[HS.out]at z0
  dsimp only[Option.map]at z0
  obtain⟨n,hn⟩:∃ n,(Lr.ids a.l).length=n:=⟨_,rfl⟩
  rw[hn]at HC ⊢
  clear hn hr hb y0 y1 y2 HK FIN
  go_wp2_with fail
  refine HC.out.mono ?_
  rintro e w2 ⟨rfl,hc2⟩
  have HC2:=Lib.hid hc2
  clear hc2 HC z0 z1 z2
  go_wp2_with fail
  refine HC2.out.mono ?_
  rintro e w3 ⟨A3,c3,rfl,hr3,hb3⟩
  have HR3:=Lib.hid hr3
  have HB3:=Lib.hid hb3
  clear hr3 hb3 HC2
  go_wp2
  go_ret
  exact⟨A3,c3,rfl,HR3.out,HB3.out⟩
 | some s =>
  rw[hs]at y0
  dsimp only[Option.map]at y0
  have HE:Hid (setB (Lr.ids a.l++s.ids)=C.all a):=Lib.hid (by unfold C.all;rw[hs])
  have HS:=Lib.hid hs
  have hfi:=hf s hs
  have hl2:=hfi.len
  have hsl:s.ids.length=s.tab.length:=by unfold S.Sto.ids;rw[List.length_map]
  have HI:=Lib.hid (fun u (hu:Below w.heap.size w u)=>ids_any B Z.X s u ((H.out.below hu).sto s hs) hfi.up (by omega))
  have HN:Hid ((Lr.ids a.l).length+s.ids.length≤1099511627776):=Lib.hid (by rw[HIL.out,hsl];have:=HLL.out;omega)
  clear hs hfi hl2 hsl hf
  go_enter Tryz.func27,Tryz.ntmps27
  go_wp2_with fail
  refine HK.out.mono ?_
  rintro e w1 ⟨A,c,rfl,hr,hb⟩
  have HR:=Lib.hid hr
  have HB:=Lib.hid hb
  obtain⟨z0,z1,z2⟩:=(H.out.below hb).cells
  rw[HS.out]at z0
  dsimp only[Option.map]at z0
  obtain⟨l1,hl1⟩:∃ l1,Lr.ids a.l=l1:=⟨_,rfl⟩
  rw[hl1]at HR HE HN HIL ⊢
  obtain⟨l2,hl2⟩:∃ l2,s.ids=l2:=⟨_,rfl⟩
  rw[hl2]at HI HE HN
  clear hl1 hl2 hr hb y0 y1 y2 HK
  go_wp2_with fail
  refine (HI.out w1 HB.out).mono ?_
  rintro e w2 ⟨A2,c2,rfl,hr2,hb2⟩
  have HR1:=Lib.hid (HR.out.below hb2)
  have HR2:=Lib.hid hr2.rd
  have HB2:=Lib.hid (below_then HB.out.size HB.out hb2)
  clear hr2 hb2 HI z0 z1 z2 HR HB
  go_wp2_with (at_builtin;refine appS _ rfl _ _ rfl w.heap.size A l1.length c l1 rfl HR1.out A2 l2.length c2 l2 rfl HR2.out (Nat.le_trans HN.out (by decide)) HB2.out.size ?_;intro A3 c3 w3 hr3 ha3;have hb3:=ha3.below HR1.out HB2.out.size;rw[← List.length_append]at hr3 ⊢;have HC:=Lib.hid (FIN.out A3 c3 (l1++l2) w3 (by rw[List.length_append];exact HN.out) HE.out hr3 (HB2.out.trans hb3));generalize (l1++l2).length=n at *;clear hr3 ha3 hb3)
  refine HC.out.mono ?_
  rintro e w4 ⟨rfl,hc4⟩
  have HC2:=Lib.hid hc4
  clear hc4 HC
  go_wp2_with fail
  refine HC2.out.mono ?_
  rintro e w5 ⟨A5,c5,rfl,hr5,hb5⟩
  have HR5:=Lib.hid hr5
  have HB5:=Lib.hid hb5
  clear hr5 hb5 HC2
  go_wp2
  go_ret
  exact⟨A5,c5,rfl,HR5.out,HB5.out⟩
theorem C.all_len {B room:Nat} {Z:CM} {a:CSt} {w:World} {m:Nat} (h:CAt B room Z a w) (hf:∀ s,a.s=some s→C.Fine m s):(C.all a).length≤1099511627776:=by
 have h1:(C.all a).length≤(Lr.ids a.l++match a.s with | some s=>s.ids | none=>[]).length:=by
  unfold C.all setB
  exact Nat.le_trans (compactB_le _) (by rw[sortB_len];exact Nat.le_refl _)
 have h2:=h.mem.len
 have h3:(Lr.ids a.l).length=a.l.length:=by unfold Lr.ids;rw[List.length_map]
 rw[List.length_append,h3]at h1
 cases hs:a.s with
 | none =>
  rw[hs]at h1
  simp at h1
  omega
 | some s =>
  rw[hs]at h1
  have h4:s.ids.length=s.tab.length:=by unfold S.Sto.ids;rw[List.length_map]
  have:=(hf s hs).len
  simp only[h4]at h1
  omega
theorem idsFn_any (B room:Nat) (Z:CM) (a:CSt) (bx:Nat) (id:ByteArray) (w:World) (h:CAt B room Z a w) (hx:w.cell? ⟨bx,0,none⟩=some (.pointer (some ⟨Z.c,0,none⟩))) (hs:id.size≤1073741824) :
  Calls Tryz.prog 44 #[.string id,.pointer (some ⟨bx,0,none⟩)] w (RetB w (C.gone a id)):=by
 have hlk:=unit_ok h.hid id (by simp only[maxLen];omega)
 obtain⟨w0,hw0⟩:∃ w0,w.alloc (.cells #[] 88)=w0:=⟨_,rfl⟩
 have hb0:Below w.heap.size w w0:=by rw[← hw0];exact (Below.refl _ _).alloc (Nat.le_refl _) _
 obtain⟨y,hy1⟩:∃ y:EP,itV (Lr.peek a.l id)=y.v:=by
  cases Lr.peek a.l id with
  | none=>exact⟨EP.nil,rfl⟩
  | some x=>exact⟨x.p,rfl⟩
 have HPK:=Lib.hid (lrPeek_any B Z.t Z.m room a.l id w0 (h.below hb0).mem hs)
 unfold RetPeek at HPK
 rw[hy1]at HPK
 obtain⟨y0,y1,y2⟩:=h.cells
 obtain⟨v0,v1,v2⟩:=(h.below hb0).cells
 have hx0:=(hb0.cell (p:=⟨bx,0,none⟩) (cell_lt hx)).trans hx
 have HB0:=Lib.hid hb0
 obtain⟨ok,hok⟩:∃ ok,(Lr.peek a.l id).isSome=ok:=⟨_,rfl⟩
 obtain⟨gn,hgn⟩:∃ gn,(D.find a.hd id).isSome=gn:=⟨_,rfl⟩
 rw[hok]at HPK
 rw[hgn]at hlk
 have HG:Hid (C.gone a id=(gn&&!ok)):=Lib.hid (by unfold C.gone;rw[hgn,hok])
 clear hb0 hy1 hok hgn h
 go_enter Tryz.func44,Tryz.ntmps44
 go_upto_region 2 with fail
 clear hlk hx y0 y1 y2 hw0 v0 v2
 go_wp2_with fail
 refine HPK.out.mono ?_
 rintro e w1 ⟨rfl,hb1⟩
 obtain⟨w2,hw2⟩:∃ w2,w1.alloc (.cells #[.string ⟨#[]⟩,.string ⟨#[]⟩,.int .i64 0,.string ⟨#[]⟩,.int .i64 0,.slice none 0 0,.slice none 0 0,.int .i64 0,.int .i64 0] 41)=w2:=⟨_,rfl⟩
 have hb2:Below w1.heap.size w1 w2:=by rw[← hw2];exact (Below.refl _ _).alloc (Nat.le_refl _) _
 have hk2:Blk w2 w1.heap.size #[.string ⟨#[]⟩,.string ⟨#[]⟩,.int .i64 0,.string ⟨#[]⟩,.int .i64 0,.slice none 0 0,.slice none 0 0,.int .i64 0,.int .i64 0] 41:=by rw[← hw2];exact Blk.new w1 _ _
 obtain⟨z0,z1,z2,z3,z4,z5,z6,z7,z8⟩:=hk2.cells9
 obtain⟨g0,g1,g2,g3,g4,g5,g6,g7,g8⟩:=hk2.free9
 have HB3:=Lib.hid (below_nine (below_then (Nat.le_trans HB0.out.size hb1.size) (below_then HB0.out.size HB0.out hb1) hb2) (Nat.le_trans HB0.out.size hb1.size) (.string y.E.k) (.string y.E.v) (.int .i64 y.E.s) (.string y.E.r) (.int .i64 y.E.m) (.slice y.A y.E.fs.length y.c) (.slice y.X y.E.body.length y.d) (.int .i64 y.E.asked) (.int .i64 y.E.got))
 unfold nine at HB3
 clear hb1 hk2 hb2 HPK HB0
 unfold EP.v entV
 cases gn with
 | true =>
  cases ok with
  | true =>
   go_wp2
   go_ret
   exact⟨by rw[HG.out];rfl,HB3.out⟩
  | false =>
   go_wp2
   go_ret
   exact⟨by rw[HG.out];rfl,HB3.out⟩
 | false =>
  go_wp2
  go_ret
  exact⟨by rw[HG.out];rfl,HB3.out⟩
theorem cacheIds_any (B room:Nat) (Z:CM) (a:CSt) (m:Nat) (w:World) (h:CAt B room Z a w) (hf:∀ s,a.s=some s→C.Fine m s) :
  Calls Tryz.prog 18 #[.pointer (some ⟨Z.c,0,none⟩)] w (RetRow w 9 1 (C.ids a).length (scells (C.ids a))):=by
 obtain⟨w0,hw0⟩:∃ w0,w.alloc (.cells #[.pointer (some ⟨Z.c,0,none⟩)] 29)=w0:=⟨_,rfl⟩
 have hb0:Below w.heap.size w w0:=by rw[← hw0];exact (Below.refl _ _).alloc (Nat.le_refl _) _
 have hx0:w0.cell? ⟨w.heap.size,0,none⟩=some (.pointer (some ⟨Z.c,0,none⟩)):=by rw[← hw0];exact (Blk.new w _ _).cells1
 have h0:=h.below hb0
 have HA:=Lib.hid (all_any B room Z a m w0 h0 hf)
 have HD:=Lib.hid (fun A c u (hb:Below w0.heap.size w0 u) (hr:Row u w0.heap.size 9 1 A (C.all a).length c (scells (C.all a))) =>
  deleteT_any (g:=44) (lb:=#[.pointer (some ⟨w.heap.size,0,none⟩)]) (p:=C.gone a) (ok:=fun x=>x.size≤1073741824) (I:=fun v=>Below w0.heap.size w0 v) w0.heap.size A (C.all a).length c (C.all a) u (C.all_len h hf) (C.all_small hf (fun x hx=>(h.mem.small x hx).1))
   ⟨enters_of Tryz.func44 (by kernel_rfl) rfl,fun x v hx hv=>idsFn_any B room Z a w.heap.size x v (h0.below hv) ((hv.cell (p:=⟨w.heap.size,0,none⟩) (cell_lt hx0)).trans hx0) hx,fun v v' hv hb'=>below_then hv.size hv hb',fun v b i z hb' hv=>below_set hv (hr.lt b hb').1 i z⟩ hb hr)
 have HB0:=Lib.hid hb0
 have HE:Hid ((C.all a).filter (fun x=>!C.gone a x)=C.ids a):=Lib.hid rfl
 rw[HE.out]at HD
 obtain⟨l1,hl1⟩:∃ l1,C.all a=l1:=⟨_,rfl⟩
 obtain⟨l2,hl2⟩:∃ l2,C.ids a=l2:=⟨_,rfl⟩
 rw[hl1]at HA
 rw[hl1,hl2]at HD
 rw[hl2]
 clear hb0 h0 h hf hl1 hl2 HE
 go_enter Tryz.func18,Tryz.ntmps18
 go_wp2_with fail
 clear hw0 hx0
 refine HA.out.mono ?_
 rintro e w1 ⟨A,c,rfl,hr1,hb1⟩
 have HD1:=Lib.hid (HD.out A c w1 hb1 hr1)
 have HB1:=Lib.hid (below_then HB0.out.size HB0.out hb1)
 have HOW:=Lib.hid (fun k hk=>Nat.le_trans HB0.out.size (hr1.lt k hk).1)
 clear HD HA hr1 hb1
 go_wp2_with fail
 refine HD1.out.mono ?_
 rintro e w2 ⟨A2,rfl,hr2,hg2⟩
 have HR2:=Lib.hid (hr2.mono HB0.out.size)
 have HB2:=Lib.hid (HB1.out.grown hg2 HB1.out.size HOW.out)
 clear HD1 hr2 hg2
 go_wp2
 go_ret
 exact⟨A2,c,rfl,HR2.out,HB2.out⟩
theorem beginFn_any (bx:Nat) (key id:ByteArray) (w:World) (hx:w.cell? ⟨bx,0,none⟩=some (.string key)) (hk:key.size≤1073741824) :
  Calls Tryz.prog 61 #[.string id,.pointer (some ⟨bx,0,none⟩)] w (RetB w (C.other key id)):=by
 have hsz:¬ 9223372036854775807 < key.size+1:=by omega
 have HP:=Lib.hid (prefix_any id (key++⟨#[10]⟩) w)
 have HE:Hid (Lib.hasPrefix (L id) (L (key++⟨#[10]⟩))=!C.other key id):=Lib.hid (by unfold C.other;rw[L_append,Bool.not_not];rfl)
 rw[HE.out]at HP
 obtain⟨ot,hot⟩:∃ ot,C.other key id=ot:=⟨_,rfl⟩
 rw[hot]at HP ⊢
 clear HE hot
 go_enter Tryz.func61,Tryz.ntmps61
 go_wp2_with fail
 refine HP.out.mono ?_
 rintro e w1 ⟨rfl,rfl⟩
 cases ot with
 | true =>
  go_wp2
  go_ret
  exact⟨rfl,Below.refl _ _⟩
 | false =>
  go_wp2
  go_ret
  exact⟨rfl,Below.refl _ _⟩
theorem begin_of_any (base:Nat) (A:Option Addr) (n c:Nat) (xs:List ByteArray) (key:ByteArray) (w:World) (hn:n≤1099511627776) (hr:Row w base 9 1 A n c (scells xs)) (hk:key.size≤1073741824) (_hB:base≤w.heap.size) :
  Calls Tryz.prog 26 #[.slice A n c,.string key] w (fun e w'=>∃ A',e=.returned (.slice A' (C.begin_ xs key).length c)∧Row w' base 9 1 A' (C.begin_ xs key).length c (scells (C.begin_ xs key))∧w.grownBy w' (ownB A c)):=by
 obtain⟨w0,hw0⟩:∃ w0,w.alloc (.cells #[.string key] 9)=w0:=⟨_,rfl⟩
 have hb0:Below w.heap.size w w0:=by rw[← hw0];exact (Below.refl _ _).alloc (Nat.le_refl _) _
 have hx0:w0.cell? ⟨w.heap.size,0,none⟩=some (.string key):=by rw[← hw0];exact (Blk.new w _ _).cells1
 have hr0:=hr.below hb0
 have HD:=Lib.hid (deleteT_any (g:=61) (lb:=#[.pointer (some ⟨w.heap.size,0,none⟩)]) (p:=C.other key) (ok:=fun _=>True) (I:=fun v=>v.cell? ⟨w.heap.size,0,none⟩=some (.string key)) base A n c xs w0 hn (fun _ _=>trivial)
   ⟨enters_of Tryz.func61 (by kernel_rfl) rfl,fun x v _ hv=>beginFn_any w.heap.size key x v hv hk,fun v v' hv hb'=>(hb'.cell (p:=⟨w.heap.size,0,none⟩) (cell_lt hv)).trans hv,fun v b i z hb' hv=>(World.cell?_setCell_other _ _ _ _ (fun e=>by
    have h1:=(hr.lt b hb').2
    have h2:b=w.heap.size:=congrArg Addr.block e
    omega)).trans hv⟩ hx0 hr0)
 have HG0:Hid (w.grownBy w0 (ownB A c)):=Lib.hid ⟨hb0.os,hb0.tape,hb0.output,hb0.size,fun k hk _=>hb0.block k hk⟩
 have HE:Hid (xs.filter (fun x=>!C.other key x)=C.begin_ xs key):=Lib.hid rfl
 rw[HE.out]at HD
 obtain⟨l2,hl2⟩:∃ l2,C.begin_ xs key=l2:=⟨_,rfl⟩
 rw[hl2]at HD ⊢
 clear hb0 hx0 hr0 hr hl2 HE
 go_enter Tryz.func26,Tryz.ntmps26
 go_wp2_with fail
 clear hw0
 refine HD.out.mono ?_
 rintro e w1 ⟨A2,rfl,hr2,hg2⟩
 have HR2:=Lib.hid hr2
 have HG2:=Lib.hid (HG0.out.trans hg2)
 clear HD hr2 hg2 HG0
 go_wp2
 go_ret
 exact⟨A2,rfl,HR2.out,HG2.out⟩
theorem CAt.entry9 {B room b:Nat} {Z:CM} {a:CSt} {w:World} {cs:Array Value} (h:CAt B room Z a w) (hk:Blk w b cs 41) (y0 y1 y2 y3 y4 y5 y6 y7 y8:Value):CAt B room Z a (nine w b y0 y1 y2 y3 y4 y5 y6 y7 y8) :=
 h.beside (went_nine (F:=fun k=>k=b) rfl y0 y1 y2 y3 y4 y5 y6 y7 y8) (fun k e=>by
  subst e
  refine⟨offs_of hk.tag ⟨by decide,by decide,by decide⟩,?_,hk.tag.ne h.blk.tag (by decide),fun x hx j hj=>?_⟩
  ·rintro (hf | rfl | ⟨s,hs,hf⟩)
   ·exact h.mem.off hk.tag (by decide) (by decide) hf
   ·exact hk.tag.map (ownsMap_tag h.hid) rfl
   ·exact (h.sto s hs).off hk.tag ⟨by decide,by decide,by decide,by decide⟩ ⟨by decide,by decide,by decide⟩ hf
  ·rcases hj with hj | hj
   ·exact ((h.mem.own x hx).1.tag hj).ne hk.tag (by decide)
   ·exact ((h.mem.own x hx).2.tag hj).ne hk.tag (by decide))
def RetCacheNew (sp:Option Addr) (room:Int) (w:World) (e:Ending) (w':World):Prop :=
 ∃ c t m hm,e=.returned (.pointer (some ⟨c,0,none⟩))∧LrAt w.heap.size t m (Lr.roomOf room) [] w'∧w'.ownsMap Tryz.prog 9 unitE hm 0 (.map [])∧Blk w' c #[.pointer sp,.pointer (some ⟨t,0,none⟩),.map (some hm)] 76∧hm≠m∧w.heap.size≤c∧w.heap.size≤hm∧Below w.heap.size w w'
theorem cacheNew_any (sp:Option Addr) (room:Int) (w:World) :
  Calls Tryz.prog 22 #[.pointer sp,.int .i64 room] w (RetCacheNew sp room w):=by
 have HN:=Lib.hid (lrNew_any room w)
 have hmm:=@run_makeMap Tryz.prog
 go_enter Tryz.func22,Tryz.ntmps22
 go_wp2_with fail
 refine HN.out.mono ?_
 rintro e w1 ⟨t,m,rfl,hl1,hb1⟩
 obtain⟨w2,hw2⟩:∃ w2,w1.alloc (.map #[] 0)=w2:=⟨_,rfl⟩
 have hm2:w2.ownsMap Tryz.prog 9 unitE w1.heap.size 0 (.map []):=by rw[← hw2];exact World.ownsMap_made w1 Tryz.prog 9 unitE
 have hb2:Below w1.heap.size w1 w2:=by rw[← hw2];exact (Below.refl _ _).alloc (Nat.le_refl _) _
 obtain⟨w3,hw3⟩:∃ w3,w2.alloc (.cells #[.pointer sp,.pointer (some ⟨t,0,none⟩),.map (some w1.heap.size)] 76)=w3:=⟨_,rfl⟩
 have hk3:=Blk.new w2 #[.pointer sp,.pointer (some ⟨t,0,none⟩),.map (some w1.heap.size)] 76
 have hb3:Below w2.heap.size w2 w3:=by rw[← hw3];exact (Below.refl _ _).alloc (Nat.le_refl _) _
 rw[hw3]at hk3
 have HK3:=Lib.hid hk3
 have HM3:=Lib.hid (hm2.kept (show w2.grownBy w3 none from⟨hb3.os,hb3.tape,hb3.output,hb3.size,fun k hk _=>hb3.block k hk⟩) (by simp))
 have HL3:=Lib.hid ((hl1.below hb2).below hb3)
 have HB3:=Lib.hid (below_then (Nat.le_trans hb1.size hb2.size) (below_then hb1.size hb1 hb2) hb3)
 have HLT:=Lib.hid (hl1.lt (.inr (.inl rfl)))
 have HS1:=Lib.hid hb1.size
 have HS2:=Lib.hid hb2.size
 clear hl1 hb1 hm2 hb2 hk3 hb3 HN
 go_wp2
 go_ret
 exact⟨w2.heap.size,t,m,w1.heap.size,by simp,HL3.out,HM3.out,HK3.out,by have:=HLT.out;omega,by have:=HS1.out;have:=HS2.out;omega,HS1.out,HB3.out⟩
end Go.Proofs.YthjeglnkgdpijaaGreatDoor
