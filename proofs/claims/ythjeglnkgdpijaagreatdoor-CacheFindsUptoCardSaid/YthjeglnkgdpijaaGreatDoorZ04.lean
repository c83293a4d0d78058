/- The walk of the store's Drop. The walks of cache's entry, stored and hide. slices.Sort and slices.Compact at a row of the call's own: what the row is then. Conditions: as each theorem states them. -/
import Derived.Test.YthjeglnkgdpijaaGreatDoorZ03
set_option maxHeartbeats 4000000
set_option maxRecDepth 100000
namespace Go.Proofs.YthjeglnkgdpijaaGreatDoor
open Go Go.RowKit Go.Maps
theorem aC7 {b:Nat} {t:D.NM} {n:Nat} {w:World} {nm:ByteArray} (h:w.ownsMap Tryz.prog 9 S.xW b n ((S.rY t).del (D.key nm))):w.ownsMap Tryz.prog 9 S.xW b (D.del t nm).length (S.rY (D.del t nm)):=by
 unfold S.rY at h
 rw[D.kH]at h
 exact aA1 h
theorem aBB (B:Nat) (X:SM) (s:S.Sto) (id:ByteArray) (m:Nat) (w:World) (h:eU B X s w) (hf:D.Fit m s.d) (hm:m≤134000000) (hu:D.Up s.tab) (hl:s.tab.length≤262144) (hz:∀ p∈s.tab,p.1.size≤1048576) (hc:s.count≤549755813888)
  (hlen:s.used.length≤4096) (htab:∀ p∈s.tab,p.2 < s.used.length) (hi:id.size≤1048576) :
  Calls Tryz.prog 31 #[.pointer (some ⟨X.st,0,none⟩),.string id] w (yN B X s w (s.drop id).1 (.int .i64 (s.drop id).2)):=by
 have HD:=aH h
 have HF:=aH hf
 have hlk:=aIO h.tab id (by simp only[maxLen];omega)
 obtain⟨y0,y1,y2,y3⟩:=h.cells
 cases hfd:D.find s.tab id with
 | none =>
  have hG:s.drop id=(s,90):=by unfold S.Sto.drop;rw[hfd]
  rw[hG]
  rw[hfd]at hlk
  clear h hf hu hz htab y0 y1 y3
  go_enter Tryz.func31,Tryz.ntmps31
  go_wp2
  go_ret
  exact⟨rfl,X,HD.out,aO.refl _ _,rfl,rfl,rfl⟩
 | some no =>
 have hmem:(id,no)∈s.tab:=D.aI hfd
 have hno:no < s.used.length:=htab _ hmem
 rw[hfd]at hlk
 obtain⟨Y,hY⟩:∃ Y,S.add s.d s.count 2 no id=Y:=⟨_,rfl⟩
 obtain⟨G,hG⟩:∃ G,s.drop id=G:=⟨_,rfl⟩
 have HG:Hid (G=if Y.2.1=s.count then (({ s with d:=Y.1 }:S.Sto),Y.2.2) else ((({ s with d:=Y.1,count:=Y.2.1,tab:=D.del s.tab id }:S.Sto).free no).tidy,Y.2.2)):=aH (by
  rw[← hG,← hY]
  unfold S.Sto.drop
  rw[hfd])
 rw[hG]
 have HCN:=aH (count_any B X.lg X.M s.d s.count w h.log)
 have HAD:=aH (add_any B X.lg X.M s.d s.count m 2 no id w h.log hf (by omega) (by omega) (by omega))
 have hF5:D.Fit (m+2) Y.1:=by rw[← hY];exact S.aAO hf _ _ _ _
 have hcnt:Y.2.1=s.count∨Y.2.1=s.count+1:=by
  rw[← hY]
  unfold S.add
  split
  ·exact .inl rfl
  ·split
   ·exact .inl rfl
   ·exact .inr rfl
 rw[hY]at HAD
 have HF5:=aH hF5
 have HU:=aH (D.qB (nm:=id) hu)
 have HZ:=aH (fun p (hp:p∈D.del s.tab id)=>hz p (D.aW.1 hp).1)
 have hdl:(D.del s.tab id).length≤s.tab.length:=List.length_filter_le _ _
 clear h hf hu hz htab hmem hfd hG hY hF5 y0 y3
 simp only[Option.getD_some,Option.isSome_some]at hlk
 go_enter Tryz.func31,Tryz.ntmps31
 go_wp2_with fail
 clear hlk y2
 refine HCN.out.mono ?_
 rintro e w1 ⟨rfl,rfl⟩
 clear HCN
 go_wp2_with fail
 clear y1
 refine HAD.out.mono ?_
 rintro e w5 ⟨rfl,M5,h5,hw5,hm5⟩
 obtain⟨d5,n5,e5⟩:=Y
 dsimp only at h5 hw5 HG hcnt HF5 ⊢
 obtain⟨h6,hw6⟩:=HD.out.logged h5 hw5 hm5
 have HD6:=aH h6
 have HW6:=aH hw6
 have HM6:=aH hm5
 have HCN:=aH (count_any B X.lg M5 d5 n5 w5 h5)
 obtain⟨y0,y1,y2,y3⟩:=h6.cells
 dsimp only at y1 y2
 clear h5 hw5 hm5 h6 hw6 HAD y0 y3
 go_wp2_with fail
 refine HCN.out.mono ?_
 rintro e w6 ⟨rfl,rfl⟩
 clear HCN y1
 by_cases hn5:n5=s.count
 ·rw[if_pos hn5]at HG
  have hnb:((n5:Int)==(s.count:Int))=true:=by rw[hn5];exact beq_self_eq_true _
  have HS5:Hid (({ s with d:=d5,count:=n5 }:S.Sto)={ s with d:=d5 }):=aH (by rw[hn5])
  rw[HS5.out]at HD6 HW6
  go_wp2
  go_ret
  exact⟨by rw[HG.out]<;>rfl,{ X with M:=M5 },by rw[HG.out];exact HD6.out,by rw[HG.out];exact HW6.out,rfl,HM6.out,rfl⟩
 ·rw[if_neg hn5]at HG
  have hnb:((n5:Int)==(s.count:Int))=false:=beq_eq_false_iff_ne.2 (by omega)
  have hn51:n5=s.count+1:=by omega
  obtain⟨s5,hs5⟩:∃ s5:S.Sto,s5={ s with d:=d5,count:=n5 }:=⟨_,rfl⟩
  have h5t:s5.tab=s.tab:=by rw[hs5]
  have HT5:=aH (show ({ s with d:=d5,count:=n5,tab:=D.del s.tab id }:S.Sto)={ s5 with tab:=D.del s.tab id } by rw[hs5])
  have h5u:s5.used.length=s.used.length:=by rw[hs5]
  have h5c:s5.count=n5:=by rw[hs5]
  have HF5d:Hid (D.Fit (m+2) s5.d):=aH (by rw[hs5];exact HF5.out)
  rw[← hs5]at HD6 HW6
  rw[HT5.out]at HG
  clear hs5 HF5 HT5
  go_wp2_with (at_delete;refine wpList_delete_own _ rfl _ _ 106 9 rfl 3 (string_keyed dA) aA0 S.xW X.tb s5.tab.length (S.rY s5.tab) rfl HD6.out.tab (.string id) (D.key id) rfl (jU id (by simp only[maxLen];omega)) ?_;intro w7 hown7 hturn7;have HOW7:=aH (aC7 hown7);have HGR7:=aH hturn7.grown;clear hown7 hturn7)
  clear y2
  have HT7:Hid (D.del s5.tab id=D.del s.tab id):=aH (by rw[h5t])
  rw[HT7.out]at HOW7
  obtain⟨h7,hw7⟩:=HD6.out.tabbed HOW7.out HGR7.out
  have HW7:=aH (HW6.out.trans hw7)
  have HFR:=aH (aFQ B { X with M:=M5 } { s5 with tab:=D.del s.tab id } no (m+2) w7 h7 HF5d.out (by omega) (by show no < s5.used.length;omega) (by omega))
  have HF8:Hid (D.Fit (m+3) (({ s5 with tab:=D.del s.tab id }:S.Sto).free no).d):=aH (S.rW (s:={ s5 with tab:=D.del s.tab id }) HF5d.out no)
  obtain⟨s8,hs8⟩:∃ s8,(({ s5 with tab:=D.del s.tab id }:S.Sto).free no)=s8:=⟨_,rfl⟩
  have h8t:s8.tab=D.del s.tab id:=by rw[← hs8];rfl
  have h8c:s8.count=n5:=by rw[← hs8];exact h5c
  rw[hs8]at HFR HF8 HG
  clear hs8 h7 hw7 HOW7 HGR7 HD6 HW6 HF5d HT7
  go_wp2_with fail
  refine HFR.out.mono ?_
  rintro e w8 ⟨rfl,X8,hs8,hw8,hst8,hd8,hlg8⟩
  have HTI:=aH (yT B X8 s8 (m+3) w8 hs8 HF8.out (by omega) (by rw[h8t];exact HU.out) (by rw[h8t];omega) (by rw[h8t];exact HZ.out) (by omega))
  have HW8:=aH (HW7.out.trans hw8)
  have HX8:Hid (X8.st=X.st∧X8.M.d=X.M.d∧X8.lg=X.lg):=aH ⟨hst8,hd8.trans HM6.out,hlg8⟩
  dsimp only at hst8
  rw[hst8]at HTI
  clear hs8 hw8 hst8 hd8 hlg8 HFR HW7
  go_wp2_with fail
  refine HTI.out.mono ?_
  rintro e w9 ⟨rfl,X9,hs9,hw9,hst9,hd9,hlg9⟩
  have HS9:=aH hs9
  have HW9:=aH (HW8.out.trans hw9)
  have HX9:Hid (X9.st=X.st∧X9.M.d=X.M.d∧X9.lg=X.lg):=aH ⟨hst9.trans HX8.out.1,hd9.trans HX8.out.2.1,hlg9.trans HX8.out.2.2⟩
  clear hs9 hw9 hst9 hd9 hlg9 HTI HW8
  go_wp2
  go_ret
  exact⟨by rw[HG.out]<;>rfl,X9,by rw[HG.out];exact HS9.out,by rw[HG.out];exact HW9.out,HX9.out.1,HX9.out.2.1,HX9.out.2.2⟩
namespace C
def entry (a:CSt) (id:ByteArray):Option O.Ent:=match Lr.peek a.l id with
 | some x=>some x.p.E
 | none=>match a.s with
  | some s=>s.get id
  | none=>none
end C
def aSC (B:Nat) (Z:CM) (a:CSt) (w:World) (x:Option O.Ent) (e:Ending) (w':World):Prop :=
 ∃ p:EP,e=.returned (.tuple #[p.v,.bool x.isSome])∧p.E=x.getD O.Ent.zero∧gZ w' B p∧Below w.heap.size w w'∧∀ k,ownB p.A p.c=some k∨ownB p.X p.d=some k→¬ Z.foot a k
theorem CAt.lt {B room k:Nat} {Z:CM} {a:CSt} {w:World} (h:CAt B room Z a w) (hk:Z.foot a k):k < w.heap.size:=by
 rcases hk with hk | rfl | ⟨s,hs,hk⟩
 ·exact h.mem.lt hk
 ·exact h.hid.lt
 ·exact (h.sto s hs).lt hk
theorem CAt.offs {B room k:Nat} {Z:CM} {a:CSt} {w:World} (h:CAt B room Z a w) {x:It} (hx:x∈a.l) (hk:ownB x.p.A x.p.c=some k∨ownB x.p.X x.p.d=some k):¬ Z.foot a k:=by
 have ht:∃ T,Tag w k T∧T≠Lr.tT∧T≠Lr.nT:=by
  rcases hk with hk | hk
  ·exact⟨_,(h.mem.own x hx).1.tag hk,by decide,by decide⟩
  ·exact⟨_,(h.mem.own x hx).2.tag hk,by decide,by decide⟩
 obtain⟨T,h1,h2,h3⟩:=ht
 rintro (hf | rfl | ⟨s,hs,hf⟩)
 ·exact h.mem.off h1 h2 h3 hf
 ·exact h1.map (aC h.hid) rfl
 ·exact h.sep s hs x hx k hk hf
section
variable {w:World} {b b':Nat} {cs:Array Value} {T:TypeId}
theorem Blk.nine_far (h:Blk w b cs T) (hn:b≠b') (y0 y1 y2 y3 y4 y5 y6 y7 y8:Value):Blk (nine w b' y0 y1 y2 y3 y4 y5 y6 y7 y8) b cs T :=
 (dQ (F:=fun k=>k=b') rfl y0 y1 y2 y3 y4 y5 y6 y7 y8).blk h hn
theorem gZ.nine_far {B:Nat} {p:EP} (h:gZ w B p) (ht:Tag w b 41) (y0 y1 y2 y3 y4 y5 y6 y7 y8:Value):gZ (nine w b y0 y1 y2 y3 y4 y5 y6 y7 y8) B p :=
 ⟨(dQ (F:=fun k=>k=b) rfl y0 y1 y2 y3 y4 y5 y6 y7 y8).row h.1 (fun k hk=>(h.1.tag hk).ne ht (by decide)),(dQ (F:=fun k=>k=b) rfl y0 y1 y2 y3 y4 y5 y6 y7 y8).row h.2 (fun k hk=>(h.2.tag hk).ne ht (by decide))⟩
end
theorem aCB (B room:Nat) (Z:CM) (a:CSt) (id:ByteArray) (m:Nat) (w:World) (h:CAt B room Z a w) (hs:id.size≤1073741824) (hf:∀ s,a.s=some s→D.Fit m s.d∧∀ p∈s.tab,p.2 < 4096) (hm:m≤268435456) (ht:Tabs w) (hB:B≤w.heap.size) :
  Calls Tryz.prog 28 #[.pointer (some ⟨Z.c,0,none⟩),.string id] w (aSC B Z a w (C.entry a id)):=by
 obtain⟨w0,hw0⟩:∃ w0,w.alloc (.cells #[.string ⟨#[]⟩,.string ⟨#[]⟩,.int .i64 0,.string ⟨#[]⟩,.int .i64 0,.slice none 0 0,.slice none 0 0,.int .i64 0,.int .i64 0] 41)=w0:=⟨_,rfl⟩
 have hb0:Below w.heap.size w w0:=by rw[← hw0];exact (zB _ _).alloc (zA _) _
 have hk0:Blk w0 w.heap.size #[.string ⟨#[]⟩,.string ⟨#[]⟩,.int .i64 0,.string ⟨#[]⟩,.int .i64 0,.slice none 0 0,.slice none 0 0,.int .i64 0,.int .i64 0] 41:=by rw[← hw0];exact Blk.new w _ _
 have h0:=h.below hb0
 obtain⟨y,hy1,hy2,hy3,hy4⟩:∃ y:EP,itV (Lr.peek a.l id)=y.v∧gZ w0 B y∧y.E=((Lr.peek a.l id).map (·.p.E)).getD O.Ent.zero∧∀ k,ownB y.A y.c=some k∨ownB y.X y.d=some k→¬ Z.foot a k:=by
  cases hp:Lr.peek a.l id with
  | none=>exact⟨EP.nil,rfl,⟨Row.none_ _ _ _ _,Row.none_ _ _ _ _⟩,rfl,fun k hk=>by rcases hk with hk | hk<;>cases hk⟩
  | some x=>exact⟨x.p,rfl,h0.mem.own x (List.mem_of_find?_eq_some hp),rfl,fun k hk=>h.offs (List.mem_of_find?_eq_some hp) hk⟩
 have HPK:=aH (kU B Z.t Z.m room a.l id w0 h0.mem hs)
 unfold aEN at HPK
 rw[hy1]at HPK
 obtain⟨y0,y1,y2⟩:=h0.cells
 have HB0:=aH hb0
 have HK0:=aH hk0
 have H0:=aH h0
 have HY:=aH hy2
 have HYE:=aH hy3
 have HYF:=aH hy4
 have HLT:=aH (fun k (hk:Z.foot a k)=>h.lt hk)
 have HF:=aH hf
 have HT:=aH (ht.below hb0)
 obtain⟨ok,hok⟩:∃ ok,(Lr.peek a.l id).isSome=ok:=⟨_,rfl⟩
 rw[hok]at HPK
 have HOK:=aH hok
 clear hb0 hk0 h0 hy1 hy2 hy3 hy4 hf ht hok h
 go_enter Tryz.func28,Tryz.ntmps28
 go_wp2_with fail
 clear hw0
 refine HPK.out.mono ?_
 rintro e w1 ⟨rfl,hb1⟩
 obtain⟨w2,hw2⟩:∃ w2,w1.alloc (.cells #[.string ⟨#[]⟩,.string ⟨#[]⟩,.int .i64 0,.string ⟨#[]⟩,.int .i64 0,.slice none 0 0,.slice none 0 0,.int .i64 0,.int .i64 0] 41)=w2:=⟨_,rfl⟩
 have hb2:Below w1.heap.size w1 w2:=by rw[← hw2];exact (zB _ _).alloc (zA _) _
 have hk2:Blk w2 w1.heap.size #[.string ⟨#[]⟩,.string ⟨#[]⟩,.int .i64 0,.string ⟨#[]⟩,.int .i64 0,.slice none 0 0,.slice none 0 0,.int .i64 0,.int .i64 0] 41:=by rw[← hw2];exact Blk.new w1 _ _
 obtain⟨z0,z1,z2,z3,z4,z5,z6,z7,z8⟩:=hk2.cells9
 obtain⟨g0,g1,g2,g3,g4,g5,g6,g7,g8⟩:=hk2.free9
 have hk3:=hk2.set9 (.string y.E.k) (.string y.E.v) (.int .i64 y.E.s) (.string y.E.r) (.int .i64 y.E.m) (.slice y.A y.E.fs.length y.c) (.slice y.X y.E.body.length y.d) (.int .i64 y.E.asked) (.int .i64 y.E.got)
 have hne:w.heap.size≠w1.heap.size:=by have h1:=hb1.size;have h2:=HK0.out.lt;omega
 have HK3:=aH ((((HK0.out.below hb1).below hb2)).nine_far hne (.string y.E.k) (.string y.E.v) (.int .i64 y.E.s) (.string y.E.r) (.int .i64 y.E.m) (.slice y.A y.E.fs.length y.c) (.slice y.X y.E.body.length y.d) (.int .i64 y.E.asked) (.int .i64 y.E.got))
 have HB3:=aH (aN (aA (bD HB0.out.size hb1.size) (aA HB0.out.size HB0.out hb1) hb2) (bD HB0.out.size hb1.size) (.string y.E.k) (.string y.E.v) (.int .i64 y.E.s) (.string y.E.r) (.int .i64 y.E.m) (.slice y.A y.E.fs.length y.c) (.slice y.X y.E.body.length y.d) (.int .i64 y.E.asked) (.int .i64 y.E.got))
 have HW3:=aH (aN hb2 (zA _) (.string y.E.k) (.string y.E.v) (.int .i64 y.E.s) (.string y.E.r) (.int .i64 y.E.m) (.slice y.A y.E.fs.length y.c) (.slice y.X y.E.body.length y.d) (.int .i64 y.E.asked) (.int .i64 y.E.got))
 have HY3:=aH (((HY.out.below hb1).below hb2).nine_far hk2.tag (.string y.E.k) (.string y.E.v) (.int .i64 y.E.s) (.string y.E.r) (.int .i64 y.E.m) (.slice y.A y.E.fs.length y.c) (.slice y.X y.E.body.length y.d) (.int .i64 y.E.asked) (.int .i64 y.E.got))
 have HB1:=aH hb1
 unfold nine at hk3 HK3 HB3 HY3 HW3
 obtain⟨w3,hw3⟩:∃ w3,(((((((((w2.setCell ⟨w1.heap.size,0,none⟩ (.string y.E.k)).setCell ⟨w1.heap.size,1,none⟩ (.string y.E.v)).setCell ⟨w1.heap.size,2,none⟩ (.int .i64 y.E.s)).setCell ⟨w1.heap.size,3,none⟩ (.string y.E.r)).setCell ⟨w1.heap.size,4,none⟩ (.int .i64 y.E.m)).setCell ⟨w1.heap.size,5,none⟩ (.slice y.A y.E.fs.length y.c)).setCell ⟨w1.heap.size,6,none⟩ (.slice y.X y.E.body.length y.d)).setCell ⟨w1.heap.size,7,none⟩ (.int .i64 y.E.asked)).setCell ⟨w1.heap.size,8,none⟩ (.int .i64 y.E.got))=w3:=⟨_,rfl⟩
 rw[hw3]at hk3 HK3 HB3 HY3 HW3
 obtain⟨x0,x1,x2,x3,x4,x5,x6,x7,x8⟩:=hk3.cells9
 obtain⟨r0,r1,r2,r3,r4,r5,r6,r7,r8⟩:=HK3.out.free9
 obtain⟨v0,v1,v2,v3,v4,v5,v6,v7,v8⟩:=HK3.out.cells9
 have H3:=aH ((H0.out.below hb1).below HW3.out)
 obtain⟨y0,y1,y2⟩:=H3.out.cells
 clear hb1 hk2 hk3 hb2 HPK
 unfold EP.v lW
 cases hp:Lr.peek a.l id with
 | some x =>
  have hok:ok=true:=by rw[← HOK.out,hp];rfl
  subst hok
  have HP:=aH hp
  clear hp
  go_wp2_with fail
  clear x0 x1 x2 x3 x4 x5 x6 x7 x8 v0 v1 v2 v3 v4 v5 v6 v7 v8 r0 r1 r2 r3 r4 r5 r6 r7 r8 z0 z1 z2 z3 z4 z5 z6 z7 z8 g0 g1 g2 g3 g4 g5 g6 g7 g8 hw3 hw2 y0 y1 y2
  obtain⟨d0,d1,d2,d3,d4,d5,d6,d7,d8⟩:=(HK3.out.set9 (.string y.E.k) (.string y.E.v) (.int .i64 y.E.s) (.string y.E.r) (.int .i64 y.E.m) (.slice y.A y.E.fs.length y.c) (.slice y.X y.E.body.length y.d) (.int .i64 y.E.asked) (.int .i64 y.E.got)).cells9
  unfold nine at d0 d1 d2 d3 d4 d5 d6 d7 d8
  refine bK (v:=.tuple #[.agg #[.string y.E.k,.string y.E.v,.int .i64 y.E.s,.string y.E.r,.int .i64 y.E.m,.slice y.A y.E.fs.length y.c,.slice y.X y.E.body.length y.d,.int .i64 y.E.asked,.int .i64 y.E.got],.bool true]) (by simp [results,Tryz.results28,go_sem,d0,d1,d2,d3,d4,d5,d6,d7,d8]) rfl ?_
  have hen:C.entry a id=some x.p.E:=by unfold C.entry;rw[HP.out]
  rw[hen]
  refine⟨y,rfl,?_,HY3.out.nine_far HK3.out.tag (.string y.E.k) (.string y.E.v) (.int .i64 y.E.s) (.string y.E.r) (.int .i64 y.E.m) (.slice y.A y.E.fs.length y.c) (.slice y.X y.E.body.length y.d) (.int .i64 y.E.asked) (.int .i64 y.E.got),aN HB3.out (zA _) (.string y.E.k) (.string y.E.v) (.int .i64 y.E.s) (.string y.E.r) (.int .i64 y.E.m) (.slice y.A y.E.fs.length y.c) (.slice y.X y.E.body.length y.d) (.int .i64 y.E.asked) (.int .i64 y.E.got),HYF.out⟩
  rw[HYE.out,HP.out]
  rfl
 | none =>
  have hok:ok=false:=by rw[← HOK.out,hp];rfl
  subst hok
  have HP:=aH hp
  clear hp
  cases hs2:a.s with
  | none =>
   rw[hs2]at y0
   have HS:=aH hs2
   clear hs2
   dsimp only[Option.map]at y0
   go_wp2_with fail
   clear x0 x1 x2 x3 x4 x5 x6 x7 x8 v0 v1 v2 v3 v4 v5 v6 v7 v8 r0 r1 r2 r3 r4 r5 r6 r7 r8 z0 z1 z2 z3 z4 z5 z6 z7 z8 g0 g1 g2 g3 g4 g5 g6 g7 g8 hw3 hw2 y0 y1 y2
   obtain⟨d0,d1,d2,d3,d4,d5,d6,d7,d8⟩:=(HK3.out.set9 (.string y.E.k) (.string y.E.v) (.int .i64 y.E.s) (.string y.E.r) (.int .i64 y.E.m) (.slice y.A y.E.fs.length y.c) (.slice y.X y.E.body.length y.d) (.int .i64 y.E.asked) (.int .i64 y.E.got)).cells9
   unfold nine at d0 d1 d2 d3 d4 d5 d6 d7 d8
   refine bK (v:=.tuple #[.agg #[.string y.E.k,.string y.E.v,.int .i64 y.E.s,.string y.E.r,.int .i64 y.E.m,.slice y.A y.E.fs.length y.c,.slice y.X y.E.body.length y.d,.int .i64 y.E.asked,.int .i64 y.E.got],.bool false]) (by simp [results,Tryz.results28,go_sem,d0,d1,d2,d3,d4,d5,d6,d7,d8]) rfl ?_
   have hen:C.entry a id=none:=by unfold C.entry;rw[HP.out];simp only;rw[HS.out]
   rw[hen]
   refine⟨y,rfl,?_,HY3.out.nine_far HK3.out.tag (.string y.E.k) (.string y.E.v) (.int .i64 y.E.s) (.string y.E.r) (.int .i64 y.E.m) (.slice y.A y.E.fs.length y.c) (.slice y.X y.E.body.length y.d) (.int .i64 y.E.asked) (.int .i64 y.E.got),aN HB3.out (zA _) (.string y.E.k) (.string y.E.v) (.int .i64 y.E.s) (.string y.E.r) (.int .i64 y.E.m) (.slice y.A y.E.fs.length y.c) (.slice y.X y.E.body.length y.d) (.int .i64 y.E.asked) (.int .i64 y.E.got),HYF.out⟩
   rw[HYE.out,HP.out]
   rfl
  | some s =>
   rw[hs2]at y0
   have HGT:=aH (aL5 B Z.X s id m w3 (H3.out.sto s hs2) (HF.out s hs2).1 hm (HF.out s hs2).2 (by omega) (HT.out.below (aA (bD (zA _) HB1.out.size) HB1.out HW3.out)))
   have HS:=aH hs2
   clear hs2
   dsimp only[Option.map]at y0
   go_wp2_with fail
   clear x0 x1 x2 x3 x4 x5 x6 x7 x8 v0 v1 v2 v3 v4 v5 v6 v7 v8 r0 r1 r2 r3 r4 r5 r6 r7 r8 z0 z1 z2 z3 z4 z5 z6 z7 z8 g0 g1 g2 g3 g4 g5 g6 g7 g8 hw3 hw2 y0 y1 y2
   refine HGT.out.mono ?_
   rintro e w4 ⟨A,c,Xb,dd,rfl,hr1,hr2,hb4⟩
   have HEN:Hid (C.entry a id=s.get id):=aH (by unfold C.entry;rw[HP.out];simp only;rw[HS.out])
   obtain⟨g,hgE,hgA,hgc,hgX,hgd⟩:∃ g:EP,g.E=(s.get id).getD O.Ent.zero∧g.A=A∧g.c=c∧g.X=Xb∧g.d=dd:=⟨⟨_,A,c,Xb,dd⟩,rfl,rfl,rfl,rfl,rfl⟩
   subst hgA hgc hgX hgd
   rw[← hgE]at hr1 hr2 ⊢
   obtain⟨okg,hokg⟩:∃ okg,(s.get id).isSome=okg:=⟨_,rfl⟩
   rw[hokg]
   have HGE:=aH hgE
   have HOG:=aH hokg
   have HK4:=aH (HK3.out.below hb4)
   have HB4:=aH (aA HB3.out.size HB3.out hb4)
   have HG4:=aH (⟨hr1.mono (bD hB HB3.out.size),hr2.mono (bD hB HB3.out.size)⟩:gZ w4 B g)
   obtain⟨r0,r1,r2,r3,r4,r5,r6,r7,r8⟩:=HK4.out.free9
   obtain⟨v0,v1,v2,v3,v4,v5,v6,v7,v8⟩:=HK4.out.cells9
   have HGF:=aH (fun k (hk:ownB g.A g.c=some k∨ownB g.X g.d=some k) (hf:Z.foot a k)=>(by
    have h1:=HLT.out k hf
    have h2:=HB3.out.size
    rcases hk with hk | hk
    ·have h3:=(hr1.lt k hk).1
     omega
    ·have h3:=(hr2.lt k hk).1
     omega:False))
   clear hr1 hr2 hb4 hgE hokg HGT
   unfold lW
   go_wp2_with fail
   clear v0 v1 v2 v3 v4 v5 v6 v7 v8 r0 r1 r2 r3 r4 r5 r6 r7 r8
   obtain⟨d0,d1,d2,d3,d4,d5,d6,d7,d8⟩:=(HK4.out.set9 (.string g.E.k) (.string g.E.v) (.int .i64 g.E.s) (.string g.E.r) (.int .i64 g.E.m) (.slice g.A g.E.fs.length g.c) (.slice g.X g.E.body.length g.d) (.int .i64 g.E.asked) (.int .i64 g.E.got)).cells9
   unfold nine at d0 d1 d2 d3 d4 d5 d6 d7 d8
   refine bK (v:=.tuple #[.agg #[.string g.E.k,.string g.E.v,.int .i64 g.E.s,.string g.E.r,.int .i64 g.E.m,.slice g.A g.E.fs.length g.c,.slice g.X g.E.body.length g.d,.int .i64 g.E.asked,.int .i64 g.E.got],.bool okg]) (by simp [results,Tryz.results28,go_sem,d0,d1,d2,d3,d4,d5,d6,d7,d8]) rfl ?_
   rw[HEN.out]
   refine⟨g,by rw[HOG.out];rfl,HGE.out,gZ.nine_far HG4.out HK4.out.tag (.string g.E.k) (.string g.E.v) (.int .i64 g.E.s) (.string g.E.r) (.int .i64 g.E.m) (.slice g.A g.E.fs.length g.c) (.slice g.X g.E.body.length g.d) (.int .i64 g.E.asked) (.int .i64 g.E.got),aN HB4.out (zA _) (.string g.E.k) (.string g.E.v) (.int .i64 g.E.s) (.string g.E.r) (.int .i64 g.E.m) (.slice g.A g.E.fs.length g.c) (.slice g.X g.E.body.length g.d) (.int .i64 g.E.asked) (.int .i64 g.E.got),HGF.out⟩
end Go.Proofs.YthjeglnkgdpijaaGreatDoor
namespace Go.Proofs.YthjeglnkgdpijaaGreatDoor
open Go Go.RowKit
theorem aGJ (l:List ByteArray):aF l=(l.map L).map encStr:=by
 unfold aF
 rw[List.map_map]
 apply List.map_congr_left
 intro x _
 rfl
theorem yE (l:List (List UInt8)):l.map encStr=aF (l.map B):=by
 unfold aF
 rw[List.map_map]
 apply List.map_congr_left
 intro x _
 rfl
section
variable {w w':World} {A:Option Addr} {n c base:Nat} {xs:List ByteArray}
theorem Row.forms (h:Row w base 9 1 A n c (aF xs)):n=xs.length∧(n=0∨∃ g cur,A=some ⟨g,0,none⟩∧base≤g∧w.heap[g]?=some (.cells cur 9 (0,0))∧n≤c∧c≤maxLen∧cur.size=c * 1∧cur.toList.take (n * 1)=(xs.map L).map encStr):=by
 have hl:=h.len
 unfold aF at hl
 rw[List.length_map]at hl
 refine⟨by omega,?_⟩
 rcases h with h | ⟨h1,_,_⟩
 ·rcases h.2 with ⟨h0,h1⟩ | ⟨g,cap,cur,h0,hg,hb,h1,h2,h3,h4⟩
  ·left
   cases h0
   have:=h.1
   first | omega | (rw[h1]at hl;simpa using hl.symm)
  ·cases h0
   exact .inr ⟨g,cur,rfl,hg,hb,h1,h2,h3,by rw[h4,aGJ]⟩
 ·exact .inl h1
end
theorem sS (base:Nat) (A:Option Addr) (n c:Nat) (xs:List ByteArray) (w:World) (h:Row w base 9 1 A n c (aF xs)) (hn:n≤1099511627776) :
  Calls Tryz.prog 63 #[.slice A n c] w (fun e w'=>e=.returned (.tuple #[])∧Row w' base 9 1 A n c (aF (sortB xs))∧w.grownBy w' (ownB A c)):=by
 obtain⟨hl,h0 | ⟨g,cur,rfl,hg,hb,h1,h2,h3,h4⟩⟩:=h.forms
 ·subst h0
  have hx:xs=[]:=List.length_eq_zero_iff.1 hl.symm
  subst hx
  refine (Tryz.slices_Sort_string_none A c w).mono ?_
  rintro e w' ⟨rfl,rfl⟩
  exact⟨rfl,by simpa [sortB] using h,World.grownBy.refl _ _⟩
 ·have hl2:(xs.map L).length=n:=by rw[List.length_map,hl]
  have hlt:g < w.heap.size:=(Array.getElem?_eq_some_iff.1 hb).1
  have hH:Go.Sort.Holds encStr w g 0 (xs.map L).toArray:=holds_of_block hb (by rw[hl2,← Nat.mul_one n];exact h4)
  have hc:=Tryz.slices_Sort_string g 0 c (xs.map L) w hH hlt (by omega)
  rw[hl2]at hc
  refine hc.mono ?_
  rintro e w' ⟨rfl,q,os,rfl⟩
  refine⟨rfl,.inl ?_,?_⟩
  ·have ho:=ownsRow_sorted (n:=q) (os:=os) (ss:=xs.map L) (ts:=(xs.map L).mergeSort fun x y=>decide (x≤y)) (by simp) hg hb (by omega) h2 h3
   rw[hl2,yE]at ho
   exact ho
  ·by_cases hc0:c=0
   ·have hx:xs=[]:=List.length_eq_zero_iff.1 (by omega)
    subst hx
    have hg2:=grownBy_sorted (w:=w) (g:=g) (n:=q) (os:=os) ((List.mergeSort ([].map L) fun x y=>decide (x≤y)).toArray)
    refine⟨hg2.os,hg2.tape,hg2.output,hg2.size,fun k hk _=>?_⟩
    by_cases hk2:k=g
    ·subst hk2
     rw[heap_sorted _ hb,hb]
     congr 2
     have h5:cur=#[]:=Array.eq_empty_of_size_eq_zero (by rw[h3,hc0])
     subst h5
     simp [Sort.putCells]
    ·exact hg2.block k hk (fun e=>hk2 (by simpa using e))
   ·have:ownB (some ⟨g,0,none⟩) c=some g:=by unfold ownB;rw[if_neg hc0];rfl
    rw[this]
    exact grownBy_sorted _
theorem yI (zs:List (List UInt8)):(Lib.compact zs).length≤zs.length:=by
 have h:∀ m,(Lib.compactUpTo zs.toArray m).length≤m:=fun m=>by
  induction m with
  | zero=>exact zA _
  | succ m ih =>
   rw[Lib.compactUpTo_succ,bC]
   split
   ·simp;omega
   ·simp;omega
 have:=h zs.length
 simpa [Lib.compact] using this
theorem lK (base:Nat) (A:Option Addr) (n c:Nat) (xs:List ByteArray) (w:World) (h:Row w base 9 1 A n c (aF xs)) (hn:n≤1099511627776) :
  Calls Tryz.prog 64 #[.slice A n c] w (fun e w'=>e=.returned (.slice A (dK xs).length c)∧Row w' base 9 1 A (dK xs).length c (aF (dK xs))∧w.grownBy w' (ownB A c)):=by
 obtain⟨hl,h0 | ⟨g,cur,rfl,hg,hb,h1,h2,h3,h4⟩⟩:=h.forms
 ·subst h0
  have hx:xs=[]:=List.length_eq_zero_iff.1 hl.symm
  subst hx
  refine (Tryz.slices_Compact_string_empty A c w).mono ?_
  rintro e w' ⟨rfl,rfl⟩
  exact⟨rfl,h,World.grownBy.refl _ _⟩
 ·have hl2:(xs.map L).length=n:=by rw[List.length_map,hl]
  have hH:Go.Sort.Holds encStr w g 0 (xs.map L).toArray:=holds_of_block hb (by rw[hl2,← Nat.mul_one n];exact h4)
  have hc:=Tryz.slices_Compact_string g 0 c (xs.map L) w hH (by omega) (by omega)
  rw[hl2]at hc
  refine hc.mono ?_
  have hcl:(Lib.compact (xs.map L)).length=(dK xs).length:=by unfold dK;rw[List.length_map]
  have hle:(dK xs).length≤n:=by rw[← hcl,← hl2];exact yI _
  rintro e w' ⟨rfl,q,rfl⟩
  rw[hcl]
  obtain⟨ts,hts⟩:∃ ts,Lib.compact (xs.map L)++List.replicate (n - (dK xs).length) []=ts:=⟨_,rfl⟩
  have htl:ts.length=n:=by rw[← hts,bC,hcl,List.length_replicate];omega
  rw[hts]
  refine⟨rfl,.inl ⟨by unfold aF;rw[List.length_map,Nat.mul_one],.inr ⟨g,c,_,rfl,hg,heap_sorted (n:=q) (os:=#[]) ts.toArray hb,by omega,h2,by simp [Sort.putCells,h3],?_⟩⟩,?_⟩
  ·have h5:=take_putCells cur ts (by omega)
   rw[Nat.mul_one]
   have h6:((Sort.putCells encStr 0 ts.toArray cur).toList.take ts.length).take (dK xs).length=(ts.map encStr).take (dK xs).length:=by rw[h5]
   rw[List.take_take,htl,Nat.min_eq_left hle,← List.map_take]at h6
   have h7:ts.take (dK xs).length=Lib.compact (xs.map L):=by rw[← hts,List.take_append_of_le_length (by omega),List.take_of_length_le (by omega)]
   rw[h7,yE]at h6
   exact h6
  ·by_cases hc0:c=0
   ·have hg2:=grownBy_sorted (w:=w) (g:=g) (n:=q) (os:=#[]) ts.toArray
    refine⟨hg2.os,hg2.tape,hg2.output,hg2.size,fun k hk _=>?_⟩
    by_cases hk2:k=g
    ·subst hk2
     have h8:=heap_sorted (n:=q) (os:=#[]) ts.toArray hb
     have h5:cur=#[]:=Array.eq_empty_of_size_eq_zero (by rw[h3,hc0])
     subst h5
     rw[Go.Sort.grow_empty]at h8
     rw[h8,hb]
     simp [Sort.putCells]
    ·exact hg2.block k hk (fun e=>hk2 (by simpa using e))
   ·have:ownB (some ⟨g,0,none⟩) c=some g:=by unfold ownB;rw[if_neg hc0];rfl
    rw[this]
    exact grownBy_sorted (os:=#[]) _
end Go.Proofs.YthjeglnkgdpijaaGreatDoor
