/- The walks of lru's Get and Put at entries (printed by gen/lruc.py). Conditions: keys of at most 2^30 bytes; sizes of at least one byte. The walk of cache.copied: an entry as new memory (printed by gen/cachea.py). An argument that is a list of fields, a string or a struct of these, opened to what a walk reads; its bulk; and read again behind the call. No condition: plain lemmas. A parameter that is a response, opened. No condition: plain lemmas. A parameter that is a request, a target, a list of bytes, opened. No condition: plain lemmas. A parameter that is an entry, opened. No condition: plain lemmas. The walk of vary.Names. Conditions: lengths of at most 2^40. -/
import Derived.Test.YthjeglnkgdpijaaGreatDoorLruB
import Derived.Deep.Slices
import Derived.Deep.Fields
import Derived.ChangeSame
import Derived.DataReads
import Derived.WideKeyArgs
import Derived.Lib.SmallJoins
import Derived.ChangeSlices
import Derived.ChangeArms
set_option maxHeartbeats 2000000
set_option maxRecDepth 100000
namespace Go.Proofs.YthjeglnkgdpijaaGreatDoor
open Go Go.RowKit Go.Maps
open Lr (Ring NodeC TabC Fr nx pv adr)
namespace Lr
section
variable {l:List It} {j:Nat}
theorem first_perm (hj:j < l.length):(l[j]::l.eraseIdx j).Perm l:=by
 induction l generalizing j with
 | nil=>exact absurd hj (Nat.not_lt_zero _)
 | cons y r ih =>
  cases j with
  | zero=>exact List.Perm.refl _
  | succ j=>exact (List.Perm.swap _ _ _).trans ((ih (by simpa using hj)).cons y)
theorem first_same (hn:(ids l).Nodup) (hj:j < l.length):LrSame l (l[j]::l.eraseIdx j):=fun id=>by
 unfold peek
 rw[List.find?_cons]
 by_cases h:(l[j]).id=id
 ·rw[decide_eq_true h,← h]
  exact (peek_at hn hj).symm
 ·rw[decide_eq_false h]
  have:=peek_erase hn hj id
  rw[if_neg (fun e=>h e.symm)]at this
  exact this
theorem first_used (hj:j < l.length):used (l[j]::l.eraseIdx j)=used l:=by
 have:=used_erase hj
 unfold used at this ⊢
 rw[List.map_cons,List.sum_cons]
 omega
end
end Lr
section
variable {F F':Nat→Prop} {w w1:World} {b:Nat}
theorem went_new (h:Went F w F' w1) (hb:w.heap.size≤b) (i:Nat) (v:Value):Went F w F' (w1.setCell ⟨b,i,none⟩ v) :=
 ⟨h.os,h.tape,h.output,by rw[World.size_setCell];exact h.size,fun k hk hn=>(Below.heap_setCell w1 ⟨b,i,none⟩ v k (by show k≠b;omega)).trans (h.block k hk hn),h.foot⟩
theorem went_nine_new (h:Went F w F' w1) (hb:w.heap.size≤b) (y0 y1 y2 y3 y4 y5 y6 y7 y8:Value):Went F w F' (nine w1 b y0 y1 y2 y3 y4 y5 y6 y7 y8) :=
 went_new (went_new (went_new (went_new (went_new (went_new (went_new (went_new (went_new h hb 0 y0) hb 1 y1) hb 2 y2) hb 3 y3) hb 4 y4) hb 5 y5) hb 6 y6) hb 7 y7) hb 8 y8
theorem went_nine (hF:F b) (y0 y1 y2 y3 y4 y5 y6 y7 y8:Value):Went F w F (nine w b y0 y1 y2 y3 y4 y5 y6 y7 y8) :=
 (((((((((went_set hF 0 y0).trans (went_set hF 1 y1)).trans (went_set hF 2 y2)).trans (went_set hF 3 y3)).trans (went_set hF 4 y4)).trans (went_set hF 5 y5)).trans (went_set hF 6 y6)).trans (went_set hF 7 y7)).trans (went_set hF 8 y8))
theorem LrF.perm {t m k:Nat} {l l':List It} (hp:l'.Perm l) (hk:LrF t m l' k):LrF t m l k:=hk.imp id (fun h=>h.imp id (fun⟨y,hy,e⟩=>⟨y,hp.mem_iff.1 hy,e⟩))
theorem LrAt.nine {B t m room:Nat} {l:List It} (h:LrAt B t m room l w) (h0:¬ LrF t m l b) (hr:∀ x∈l,∀ k,ownB x.p.A x.p.c=some k∨ownB x.p.X x.p.d=some k→k≠b) (y0 y1 y2 y3 y4 y5 y6 y7 y8:Value):LrAt B t m room l (Go.Proofs.YthjeglnkgdpijaaGreatDoor.nine w b y0 y1 y2 y3 y4 y5 y6 y7 y8) :=
 h.went (F:=fun k=>k=b) (F':=fun k=>k=b) (went_nine (F:=fun k=>k=b) rfl _ _ _ _ _ _ _ _ _) (fun _ hk e=>h0 (e ▸ hk)) (fun x hx k hk e=>hr x hx k hk e)
end
theorem lrGet_any (B t m room:Nat) (l:List It) (id:ByteArray) (w:World) (h:LrAt B t m room l w) (hs:id.size≤1073741824) :
  Calls Tryz.prog 37 #[.pointer (some ⟨t,0,none⟩),.string id] w (fun e w'=>∃ l',e=.returned (.tuple #[itV (Lr.peek l id),.bool (Lr.peek l id).isSome])∧LrAt B t m room l' w'∧Went (LrF t m l) w (LrF t m l') w'∧LrSame l l'):=by
 obtain⟨w0,hw0⟩:∃ w0,w.alloc (.cells #[.string ⟨#[]⟩,.string ⟨#[]⟩,.int .i64 0,.string ⟨#[]⟩,.int .i64 0,.slice none 0 0,.slice none 0 0,.int .i64 0,.int .i64 0] 41)=w0:=⟨_,rfl⟩
 have hb0:Below w.heap.size w w0:=by rw[← hw0];exact (Below.refl _ _).alloc (Nat.le_refl _) _
 have hk0:=Blk.new w #[.string ⟨#[]⟩,.string ⟨#[]⟩,.int .i64 0,.string ⟨#[]⟩,.int .i64 0,.slice none 0 0,.slice none 0 0,.int .i64 0,.int .i64 0] 41
 rw[hw0]at hk0
 have h0:=h.below hb0
 have hnk:¬ LrF t m l w.heap.size:=fun hk=>Nat.lt_irrefl _ (h.lt hk)
 obtain⟨tb,t1,t2,hb⟩:=h0.base
 have hlk:=hb.look id hs
 rw[t2]at hlk
 obtain⟨y0,y1,y2⟩:=h0.tabc
 have HB0:=Lib.hid hb0
 have HK0:=Lib.hid hk0
 have HH:=Lib.hid h
 have H0:=Lib.hid h0
 have HNK:=Lib.hid hnk
 have HRN:Hid (∀ x∈l,∀ k,ownB x.p.A x.p.c=some k∨ownB x.p.X x.p.d=some k→k≠w.heap.size):=Lib.hid (fun x hx k hk=>by
  rcases hk with hk | hk
  ·have:=(h.own x hx).1.lt _ hk;omega
  ·have:=(h.own x hx).2.lt _ hk;omega)
 have HT1:=Lib.hid t1
 have HT2:=Lib.hid t2
 have HBA:=Lib.hid hb
 clear t1 t2 hb hb0 hk0 hnk h
 cases hp:Lr.peek l id with
 | none =>
  rw[hp]at hlk
  change _=Result.ok (Value.pointer none) w0 at hlk
  have HP:=Lib.hid hp
  have HPK:=Lib.hid (lrPeek_any B t m room l id w0 h0 hs)
  rw[hp]at HPK
  clear h0 hp
  go_enter Tryz.func37,Tryz.ntmps37
  go_wp2_with fail
  clear hlk y0 y1 y2 hw0
  refine HPK.out.mono ?_
  rintro e w1 ⟨rfl,hb1⟩
  have hka:=HK0.out.below hb1
  have HB1:=Lib.hid (below_then HB0.out.size HB0.out hb1)
  obtain⟨x0,x1,x2,x3,x4,x5,x6,x7,x8⟩:=hka.cells9
  obtain⟨f0,f1,f2,f3,f4,f5,f6,f7,f8⟩:=hka.free9
  have HKA:=Lib.hid hka
  have H1:=Lib.hid (H0.out.below hb1)
  clear hb1 hka HPK
  unfold itV EP.nil EP.v entV O.Ent.zero
  dsimp only[Option.isSome_none]
  go_wp2
  clear x0 x1 x2 x3 x4 x5 x6 x7 x8 f0 f1 f2 f3 f4 f5 f6 f7 f8
  obtain⟨d0,d1,d2,d3,d4,d5,d6,d7,d8⟩:=(HKA.out.set9 (.string ⟨#[]⟩) (.string ⟨#[]⟩) (.int .i64 0) (.string ⟨#[]⟩) (.int .i64 0) (.slice none 0 0) (.slice none 0 0) (.int .i64 0) (.int .i64 0)).cells9
  have hbz:=below_nine HB1.out (Nat.le_refl _) (.string ⟨#[]⟩) (.string ⟨#[]⟩) (.int .i64 0) (.string ⟨#[]⟩) (.int .i64 0) (.slice none 0 0) (.slice none 0 0) (.int .i64 0) (.int .i64 0)
  have HBZ:=Lib.hid hbz
  have hlz:=H1.out.nine HNK.out HRN.out (.string ⟨#[]⟩) (.string ⟨#[]⟩) (.int .i64 0) (.string ⟨#[]⟩) (.int .i64 0) (.slice none 0 0) (.slice none 0 0) (.int .i64 0) (.int .i64 0)
  have HLZ:=Lib.hid hlz
  unfold nine at d0 d1 d2 d3 d4 d5 d6 d7 d8
  refine bodyPost_ret (v:=.tuple #[.agg #[.string ⟨#[]⟩,.string ⟨#[]⟩,.int .i64 0,.string ⟨#[]⟩,.int .i64 0,.slice none 0 0,.slice none 0 0,.int .i64 0,.int .i64 0],.bool false]) (by simp [results,Tryz.results37,go_sem,d0,d1,d2,d3,d4,d5,d6,d7,d8]) rfl ?_
  exact⟨l,rfl,HLZ.out,(Went.below HBZ.out _),fun _=>rfl⟩
 | some y =>
  rw[hp]at hlk
  change _=Result.ok (Value.pointer (some ⟨y.k,0,none⟩)) w0 at hlk
  obtain⟨j,hj,e1,e2⟩:=Lr.peek_some hp
  have HP:=Lib.hid hp
  obtain⟨b1,o1,f1,g1,lt1,k1⟩:=h0.ring.form j
  obtain⟨b2,o2,f2,g2,lt2,k2⟩:=h0.ring.form (j+2)
  obtain⟨c1,c2,d1,d2⟩:=h0.ring.unlinks hj f1 f2
  have hxm:=List.getElem_mem hj
  have HUN:=Lib.hid (unlink_any t (l[j]'hj).k b1 o1 b2 o2 w0 c1 c2 (h0.ring.nd _ hxm).lt lt1 lt2 d1 d2 (h0.ring.freeAt k1 _) (h0.ring.freeAt k2 _))
  obtain⟨p1,p2,p3⟩:=HBA.out.unlink h0.ring (fun _ hy=>hy) hj f1 f2 k1 k2
  have hnd:=h0.one
  have hfp:=Lr.first_perm hj
  have hfs:=Lr.first_same hnd hj
  have hfu:=Lr.first_used hj
  rw[e1]at HUN hfp hfs hfu
  obtain⟨W1,hW1⟩:∃ W1,(w0.setCell ⟨b1,o1+12,none⟩ (.pointer (some ⟨b2,o2,none⟩))).setCell ⟨b2,o2+11,none⟩ (.pointer (some ⟨b1,o1,none⟩))=W1:=⟨_,rfl⟩
  rw[hW1]at p1 p2 p3 HUN
  have HP1:=Lib.hid p1
  have HP2:=Lib.hid p2
  have HP3:=Lib.hid p3
  have HFP:=Lib.hid hfp
  have HFS:=Lib.hid hfs
  have HFU:=Lib.hid hfu
  have HYM:Hid (y∈l):=Lib.hid (e1 ▸ hxm)
  have HYN:Hid (∀ z∈l.eraseIdx j,z.k≠y.k):=Lib.hid (fun z hz ez=>by
   have h9:=(hfp.map It.k).nodup_iff.2 (List.nodup_cons.1 h0.ring.apart).2
   rw[List.map_cons,List.nodup_cons]at h9
   exact h9.1 (List.mem_map.2 ⟨z,hz,ez⟩))
  -- the cells of the node that is out of the ring
  have hc11:=cell?_setCell_some (p:=⟨b1,o1+12,none⟩) (x:=.pointer (some ⟨b2,o2,none⟩)) c1
  have hc12:=cell?_setCell_some (p:=⟨b1,o1+12,none⟩) (x:=.pointer (some ⟨b2,o2,none⟩)) c2
  obtain⟨v11,hc11⟩:=hc11
  obtain⟨v12,hc12⟩:=hc12
  have hc11:=cell?_setCell_some (p:=⟨b2,o2+11,none⟩) (x:=.pointer (some ⟨b1,o1,none⟩)) hc11
  have hc12:=cell?_setCell_some (p:=⟨b2,o2+11,none⟩) (x:=.pointer (some ⟨b1,o1,none⟩)) hc12
  rw[hW1,e1]at hc11 hc12
  have HC11:=Lib.hid hc11
  have HC12:=Lib.hid hc12
  clear h0 hp c1 c2 d1 d2 g1 g2 lt1 lt2 k1 k2 f1 f2 p1 p2 p3 hW1 hfp hfs hfu hnd hxm hc11 hc12 e1 e2 HBA
  go_enter Tryz.func37,Tryz.ntmps37
  go_wp2_with fail
  clear hlk y0 y1 y2 hw0
  refine HUN.out.mono ?_
  rintro e w1 ⟨rfl,ha1⟩
  have HQ1:=Lib.hid (HP1.out.below ha1)
  have HR1:=Lib.hid (HP2.out.below ha1)
  have HW1:=Lib.hid (HP3.out.trans (Went.below ha1 _))
  have HA1:=Lib.hid ha1
  obtain⟨b,o,fb,gb,ltb,kb⟩:=HR1.out.form 1
  obtain⟨m1,m2⟩:=HR1.out.link 0 (Nat.zero_le _)
  rw[show (0:Nat)+1=1 from rfl,fb]at m1 m2
  have hyf:=(HQ1.out.node y HYM.out).2
  have h11:∃ v,w1.cell? ⟨y.k,11,none⟩=some v:=by
   obtain⟨v,hv⟩:=HC11.out
   exact⟨v,(ha1.cell (p:=⟨y.k,11,none⟩) (HP1.out.node y HYM.out).2.lt).trans hv⟩
  have h12:∃ v,w1.cell? ⟨y.k,12,none⟩=some v:=by
   obtain⟨v,hv⟩:=HC12.out
   exact⟨v,(ha1.cell (p:=⟨y.k,12,none⟩) (HP1.out.node y HYM.out).2.lt).trans hv⟩
  have HFR:=Lib.hid (front_any t y.k b o w1 m1 HR1.out.tb.lt hyf.lt ltb h11 h12 ⟨_,m2⟩ (fun i=>hyf.free i) (fun i=>HR1.out.tb.free i) (fun i=>HR1.out.freeAt kb i))
  obtain⟨u1,h11⟩:=h11
  obtain⟨u2,h12⟩:=h12
  obtain⟨q1,q2,q3⟩:=HQ1.out.front (x:=y) HR1.out (fun z hz=>List.mem_of_mem_eraseIdx hz) HYM.out HYN.out fb kb h11 h12
  have HQ2:=Lib.hid q1
  have HR2:=Lib.hid q2
  have HW2:=Lib.hid (HW1.out.trans q3)
  generalize (((w1.setCell ⟨y.k,11,none⟩ (.pointer (some ⟨t,3,none⟩))).setCell ⟨y.k,12,none⟩ (.pointer (some ⟨b,o,none⟩))).setCell ⟨t,15,none⟩ (.pointer (some ⟨y.k,0,none⟩))).setCell ⟨b,o+11,none⟩ (.pointer (some ⟨y.k,0,none⟩))=W2 at *
  clear ha1 fb gb ltb kb m1 m2 hyf h11 h12 q1 q2 q3 HUN HP1 HP2 HP3 HC11 HC12
  go_wp2_with fail
  refine HFR.out.mono ?_
  rintro e w2 ⟨rfl,ha2⟩
  have hl2:LrAt B t m room (y::l.eraseIdx j) w2:=by
   refine LrBase.at_ (tb:=tb) (l0:=l) (by rw[HFU.out];exact HQ2.out.below ha2) (HR2.out.below ha2) (fun z hz=>(HFP.out.mem_iff).1 hz) HT1.out (fun x=>by rw[HFS.out x];exact HT2.out x) ?_ (by rw[HFU.out];exact HH.out.fits) (fun z hz=>HH.out.pos z ((HFP.out.mem_iff).1 hz)) (fun z hz=>HH.out.small z ((HFP.out.mem_iff).1 hz)) ⟨HH.out.ge.1,HH.out.ge.2.1,fun z hz=>HH.out.ge.2.2 z ((HFP.out.mem_iff).1 hz)⟩
   exact (HFP.out.map It.id).nodup_iff.2 HH.out.one
  have HL2:=Lib.hid hl2
  have HPK:=Lib.hid (lrPeek_any B t m room _ id w2 hl2 hs)
  rw[HFS.out,HP.out]at HPK
  have HW3:=Lib.hid (HW2.out.trans (Went.below ha2 _))
  clear ha2 hl2 HFR HQ2 HR2 HW2
  go_wp2_with fail
  refine HPK.out.mono ?_
  rintro e w3 ⟨rfl,hb3⟩
  have HL3:=Lib.hid (HL2.out.below hb3)
  have HW4:=Lib.hid (HW3.out.trans (Went.below hb3 _))
  have hka:=HW4.out.blk HK0.out HNK.out
  obtain⟨x0,x1,x2,x3,x4,x5,x6,x7,x8⟩:=hka.cells9
  obtain⟨f0,f1,f2,f3,f4,f5,f6,f7,f8⟩:=hka.free9
  have HKA:=Lib.hid hka
  clear hb3 hka HPK HL2 HW3
  unfold itV EP.v entV
  dsimp only[Option.isSome_some]
  go_wp2
  clear x0 x1 x2 x3 x4 x5 x6 x7 x8 f0 f1 f2 f3 f4 f5 f6 f7 f8
  obtain⟨d0,d1,d2,d3,d4,d5,d6,d7,d8⟩:=(HKA.out.set9 (.string y.p.E.k) (.string y.p.E.v) (.int .i64 y.p.E.s) (.string y.p.E.r) (.int .i64 y.p.E.m) (.slice y.p.A y.p.E.fs.length y.p.c) (.slice y.p.X y.p.E.body.length y.p.d) (.int .i64 y.p.E.asked) (.int .i64 y.p.E.got)).cells9
  have hlz:=HL3.out.nine (fun hk=>HNK.out (LrF.perm HFP.out hk)) (fun x hx=>HRN.out x ((HFP.out.mem_iff).1 hx)) (.string y.p.E.k) (.string y.p.E.v) (.int .i64 y.p.E.s) (.string y.p.E.r) (.int .i64 y.p.E.m) (.slice y.p.A y.p.E.fs.length y.p.c) (.slice y.p.X y.p.E.body.length y.p.d) (.int .i64 y.p.E.asked) (.int .i64 y.p.E.got)
  have HLZ:=Lib.hid hlz
  have HWZ:=Lib.hid (went_sub (went_nine_new ((Went.below HB0.out (LrF t m l)).trans HW4.out) (Nat.le_refl _) (.string y.p.E.k) (.string y.p.E.v) (.int .i64 y.p.E.s) (.string y.p.E.r) (.int .i64 y.p.E.m) (.slice y.p.A y.p.E.fs.length y.p.c) (.slice y.p.X y.p.E.body.length y.p.d) (.int .i64 y.p.E.asked) (.int .i64 y.p.E.got)) (fun k hk=>LrF.perm HFP.out hk))
  unfold nine at d0 d1 d2 d3 d4 d5 d6 d7 d8
  refine bodyPost_ret (v:=.tuple #[.agg #[.string y.p.E.k,.string y.p.E.v,.int .i64 y.p.E.s,.string y.p.E.r,.int .i64 y.p.E.m,.slice y.p.A y.p.E.fs.length y.p.c,.slice y.p.X y.p.E.body.length y.p.d,.int .i64 y.p.E.asked,.int .i64 y.p.E.got],.bool true]) (by simp [results,Tryz.results37,go_sem,d0,d1,d2,d3,d4,d5,d6,d7,d8]) rfl ?_
  exact⟨_,rfl,HLZ.out,HWZ.out,HFS.out⟩
end Go.Proofs.YthjeglnkgdpijaaGreatDoor
namespace Go.Proofs.YthjeglnkgdpijaaGreatDoor
open Go Go.RowKit
theorem Row.nilC {w:World} {base:Nat} {e:TypeId} {size:Nat} {A:Option Addr} {n c:Nat} {xs:List Value} (h:Row w base e size A n c xs) (hA:A=none):n=0∧c=0:=by
 subst hA
 rcases h with ⟨_,h | ⟨g,cap,cur,hv,_⟩⟩ | ⟨h1,h2,_⟩
 ·obtain⟨hv,h0⟩:=h
  cases hv
  exact⟨rfl,rfl⟩
 ·cases hv
 ·exact⟨h1,h2⟩
theorem cloneF_any (A:Option Addr) (n c:Nat) (fs:List FD) (w:World) (hn:n≤1099511627776) (hx:Rd w A n 2 (fcells fs)) (hnil:A=none→n=0∧c=0) :
  Calls Tryz.prog 77 #[.slice A n c] w (fun e w'=>∃ A' c',e=.returned (.slice A' n c')∧Row w' w.heap.size 60 2 A' n c' (fcells fs)∧Below w.heap.size w w'):=by
 cases A with
 | none =>
  obtain⟨rfl,rfl⟩:=hnil rfl
  have hfs:fcells fs=[]:=List.eq_nil_of_length_eq_zero (by simpa using hx.1)
  have HF:=Lib.hid hfs
  clear hfs
  have he:=fun w=>Lib.run_eql_slice_nil (P:=Tryz.prog) w 27 _ none 0 0 (h:=Tryz.underlying27)
  go_enter Tryz.func77,Tryz.ntmps77
  go_wp2
  go_ret
  exact⟨none,0,rfl,by rw[HF.out];exact Row.none_ _ _ _ _,Below.refl _ _⟩
 | some ad =>
  have he:=fun w=>Lib.run_eql_slice_nil (P:=Tryz.prog) w 27 _ (some ad) n c (h:=Tryz.underlying27)
  clear hnil
  go_enter Tryz.func77,Tryz.ntmps77
  go_wp2_with (at_builtin;refine appF _ rfl (.tmp 5) (.tmp 6) rfl w.heap.size _ 0 0 [] rfl (Row.empty _ _ _ _ _) (some ad) n c fs rfl (hx.alloc _) (by omega) (by simp) ?_;intro A1 c1 w1 hr1 ha1;simp only[Nat.zero_add,List.nil_append]at hr1)
  go_ret
  exact⟨A1,c1,by simp,hr1,((Below.refl _ _).alloc (Nat.le_refl _) _).trans (ha1.below (Row.empty _ _ 60 2 _) (by simp))⟩
theorem cloneB_any (A:Option Addr) (n c:Nat) (bs:List UInt8) (w:World) (hn:n≤1099511627776) (hx:Rd w A n 1 (bcells bs)) (hnil:A=none→n=0∧c=0) :
  Calls Tryz.prog 49 #[.slice A n c] w (fun e w'=>∃ A' c',e=.returned (.slice A' n c')∧Row w' w.heap.size 5 1 A' n c' (bcells bs)∧Below w.heap.size w w'):=by
 cases A with
 | none =>
  obtain⟨rfl,rfl⟩:=hnil rfl
  have hfs:bcells bs=[]:=List.eq_nil_of_length_eq_zero (by simpa using hx.1)
  have HF:=Lib.hid hfs
  clear hfs
  have he:=fun w=>Lib.run_eql_slice_nil (P:=Tryz.prog) w 39 _ none 0 0 (h:=Tryz.underlying39)
  go_enter Tryz.func49,Tryz.ntmps49
  go_wp2
  go_ret
  exact⟨none,0,rfl,by rw[HF.out];exact Row.none_ _ _ _ _,Below.refl _ _⟩
 | some ad =>
  have he:=fun w=>Lib.run_eql_slice_nil (P:=Tryz.prog) w 39 _ (some ad) n c (h:=Tryz.underlying39)
  clear hnil
  go_enter Tryz.func49,Tryz.ntmps49
  go_wp2_with (at_builtin;refine appB _ rfl (.tmp 5) (.tmp 6) rfl w.heap.size _ 0 0 [] rfl (Row.empty _ _ _ _ _) (some ad) n c bs rfl (hx.alloc _) (by omega) (by simp) ?_;intro A1 c1 w1 hr1 ha1;simp only[Nat.zero_add,List.nil_append]at hr1)
  go_ret
  exact⟨A1,c1,by simp,hr1,((Below.refl _ _).alloc (Nat.le_refl _) _).trans (ha1.below (Row.empty _ _ 5 1 _) (by simp))⟩
def RetE (w:World) (E:O.Ent) (e:Ending) (w':World):Prop:=∃ p:EP,e=.returned p.v∧p.E=E∧EOwn w' w.heap.size p∧Below w.heap.size w w'
theorem copied_any (p:EP) (b:Nat) (w:World) (h:EOwn w b p) (h1:p.E.fs.length≤1099511627776) (h2:p.E.body.length≤1099511627776) :
  Calls Tryz.prog 38 #[p.v] w (RetE w p.E):=by
 obtain⟨w0,hw0⟩:∃ w0,(w.alloc (.cells #[.string p.E.k,.string p.E.v,.int .i64 p.E.s,.string p.E.r,.int .i64 p.E.m,.slice p.A p.E.fs.length p.c,.slice p.X p.E.body.length p.d,.int .i64 p.E.asked,.int .i64 p.E.got] 41)).alloc (.cells #[.string ⟨#[]⟩,.string ⟨#[]⟩,.int .i64 0,.string ⟨#[]⟩,.int .i64 0,.slice none 0 0,.slice none 0 0,.int .i64 0,.int .i64 0] 41)=w0:=⟨_,rfl⟩
 have hb0:Below w.heap.size w w0:=by rw[← hw0];exact ((Below.refl _ _).alloc (Nat.le_refl _) _).alloc (by simp) _
 have hk1:Blk w0 w.heap.size #[.string p.E.k,.string p.E.v,.int .i64 p.E.s,.string p.E.r,.int .i64 p.E.m,.slice p.A p.E.fs.length p.c,.slice p.X p.E.body.length p.d,.int .i64 p.E.asked,.int .i64 p.E.got] 41:=by rw[← hw0];exact (Blk.new w _ _).alloc _
 have hk2:Blk w0 (w.heap.size+1) #[.string ⟨#[]⟩,.string ⟨#[]⟩,.int .i64 0,.string ⟨#[]⟩,.int .i64 0,.slice none 0 0,.slice none 0 0,.int .i64 0,.int .i64 0] 41:=by
  rw[← hw0]
  have:=Blk.new (w.alloc (.cells #[.string p.E.k,.string p.E.v,.int .i64 p.E.s,.string p.E.r,.int .i64 p.E.m,.slice p.A p.E.fs.length p.c,.slice p.X p.E.body.length p.d,.int .i64 p.E.asked,.int .i64 p.E.got] 41)) #[.string ⟨#[]⟩,.string ⟨#[]⟩,.int .i64 0,.string ⟨#[]⟩,.int .i64 0,.slice none 0 0,.slice none 0 0,.int .i64 0,.int .i64 0] 41
  rwa [World.size_alloc]at this
 have HB0:=Lib.hid hb0
 have HK1:=Lib.hid hk1
 have HK2:=Lib.hid hk2
 have HO:=Lib.hid (h.below hb0)
 have HCF:=Lib.hid (cloneF_any p.A p.E.fs.length p.c p.E.fs w0 h1 (HO.out.1.rd) h.1.nilC)
 have HCB:=Lib.hid (fun u (hu:Rd u p.X p.E.body.length 1 (bcells p.E.body))=>cloneB_any p.X p.E.body.length p.d p.E.body u h2 hu h.2.nilC)
 have HOL:=Lib.hid (fun k (hk:ownB p.X p.d=some k)=>(h.2.lt k hk).2)
 have HSZ:Hid (w.heap.size+2=w0.heap.size):=Lib.hid (by rw[← hw0];simp)
 obtain⟨x0,x1,x2,x3,x4,x5,x6,x7,x8⟩:=hk1.cells9
 clear hb0 hk1 hk2 h
 unfold EP.v entV
 go_enter Tryz.func38,Tryz.ntmps38
 go_wp2_with fail
 clear x0 x1 x2 x3 x4 x5 x6 x7 x8 hw0
 refine HCF.out.mono ?_
 rintro e w1 ⟨A1,c1,rfl,hr1,hb1⟩
 have hk1:Blk (w1.setCell ⟨w.heap.size,5,none⟩ (.slice A1 p.E.fs.length c1)) w.heap.size #[.string p.E.k,.string p.E.v,.int .i64 p.E.s,.string p.E.r,.int .i64 p.E.m,.slice A1 p.E.fs.length c1,.slice p.X p.E.body.length p.d,.int .i64 p.E.asked,.int .i64 p.E.got] 41:=(HK1.out.below hb1).set 5 _
 have hk2:Blk (w1.setCell ⟨w.heap.size,5,none⟩ (.slice A1 p.E.fs.length c1)) (w.heap.size+1) #[.string ⟨#[]⟩,.string ⟨#[]⟩,.int .i64 0,.string ⟨#[]⟩,.int .i64 0,.slice none 0 0,.slice none 0 0,.int .i64 0,.int .i64 0] 41:=(HK2.out.below hb1).far 5 _ (by omega)
 have f5:=(HK1.out.below hb1).free 5
 have y5:=(HK1.out.below hb1).cell 5 rfl
 have hg:=grown_set w1 w.heap.size 5 (.slice A1 p.E.fs.length c1)
 have hw:=Went.grown (F:=fun k=>k=w.heap.size) (F':=fun k=>k=w.heap.size) hg (fun k e=>by cases e;rfl) (fun _ h=>.inl h)
 have HBA:=Lib.hid ((below_then HB0.out.size HB0.out hb1).grown hg (Nat.le_trans HB0.out.size hb1.size) (fun k e=>by cases e;exact Nat.le_refl _))
 have HRA:=Lib.hid (hw.row hr1 (fun k hk e=>by have h3:=(hr1.lt k hk).1;have h4:=HSZ.out;omega))
 have HRX:=Lib.hid (hw.row (HO.out.2.below hb1) (fun k hk e=>by have h3:=HOL.out k hk;omega)).rd
 have HZ1:Hid (w0.heap.size≤(w1.setCell ⟨w.heap.size,5,none⟩ (.slice A1 p.E.fs.length c1)).heap.size):=Lib.hid (by rw[World.size_setCell];exact hb1.size)
 obtain⟨u1,hu1⟩:∃ u1,w1.setCell ⟨w.heap.size,5,none⟩ (.slice A1 p.E.fs.length c1)=u1:=⟨_,rfl⟩
 rw[hu1]at hk1 hk2 HBA HRA HRX HZ1
 have HK1:=Lib.hid hk1
 have HK2:=Lib.hid hk2
 have y6:=hk1.cell 6 rfl
 have HCB:=Lib.hid (HCB.out u1 HRX.out)
 clear hb1 hr1 hk1 hk2 hg hw HB0 HO HCF
 go_wp2_with fail
 clear hu1 f5 y5 y6
 refine HCB.out.mono ?_
 rintro e w2 ⟨X2,d2,rfl,hr2,hb2⟩
 have hk1:Blk (w2.setCell ⟨w.heap.size,6,none⟩ (.slice X2 p.E.body.length d2)) w.heap.size #[.string p.E.k,.string p.E.v,.int .i64 p.E.s,.string p.E.r,.int .i64 p.E.m,.slice A1 p.E.fs.length c1,.slice X2 p.E.body.length d2,.int .i64 p.E.asked,.int .i64 p.E.got] 41:=(HK1.out.below hb2).set 6 _
 have hk2:Blk (w2.setCell ⟨w.heap.size,6,none⟩ (.slice X2 p.E.body.length d2)) (w.heap.size+1) #[.string ⟨#[]⟩,.string ⟨#[]⟩,.int .i64 0,.string ⟨#[]⟩,.int .i64 0,.slice none 0 0,.slice none 0 0,.int .i64 0,.int .i64 0] 41:=(HK2.out.below hb2).far 6 _ (by omega)
 have f6:=(HK1.out.below hb2).free 6
 have y6:=(HK1.out.below hb2).cell 6 rfl
 have hg:=grown_set w2 w.heap.size 6 (.slice X2 p.E.body.length d2)
 have hw:=Went.grown (F:=fun k=>k=w.heap.size) (F':=fun k=>k=w.heap.size) hg (fun k e=>by cases e;rfl) (fun _ h=>.inl h)
 have HBB:=Lib.hid ((below_then HBA.out.size HBA.out hb2).grown hg (Nat.le_trans HBA.out.size hb2.size) (fun k e=>by cases e;exact Nat.le_refl _))
 have HRB:=Lib.hid (hw.row (HRA.out.below hb2) (fun k hk e=>by have h3:=(HRA.out.lt k hk).1;have h4:=HSZ.out;omega))
 have HRY:=Lib.hid (hw.row hr2 (fun k hk e=>by have h3:=(hr2.lt k hk).1;have h4:=HSZ.out;have h5:=HZ1.out;omega))
 obtain⟨u2,hu2⟩:∃ u2,w2.setCell ⟨w.heap.size,6,none⟩ (.slice X2 p.E.body.length d2)=u2:=⟨_,rfl⟩
 rw[hu2]at hk1 hk2 HBB HRB HRY
 obtain⟨x0,x1,x2,x3,x4,x5,x6,x7,x8⟩:=hk1.cells9
 obtain⟨z0,z1,z2,z3,z4,z5,z6,z7,z8⟩:=hk2.cells9
 obtain⟨g0,g1,g2,g3,g4,g5,g6,g7,g8⟩:=hk2.free9
 have HK2:=Lib.hid hk2
 clear hb2 hr2 hk1 hk2 hg hw HBA HRA HRX HCB
 go_wp2
 clear x0 x1 x2 x3 x4 x5 x6 x7 x8 z0 z1 z2 z3 z4 z5 z6 z7 z8 g0 g1 g2 g3 g4 g5 g6 g7 g8 f6 y6
 obtain⟨d0,d1,d2',d3,d4,d5,d6,d7,d8⟩:=(HK2.out.set9 (.string p.E.k) (.string p.E.v) (.int .i64 p.E.s) (.string p.E.r) (.int .i64 p.E.m) (.slice A1 p.E.fs.length c1) (.slice X2 p.E.body.length d2) (.int .i64 p.E.asked) (.int .i64 p.E.got)).cells9
 have hw:=went_nine (F:=fun k=>k=w.heap.size+1) (w:=u2) (b:=w.heap.size+1) rfl (.string p.E.k) (.string p.E.v) (.int .i64 p.E.s) (.string p.E.r) (.int .i64 p.E.m) (.slice A1 p.E.fs.length c1) (.slice X2 p.E.body.length d2) (.int .i64 p.E.asked) (.int .i64 p.E.got)
 have HRC:=Lib.hid (hw.row HRB.out (fun k hk e=>by have h3:=(HRB.out.lt k hk).1;have h4:=HSZ.out;omega))
 have HRZ:=Lib.hid (hw.row HRY.out (fun k hk e=>by have h3:=(HRY.out.lt k hk).1;have h4:=HSZ.out;have h5:=HZ1.out;omega))
 have hbz:Below w.heap.size w (nine u2 (w.heap.size+1) (.string p.E.k) (.string p.E.v) (.int .i64 p.E.s) (.string p.E.r) (.int .i64 p.E.m) (.slice A1 p.E.fs.length c1) (.slice X2 p.E.body.length d2) (.int .i64 p.E.asked) (.int .i64 p.E.got)):=⟨hw.os.trans HBB.out.os,hw.tape.trans HBB.out.tape,hw.output.trans HBB.out.output,Nat.le_trans HBB.out.size hw.size,fun k hk=>(hw.block k (Nat.lt_of_lt_of_le hk HBB.out.size) (by omega)).trans (HBB.out.block k hk)⟩
 have HBZ:=Lib.hid hbz
 clear hw hbz
 unfold nine at d0 d1 d2' d3 d4 d5 d6 d7 d8
 refine bodyPost_ret (v:=.agg #[.string p.E.k,.string p.E.v,.int .i64 p.E.s,.string p.E.r,.int .i64 p.E.m,.slice A1 p.E.fs.length c1,.slice X2 p.E.body.length d2,.int .i64 p.E.asked,.int .i64 p.E.got]) (by simp [results,Tryz.results38,go_sem,d0,d1,d2',d3,d4,d5,d6,d7,d8]) rfl ?_
 exact⟨⟨p.E,A1,c1,X2,d2⟩,rfl,rfl,⟨HRC.out.mono (by have:=HSZ.out;omega),HRZ.out.mono (by have:=HSZ.out;have:=HZ1.out;omega)⟩,HBZ.out⟩
end Go.Proofs.YthjeglnkgdpijaaGreatDoor
namespace Go.Proofs.YthjeglnkgdpijaaGreatDoor
open Go.ChangeShapes Go.WideShapes Go.ChangeAt Go.RowKit Go.Deep
theorem laidOut_:laidOutB Tryz.prog=true:=by kernel_rfl
theorem again {H:Type} {enc:TypeId × Value→H} {t:TypeId} (hr:Tryz.prog.readableRec t=true) (hrow:t < Tryz.prog.types.size) {W W':World} {v:Value} {d:DataW H} {ps:List MemPlace}
  (h:DataW.Trod enc Tryz.prog W 0 (fun _=>true) true t v d ps) (hb:Below W.heap.size W W') (hlt:∀ x∈ps,x.block < W.heap.size) (sp:Nat→Bool) (hsp:∀ x∈ps,sp x.block=true) :
  DataW.Trod enc Tryz.prog W' 0 sp true t v d ps :=
 WideElems.Trod_stays laidOut_ hr hrow h (fun x hx=>hb.same (hlt x hx)) hsp
theorem cellsB:Tryz.prog.cellsOf 5=1:=by kernel_rfl
section
variable {H:Type} {enc:TypeId × Value→H} {W:World} {base:Nat} {held:Bool}
theorem Rd.of_bytes {A:Addr} {n:Nat} {bs:List UInt8} (hl:bs.length=n) (h:∀ i (hi:i < bs.length),W.cell? (A.add i)=some (.int .u8 (bs[i]).toNat)):Rd W (some A) n 1 (bcells bs):=by
 refine⟨by simp [bcells,hl],fun hn=>?_⟩
 have h0:=h 0 (by omega)
 have hspot:(A.add 0).spot=none:=World.cell?_spot h0
 obtain⟨b,o,sp⟩:=A
 have:sp=none:=by cases sp<;>simp_all [Addr.add]
 subst this
 refine⟨b,o,rfl,World.block_lt_of_cell? W _ h0,fun j u hu=>?_⟩
 have hj:j < bs.length:=by
  have:=(List.getElem?_eq_some_iff.1 hu).1
  simpa [bcells] using this
 have ea:∀ k,(⟨b,o,none⟩:Addr).add k=⟨b,o+k,none⟩:=fun k=>by unfold Addr.add;split<;>simp_all
 have:=h j hj
 rw[ea]at this
 rw[this]
 simp [bcells,hj]at hu
 rw[hu]
theorem u8_back {x:Int} (h:(Lit.int .u8 x).wf=true):((UInt8.ofNat x.toNat).toNat:Int)=x:=by
 have h1:IntKind.u8.min=0:=rfl
 have h2:IntKind.u8.max=255:=rfl
 simp only[Lit.wf,Bool.and_eq_true,decide_eq_true_eq]at h
 simp only[UInt8.toNat_ofNat']
 omega
theorem bulk_lits (k:IntKind):∀ zs:List Int,Rows.uptoBulkAll (lits (H:=H) k zs)=zs.length
 | []=>rfl
 | z::zs=>by
  have:=bulk_lits k zs
  unfold lits at this ⊢
  simp only[List.map_cons,Rows.uptoBulkAll,Rows.uptoBulk,List.length_cons]
  omega
theorem cells_bytes {A:Option Addr} {n c:Nat} {fuel:Nat} {x:DataW H × List MemPlace} (h:DataW.trod enc Tryz.prog W base (fun _=>true) held fuel 39 [.slice A n c]=some x) :
  ∃ bs:List UInt8,bs.length=n∧Rd W A n 1 (bcells bs)∧n≤c∧bs.length≤Rows.uptoBulk x.1∧(A=none→n=0∧c=0)∧(∀ a,A=some a→a.spot=none∨c=0):=by
 rcases open_ints Tryz.underlying39 Tryz.underlying5 cellsB h with ⟨h0,rfl⟩ | ⟨a,len,cap,zs,hcs,_,hl,hm,hz,rfl,hcell,hwf⟩
 ·simp only[List.cons.injEq,Value.slice.injEq,and_true]at h0
  obtain⟨rfl,rfl,rfl⟩:=h0
  exact⟨[],rfl,Rd.nil _ _ _,Nat.le_refl _,by simp,fun _=>⟨rfl,rfl⟩,fun a h=>by cases h⟩
 ·simp only[List.cons.injEq,Value.slice.injEq,and_true]at hcs
  obtain⟨rfl,rfl,rfl⟩:=hcs
  simp only[if_true]at hz
  refine⟨(zs.take n).map fun z=>UInt8.ofNat z.toNat,by simp;omega,Rd.of_bytes (by simp;omega) (fun i hi=>?_),hl,?_,(fun h=>by cases h),fun a' h=>?_⟩
  ·have hi':i < n:=by simp at hi;omega
   rw[hcell i (by omega)]
   have e:zs.getD i 0=zs[i]'(by omega):=by simp [List.getD,List.getElem?_eq_getElem (show i < zs.length by omega)]
   rw[e]
   simp only[List.getElem_map,List.getElem_take]
   rw[u8_back (hwf _ (List.getElem_mem _))]
  ·simp only[Rows.uptoBulk,bulk_lits,List.length_map]
   omega
  ·cases h
   rcases Nat.eq_zero_or_pos c with h0 | h0
   ·exact .inr h0
   ·have h1:=World.cell?_spot (hcell 0 (by omega))
    obtain⟨b,o,sp⟩:=a
    left
    cases sp<;>simp_all [Addr.add]
theorem open_bytes {r:Reach} {b0:Nat} {v:Value} {d:DataW H} {p:List MemPlace} (hv:Value.okWide Tryz.prog W r b0 39 v) (h:DataW.Trod enc Tryz.prog W base (fun _=>true) held 39 v d p) :
  ∃ A n c bs,v=.slice A n c∧bs.length=n∧Rd W A n 1 (bcells bs)∧n≤c∧bs.length≤Rows.uptoBulk d∧(A=none→n=0∧c=0)∧(∀ a,A=some a→a.spot=none∨c=0):=by
 obtain⟨A,n,c,rfl⟩:=okWide_slice Tryz.underlying39 hv
 obtain⟨fuel,hf⟩:=h
 obtain⟨bs,h1,h2,h3,h4,h5,h6⟩:=cells_bytes (A:=A) (n:=n) (c:=c) hf
 exact⟨A,n,c,bs,rfl,h1,h2,h3,h4,h5,h6⟩
end
end Go.Proofs.YthjeglnkgdpijaaGreatDoor
namespace Go.Proofs.YthjeglnkgdpijaaGreatDoor
open Go Go.RowKit
namespace V
def vary:ByteArray:=⟨#[86,97,114,121]⟩
def star:ByteArray:=⟨#[42]⟩
def has (l:List ByteArray) (x:ByteArray):Bool:=l.any fun y=>decide (y=x)
theorem has_iff {l:List ByteArray} {x:ByteArray}:has l x=true↔x∈l:=by
 unfold has
 rw[List.any_eq_true]
 exact⟨fun⟨y,h1,h2⟩=>by rw[← of_decide_eq_true h2];exact h1,fun h=>⟨x,h,decide_eq_true rfl⟩⟩
def names (fs:List FD):Option (List ByteArray):=if has (F.tokens fs vary) star=true then none else some (setB (F.tokens fs vary))
end V
theorem containsRow_any (A:Option Addr) (n c:Nat) (xs:List ByteArray) (x:ByteArray) (w:World) (h:Rd w A n 1 (scells xs)) (hn:n≤1099511627776) :
  Calls Tryz.prog 67 #[.slice A n c,.string x] w (fun e w'=>e=.returned (.bool (V.has xs x))∧w'=w):=by
 have hl:xs.length=n:=by
  have:=h.1
  unfold scells at this
  rw[List.length_map]at this
  omega
 rcases Nat.eq_zero_or_pos n with rfl | h0
 ·have hx:xs=[]:=List.length_eq_zero_iff.1 hl
  subst hx
  refine (Tryz.slices_Contains_string_empty A c x w).mono ?_
  rintro e w' ⟨rfl,rfl⟩
  exact⟨rfl,rfl⟩
 ·obtain⟨b,o,rfl,hlt,hc⟩:=h.2 h0
  refine (Tryz.slices_Contains_string b o n c xs x w (by omega) (by omega) (fun j hj=>hc j _ ?_)).mono ?_
  ·unfold scells
   rw[List.getElem?_map,List.getElem?_eq_getElem hj,List.getD_eq_getElem?_getD,List.getElem?_eq_getElem hj]
   rfl
  ·rintro e w' ⟨rfl,rfl⟩
   refine⟨?_,rfl⟩
   rw[List.take_of_length_le (by omega)]
   congr 2
   have:=Lib.containsS_iff xs x
   cases hb:V.has xs x with
   | true=>exact this.2 (V.has_iff.1 hb)
   | false =>
    cases hc:Lib.containsS xs x with
    | false=>rfl
    | true=>rw[V.has_iff.2 (this.1 hc)]at hb;cases hb
def RetNames (fs:List FD) (w:World) (e:Ending) (w':World):Prop:=Below w.heap.size w w'∧match V.names fs with
 | none=>e=.returned (.tuple #[.slice none 0 0,.bool false])
 | some l=>∃ A c,e=.returned (.tuple #[.slice A l.length c,.bool true])∧Row w' w.heap.size 9 1 A l.length c (scells l)
theorem names_any (X:Option Addr) (n d:Nat) (fs:List FD) (w:World) (hn:n≤1099511627776) (hl:fs.length=n) (hf:FSmall fs) (htot:(F.tokens fs V.vary).length≤1099511627776) (hx:Rd w X n 2 (fcells fs)) :
  Calls Tryz.prog 39 #[.slice X n d] w (RetNames fs w):=by
 have HT:=Lib.hid (tokens_any X n d fs V.vary w hn hl hf (by decide) htot hx)
 unfold V.vary at HT htot
 obtain⟨ts,hts⟩:∃ ts,F.tokens fs V.vary=ts:=⟨_,rfl⟩
 have HTS:=Lib.hid hts
 unfold V.vary at hts
 rw[hts]at HT htot
 clear hl hf hx hts
 go_enter Tryz.func39,Tryz.ntmps39
 go_wp2_with fail
 refine HT.out.mono ?_
 rintro e w1 ⟨A,c,rfl,hr,hb⟩
 have HR:=Lib.hid hr
 have HB:=Lib.hid hb
 have HC:=Lib.hid (containsRow_any A ts.length c ts V.star w1 hr.rd htot)
 unfold V.star at HC
 clear hr hb HT
 go_wp2_with fail
 refine HC.out.mono ?_
 rintro e w2 ⟨rfl,rfl⟩
 by_cases hs:V.has ts V.star=true
 ·have hs2:V.has ts ⟨#[42]⟩=true:=hs
  have HS:=Lib.hid hs
  clear hs
  rw[hs2]
  go_wp2
  go_ret2
  refine⟨HB.out,?_⟩
  unfold V.names
  rw[HTS.out,if_pos HS.out]
  rfl
 ·have hs2:V.has ts ⟨#[42]⟩=false:=Bool.eq_false_iff.2 hs
  have HS:=Lib.hid hs
  clear hs
  rw[hs2]
  have HSO:=Lib.hid (sortRow_any w.heap.size A ts.length c ts w2 HR.out htot)
  have hsl:=sortB_len ts
  go_wp2_with fail
  refine HSO.out.mono ?_
  rintro e w3 ⟨rfl,hr3,hg3⟩
  rw[← hsl]at hr3
  have HCO:=Lib.hid (compactRow_any w.heap.size A (sortB ts).length c (sortB ts) w3 hr3 (by omega))
  rw[hsl]at HCO
  have HB3:=Lib.hid (HB.out.grown hg3 HB.out.size (fun k hk=>(HR.out.lt k hk).1))
  have HR3:=Lib.hid hr3
  clear hr3 hg3 hsl
  go_wp2_with fail
  refine HCO.out.mono ?_
  rintro e w4 ⟨rfl,hr4,hg4⟩
  have HB4:=Lib.hid (HB3.out.grown hg4 HB3.out.size (fun k hk=>(HR3.out.lt k hk).1))
  have HR4:=Lib.hid hr4
  clear hr4 hg4
  go_wp2
  go_ret2
  refine⟨HB4.out,?_⟩
  unfold V.names
  rw[HTS.out,if_neg HS.out]
  exact⟨A,c,rfl,HR4.out⟩
end Go.Proofs.YthjeglnkgdpijaaGreatDoor
