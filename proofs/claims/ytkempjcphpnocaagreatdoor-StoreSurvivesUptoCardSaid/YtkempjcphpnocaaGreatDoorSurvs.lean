/- The law StoreSurvives walked (printed by gen/surv.py). Conditions: an entry, and an Id, of at most 2^20 bytes; fates of at most 2^40 numbers; the library's tables. -/
import Derived.Test.YtkempjcphpnocaaGreatDoorSurvC
namespace Go.Proofs.YtkempjcphpnocaaGreatDoor
open Go Go.RowKit Go.Maps
theorem StAt.tried {B:Nat} {X:SM} {s:S.Sto} {w w':World} {r:Option Nat} (h:StAt B X s w) (hg:w.grownBy w' r) (hr:∀ k,r=some k→Tag w k 57):StAt B X s w':=by
 have hd:∀ {k t},Tag w k t→t≠57→r≠some k:=fun hk hne e=>(hk.ne (hr _ e) hne) rfl
 have hm:∀ {k},MapB w k→r≠some k:=fun hk e=>((hr _ e).map hk) rfl
 obtain⟨⟨a1,a2,a3,a4,a5,a6,a7,a8,a9,a10⟩,b2,b3⟩:=h.log
 exact⟨⟨⟨a1.keptG hg (hd a1.tag (by decide)),a2.kept hg (fun e=>by first | exact hm (ownsMap_tag a2) e | exact hm (ownsMap_tag a2) e.symm),a3.kept hg (fun e=>by first | exact hm (ownsMap_tag a3) e | exact hm (ownsMap_tag a3) e.symm),a4,a5.keptG hg (fun k hk=>hd (a5.tag hk) (by decide)),
  a6.imp (fun c v hc=>hc.kept hg (fun k t e ht=>⟨fun he=>(ht.ne (hr k e) (by rw[he];decide)) rfl,fun he=>(ht.ne (hr k e) (by rw[he];decide)) rfl⟩)),a7.keptG hg (fun k hk=>hd (a7.tag hk) (by decide)),
  fun no hn=>⟨(a8 no hn).blk.keptG hg (hd (a8 no hn).blk.tag (by decide)),(a8 no hn).row.keptG hg (fun k hk=>hd ((a8 no hn).row.tag hk) (by decide)),(a8 no hn).ge⟩,a9,a10⟩,b2.keptG hg (hd b2.tag (by decide)),b3⟩,h.blk.keptG hg (hd h.blk.tag (by decide)),h.tab.kept hg (fun e=>by first | exact hm (ownsMap_tag h.tab) e | exact hm (ownsMap_tag h.tab) e.symm),h.ne,h.used.keptG hg (fun k hk=>hd (h.used.tag hk) (by decide)),h.ge⟩
def DvAt (K Z B n md:Nat) (L:List TP) (w:World):Prop:=∃ M d,DkAt B M d w∧M.d=md∧D.Lw K Z d∧∀ (j:Int) (keep:List Int),T.Fate n L (D.leftOf (d.left j keep))
def SvAt (B n k md:Nat) (π:Int) (p:Option Addr) (L:List TP) (w:World):Prop :=
 (p=none∧DvAt 1000 40000000 B n md L w)∨∃ X s,p=some ⟨X.st,0,none⟩∧StAt B X s w∧X.M.d=md∧S.Well n k s∧T.Life n k (k * 521100) π L s
section
variable {K Z B n k md:Nat} {π:Int} {p:Option Addr} {L:List TP} {w w':World}
theorem SvAt.disk (h:SvAt B n k md π p L w) (hk:k≤60):DvAt 1000 40000000 B n md L w:=by
 rcases h with ⟨_,h⟩ | ⟨X,s,_,h1,h2,h3,h4⟩
 ·exact h
 ·exact⟨X.M,s.d,h1.log.disk,h2,h3.lw.mono (by omega) (by omega),fun j keep=>h4.left (by omega) j keep⟩
theorem DvAt.below (h:DvAt K Z B n md L w) (hb:Below w.heap.size w w'):DvAt K Z B n md L w':=by
 obtain⟨M,d,h1,h2⟩:=h
 exact⟨M,d,h1.below hb,h2⟩
theorem SvAt.below (h:SvAt B n k md π p L w) (hb:Below w.heap.size w w'):SvAt B n k md π p L w':=by
 rcases h with ⟨h1,h2⟩ | ⟨X,s,h1,h2,h3⟩
 ·exact .inl ⟨h1,h2.below hb⟩
 ·exact .inr ⟨X,s,h1,h2.below hb,h3⟩
theorem wellPut_any {X:SM} {s:S.Sto} (p:EP) (h:StAt B X s w) (hk:S.Well n k s) (hi:k≤100) (hp:p.small) (hx:ERd w p) (ht:TabOk w) :
  Calls Tryz.prog 10 #[.pointer (some ⟨X.st,0,none⟩),p.v] w (RetSto B X s w (s.put p.E).1 (.int .i64 (s.put p.E).2)):=by
 obtain⟨h1,h2,h3,h4,h5,h6⟩:=ep_len hp
 exact sput_any B X s p.E (3+13 * k) p.A p.c p.X p.d w h hk.lw.fit (by omega) hk.up (by have:=hk.len;omega) (fun q hq=>by have:=hk.ids q hq;omega) (by have:=hk.count;omega) (by rw[hk.used];exact hk.le) (fun q hq=>by rw[hk.used];exact hk.no q hq) h3 h4 h5 h6 hx.1 hx.2 ht
theorem wellDrop_any {X:SM} {s:S.Sto} (id:ByteArray) (h:StAt B X s w) (hk:S.Well n k s) (hi:k≤100) (hid:id.size≤1048576) :
  Calls Tryz.prog 18 #[.pointer (some ⟨X.st,0,none⟩),.string id] w (RetSto B X s w (s.drop id).1 (.int .i64 (s.drop id).2)) :=
 sdrop_any B X s id (3+13 * k) w h hk.lw.fit (by omega) hk.up (by have:=hk.len;omega) (fun q hq=>by have:=hk.ids q hq;omega) (by have:=hk.count;omega) (by rw[hk.used];exact hk.le) (fun q hq=>by rw[hk.used];exact hk.no q hq) hid
theorem svOpen_any (M:DM) (w0:World) (h:DkAt B M (D.ofFiles [] 1073741824 [] π) w) (hn:n≤4096) (ht:Tabs w0) (hw0:Below w0.heap.size w0 w) (hB:w0.heap.size≤B) (hBw:B≤w.heap.size) :
  Calls Tryz.prog 8 #[.pointer (some ⟨M.d,0,none⟩),.int .i64 n] w (fun e w'=>∃ p er,e=.returned (.tuple #[.pointer p,.int .i64 er])∧SvAt B n 0 M.d π p [] w'∧Below B w w'):=by
 have hf0:T.Fate n [] (D.leftOf ([]:List (ByteArray × List UInt8))):=T.Fate.start n rfl
 have hlw:=T.fair_nil.lw (by decide) π
 have hfew:=hf0.few T.fair_nil (by decide) π
 refine (sopen_any B M _ 0 n w0 w h hlw.fit (by omega) hn ht hw0 hB (by omega)).mono ?_
 rintro e w' (⟨h1,_,rfl,M',h3,h4,h5⟩ | ⟨s,X,h1,h2,h3,rfl,h4,h5,h6⟩)
 ·refine⟨none,_,rfl,.inl ⟨rfl,M',_,h3,h5,(S.open_lw hlw hn hfew).mono (by omega) (by omega),fun j keep=>?_⟩,h4.under (fun k hk=>h.under hk) hBw⟩
  exact hf0.again T.fair_nil hn (by omega) π j keep
 ·have hs:=T.start_some hn π h1
  refine⟨_,_,rfl,.inr ⟨X,s,rfl,h4,h6,?_,?_⟩,h5.under (fun k hk=>h.under hk) hBw⟩
  ·rw[hs];exact T.start_well hn π
  ·rw[hs,Nat.zero_mul];exact T.start_life hn π
theorem dvOpen_any {fs:List (ByteArray × List UInt8)} (M:DM) (w0:World) (h:DkAt B M (D.ofFiles fs 1073741824 [] π) w) (hfa:D.Fair K Z fs) (hL:T.Fate n L (D.leftOf fs)) (hK:K≤1000000) (hZ:Z≤900000000) (hn:n≤4096) (ht:Tabs w0) (hw0:Below w0.heap.size w0 w) (hB:w0.heap.size≤B) (hBw:B≤w.heap.size) :
  Calls Tryz.prog 8 #[.pointer (some ⟨M.d,0,none⟩),.int .i64 n] w (fun e w'=>∃ p er,e=.returned (.tuple #[.pointer p,.int .i64 er])∧DvAt (2 * K+40) (Z+1233300) B n M.d L w'∧Below B w w'):=by
 have hlw:=hfa.lw (by omega) π
 have hfew:=hL.few hfa (by omega) π
 refine (sopen_any B M _ K n w0 w h hlw.fit (by omega) hn ht hw0 hB (by omega)).mono ?_
 have hl2:=S.open_lw hlw hn hfew
 have hag:=hL.again hfa hn hZ π
 rintro e w' (⟨h1,_,rfl,M',h3,h4,h5⟩ | ⟨s,X,h1,h2,h3,rfl,h4,h5,h6⟩)
 ·exact⟨none,_,rfl,⟨M',_,h3,h5,hl2,hag⟩,h4.under (fun k hk=>h.under hk) hBw⟩
 ·rw[h3]at hl2 hag
  exact⟨_,_,rfl,⟨X.M,s.d,h4.log.disk,h6,hl2,hag⟩,h5.under (fun k hk=>h.under hk) hBw⟩
theorem lastOpen_any {fs:List (ByteArray × List UInt8)} (M:DM) (w0:World) (h:DkAt B M (D.ofFiles fs 1073741824 [] (-1)) w) (hfa:D.Fair K Z fs) (hL:T.Fate n L (D.leftOf fs)) (hK:K≤1000000) (hZ:Z≤900000000) (hn:n≤4096) (ht:Tabs w0) (hw0:Below w0.heap.size w0 w) (hB:w0.heap.size≤B) (hBw:B≤w.heap.size) :
  Calls Tryz.prog 8 #[.pointer (some ⟨M.d,0,none⟩),.int .i64 n] w (fun e w'=>∃ X s V,e=.returned (.tuple #[.pointer (some ⟨X.st,0,none⟩),.int .i64 0])∧StAt B X s w'∧D.Fit (2 * K+40) s.d∧T.Told L V∧D.Up s.tab∧s.tab.length≤100∧(∀ p∈s.tab,p.2 < 4096∧p.1.size≤4096)∧(∀ id,s.get id=V id)∧(∀ id∈s.ids,(V id).isSome=true)∧Below B w w'):=by
 have hlw:=hfa.lw (by omega) (-1)
 have hfew:=hL.few hfa (by omega) (-1)
 obtain⟨V,hV,hT⟩:=hL.raw hfa hn (by omega)
 obtain⟨s0,q1,q2,q3,q4,q5,q6⟩:=hV.opened hZ
 refine (sopen_any B M _ K n w0 w h hlw.fit (by omega) hn ht hw0 hB (by omega)).mono ?_
 have hl2:=S.open_lw hlw hn hfew
 rw[q1]at hl2 ⊢
 rintro e w' (⟨h1,_⟩ | ⟨s,X,h1,h2,h3,rfl,h4,h5,h6⟩)
 ·cases h1
 ·obtain rfl:s0=s:=Option.some.inj h1
  exact⟨X,s0,V,rfl,h4,hl2.fit,hT,q2,q3,q4,q5,q6,h5.under (fun k hk=>h.under hk) hBw⟩
theorem dvLeft_any (h:DvAt K Z B n md L w) (hK:K≤1000000) (j:Int) (A:Option Addr) (c:Nat) (keep:List Int) (hl:keep.length≤1099511627776) (hx:Rd w A keep.length 1 (icells keep)) :
  Calls Tryz.prog 20 #[.pointer (some ⟨md,0,none⟩),.agg #[.int .i64 j,.slice A keep.length c]] w (fun e w'=>∃ A c fl,e=.returned (.slice A fl.length c)∧FRow w' w.heap.size A c fl∧D.Fair (3 * K) Z (fl.map FP.x)∧T.Fate n L (D.leftOf (fl.map FP.x))∧Below w.heap.size w w'):=by
 obtain⟨M,d,h1,rfl,h3,h4⟩:=h
 have hsl:=D.safe_len h3.fit.ok
 have hp:=h3.fit.pend
 have hn:=h3.fit.now
 refine (left_any B M d j A keep keep.length c w h1 h3.fit.ok h3.fit.nmd (h3.fit.sml (by omega)) (by omega) rfl hl hx).mono ?_
 rintro e w' ⟨A',c',fl,rfl,q1,q2,q3⟩
 have hlen:(d.left j keep).length=fl.length:=by rw[← q1,List.length_map]
 exact⟨A',c',fl,by rw[hlen],q2,by rw[q1];exact h3.left_fair j keep,by rw[q1];exact h4 j keep,q3⟩
theorem dvNew_any (π:Int) (A:Option Addr) (c b0:Nat) (fl:List FP) (h:FRow w b0 A c fl) (hf:D.Fair K Z (fl.map FP.x)) (hK:K≤1000000) :
  Calls Tryz.prog 7 #[.slice A fl.length c,.int .i64 1073741824,.slice none 0 0,.int .i64 π] w (fun e w'=>∃ M,e=.returned (.tuple #[.pointer (some ⟨M.d,0,none⟩),.int .i64 0])∧DkAt w.heap.size M (D.ofFiles (fl.map FP.x) 1073741824 [] π) w'∧Below w.heap.size w w'):=by
 have hlen:=hf.len
 rw[List.length_map]at hlen
 refine (newF_any fl A fl.length c none 0 [] 1073741824 π w rfl (by omega) h.row.rd (fun p hp=>⟨(h.all p hp).rd,fun hA=>(h.all p hp).nilB hA,?_,?_⟩) (fun u _=>(cloneNil_any u).mono (fun e w' h=>⟨none,0,h.1,Row.none_ _ _ _ _,by rw[h.2];exact Below.refl _ _⟩)) (by omega) (by omega)).mono ?_
 ·have:=(hf.one p.x (List.mem_map_of_mem hp)).1
  change p.nm.size≤64 at this
  omega
 ·have:=(hf.one p.x (List.mem_map_of_mem hp)).2
  change p.bs.length≤1073741824 at this
  omega
 ·rintro e w' (⟨hbad,_⟩ | ⟨_,M,rfl,h1,h2⟩)
  ·exact absurd (hf.rise.symm.trans hbad) (by decide)
  ·exact⟨M,rfl,h1,h2⟩
end
theorem cells10 {w:World} {b:Nat} {t:TypeId} {x0 x1 x2 x3 x4 x5 x6 x7 x8 x9:Value} (h:Blk w b #[x0,x1,x2,x3,x4,x5,x6,x7,x8,x9] t):w.cell? ⟨b,0,none⟩=some x0∧w.cell? ⟨b,1,none⟩=some x1∧w.cell? ⟨b,2,none⟩=some x2∧w.cell? ⟨b,3,none⟩=some x3∧w.cell? ⟨b,4,none⟩=some x4∧w.cell? ⟨b,5,none⟩=some x5∧w.cell? ⟨b,6,none⟩=some x6∧w.cell? ⟨b,7,none⟩=some x7∧w.cell? ⟨b,8,none⟩=some x8∧w.cell? ⟨b,9,none⟩=some x9 :=
 ⟨h.cell 0 rfl,h.cell 1 rfl,h.cell 2 rfl,h.cell 3 rfl,h.cell 4 rfl,h.cell 5 rfl,h.cell 6 rfl,h.cell 7 rfl,h.cell 8 rfl,h.cell 9 rfl⟩
def EP.zero:EP:=⟨O.Ent.zero,none,0,none,0⟩
theorem EP.zero_rd (w:World):ERd w EP.zero:=⟨Rd.nil _ _ _,Rd.nil _ _ _⟩
theorem id_size {p:EP} (h:p.small):(p.E.k++⟨#[10]⟩++p.E.v).size≤1099511627776:=by
 unfold EP.small at h
 rw[ByteArray.size_append,ByteArray.size_append]
 have:(⟨#[10]⟩:ByteArray).size=1:=rfl
 omega
def TrOk (w:World) (t:TP):Prop:=ERd w t.p∧t.id.size≤1099511627776∧t.p.E.fs.length≤1099511627776∧t.p.E.body.length≤1099511627776
set_option maxRecDepth 100000 in
set_option maxHeartbeats 8000000 in
theorem storeSurvives_any (slots power second k1 k2:Int) (A:Option Addr) (n c:Nat) (l:List (EP × ByteArray)) (Z1 Z2:Option Addr) (zc1 zc2:Nat) (m1 m2:List Int) (w:World) (hl:l.length=n) (hnc:n≤c) (hn:n≤1099511627776) (hA:A=none→n=0) (hx:Rd w A n 10 (stcells l)) (hr:∀ q∈l,ERd w q.1) (hs:∀ q∈l,q.1.small∧q.2.size≤1048576)
  (hm1:m1.length≤1099511627776) (hm2:m2.length≤1099511627776) (hz1:Rd w Z1 m1.length 1 (icells m1)) (hz2:Rd w Z2 m2.length 1 (icells m2)) (ht:Tabs w) :
  Calls Tryz.prog 4 #[.int .i64 slots,.int .i64 power,.int .i64 second,.slice A n c,.agg #[.int .i64 k1,.slice Z1 m1.length zc1],.agg #[.int .i64 k2,.slice Z2 m2.length zc2]] w (RetB w true):=by
 subst hl
 have hbA:Below w.heap.size w (w.alloc (.cells #[.int .i64 k1,.slice Z1 m1.length zc1] 53)):=(Below.refl _ _).alloc (Nat.le_refl _) _
 have hkA:=Blk.new w #[.int .i64 k1,.slice Z1 m1.length zc1] 53
 have hsA:(w.alloc (.cells #[.int .i64 k1,.slice Z1 m1.length zc1] 53)).heap.size=w.heap.size+1:=World.size_alloc ..
 have hbB:=(Below.refl (w.alloc (.cells #[.int .i64 k1,.slice Z1 m1.length zc1] 53)).heap.size (w.alloc (.cells #[.int .i64 k1,.slice Z1 m1.length zc1] 53))).alloc (Nat.le_refl _) (.cells #[.int .i64 k2,.slice Z2 m2.length zc2] 53)
 have hkB:=Blk.new (w.alloc (.cells #[.int .i64 k1,.slice Z1 m1.length zc1] 53)) #[.int .i64 k2,.slice Z2 m2.length zc2] 53
 have HF1:=Lib.hid (hkA.below hbB)
 rw[hsA]at hkB
 have HF2:=Lib.hid hkB
 have HB0:=Lib.hid (below_then hbA.size hbA hbB)
 obtain⟨w0,hw0⟩:∃ w0,(w.alloc (.cells #[.int .i64 k1,.slice Z1 m1.length zc1] 53)).alloc (.cells #[.int .i64 k2,.slice Z2 m2.length zc2] 53)=w0:=⟨_,rfl⟩
 rw[hw0]at HF1 HF2 HB0
 have HX:=Lib.hid hx
 have HR:=Lib.hid hr
 have HS:=Lib.hid hs
 have HTA:=Lib.hid ht
 have HZ1:=Lib.hid hz1
 have HZ2:=Lib.hid hz2
 have HAL:=Lib.hid (storeAlive_any w0 (ht.below HB0.out))
 have HCU:=Lib.hid (fun u=>lcut_any A l.length c l u rfl hnc hn hA)
 clear hx hr hs ht hA hnc hbA hkA hbB hkB hz1 hz2
 go_enter Tryz.func4,Tryz.ntmps4
 go_upto_region 1 with fail
 clear hw0 hsA
 go_wp2_with fail
 refine HAL.out.mono ?_
 rintro e w1 ⟨rfl,hb1⟩
 have HF1a:=Lib.hid (HF1.out.below hb1)
 have HF2a:=Lib.hid (HF2.out.below hb1)
 have HB1:=Lib.hid (below_then HB0.out.size HB0.out hb1)
 clear hb1 HAL HB0 HF1 HF2
 have HNW:=Lib.hid (newNil_any 1073741824 power w1)
 go_wp2_with fail
 refine HNW.out.mono ?_
 rintro e w2 (⟨hbad,_⟩ | ⟨_,_,M,rfl,hd2,hb2⟩)
 ·exact absurd (⟨by decide,by decide⟩:(0:Int)≤1073741824∧(1073741824:Int)≤1073741824) hbad
 have HB2:=Lib.hid (below_then HB1.out.size HB1.out hb2)
 have HBX:=Lib.hid hb2
 have HZW:Hid (w.heap.size≤w1.heap.size):=Lib.hid HB1.out.size
 have HZX:Hid (w.heap.size+1 < w1.heap.size):=Lib.hid HF2a.out.lt
 clear HNW
 by_cases hs:0≤slots∧slots≤4096
 rotate_left
 ·by_cases hs0:slots < 0
  ·go_wp2
   go_ret
   exact⟨rfl,HB2.out⟩
  ·have hs1:slots > 4096:=by omega
   go_wp2
   go_ret
   exact⟨rfl,HB2.out⟩
 obtain⟨ns,rfl⟩:∃ ns:Nat,slots=ns:=⟨slots.toNat,by omega⟩
 have hns:ns≤4096:=by omega
 have hsA1:¬ (ns:Int) < 0:=by omega
 have hsA2:¬ (ns:Int) > 4096:=by omega
 have HOP:=Lib.hid (svOpen_any (n:=ns) M w hd2 hns HTA.out HB2.out HZW.out hb2.size)
 clear hd2 hb2 hs
 go_wp2_with fail
 clear hsA1 hsA2
 refine HOP.out.mono ?_
 rintro e w3 ⟨p,er,rfl,hsv,hb3⟩
 have hF1b:=HF1a.out.below (HBX.out.trans hb3)
 have hF2b:=HF2a.out.below (HBX.out.trans hb3)
 have HB3:=Lib.hid (HB2.out.trans (hb3.mono HZW.out))
 have HSV:=Lib.hid hsv
 obtain⟨md,hmd⟩:∃ md,M.d=md:=⟨_,rfl⟩
 obtain⟨B1,hB1⟩:∃ B1,w1.heap.size=B1:=⟨_,rfl⟩
 rw[hmd,hB1]at HSV
 rw[hB1]at HZW HZX
 rw[hmd]
 have HFF1:=Lib.hid hF1b
 have HFF2:=Lib.hid hF2b
 have HBB:Hid (B1≤w3.heap.size):=Lib.hid (by rw[← hB1];exact Nat.le_trans HBX.out.size hb3.size)
 clear hsv hb3 hF1b hF2b HF1a HF2a HOP HBX HB2 HB1 hmd hB1
 go_upto_region 8 with fail
 obtain⟨W4,hW4⟩:∃ W4,w3.alloc (.cells #[] 57)=W4:=⟨_,rfl⟩
 have hb4:Below w3.heap.size w3 W4:=by rw[← hW4];exact (Below.refl _ _).alloc (Nat.le_refl _) _
 rw[hW4]
 have HSV4:Hid (SvAt B1 ns 0 md power p [] W4):=Lib.hid (HSV.out.below hb4)
 have HFF4:=Lib.hid (And.intro (HFF1.out.below hb4) (HFF2.out.below hb4))
 have HB4:=Lib.hid (below_then HB3.out.size HB3.out hb4)
 have HBB4:Hid (B1≤W4.heap.size):=Lib.hid (Nat.le_trans HBB.out hb4.size)
 generalize w3.heap.size=b3 at *
 clear hW4 hb4 HSV HFF1 HFF2 HB3 HBB
 go_wp2_with fail
 refine (HCU.out _).mono ?_
 rintro e w5 ⟨c',rfl,rfl⟩
 have HBB5:=Lib.hid HBB4.out
 have HXC:=Lib.hid (rd_cut HX.out rfl (by rw[List.length_take];omega:(l.take 60).length≤l.length))
 have h60:=take60 l
 have htk:l.take (l.take 60).length=l.take 60:=by
  rw[List.length_take]
  by_cases h:60≤l.length
  ·rw[Nat.min_eq_left h]
  ·rw[Nat.min_eq_right (by omega),List.take_length,List.take_of_length_le (by omega)]
 rw[htk]at HXC
 have HRC:=Lib.hid (fun q (hq:q∈l.take 60)=>HR.out q (List.mem_of_mem_take hq))
 have HSC:=Lib.hid (fun q (hq:q∈l.take 60)=>HS.out q (List.mem_of_mem_take hq))
 clear HCU htk HX HR HS
 generalize hls:l.take 60=ls at *
 clear hls
 go_upto_block 0 with fail
 go_cut [15,17,18] (fun _ s17 _ wx=>∃ (L:List TP) (A6:Option Addr) (c6:Nat),s17=.slice A6 L.length c6∧L.length≤60∧DvAt 1000 40000000 B1 ns md L wx∧(∀ t∈L,TrOk w t)∧Below B1 w5 wx∧Row wx w5.heap.size 57 12 A6 L.length c6 (tpcells L))
 case first =>
  clear HFF4 HZ1 HZ2
  go_wp2_with fail
  go_loopw [17,18] (fun a i wr=>∃ (k:Nat) (A6:Option Addr) (c6:Nat) (L:List TP),k≤ls.length∧i=.int .i64 k∧a=.slice A6 L.length c6∧L.length≤k∧SvAt B1 ns k md power p L wr∧(∀ t∈L,TrOk w t)∧Below B1 w5 wr∧Row wr w5.heap.size 57 12 A6 L.length c6 (tpcells L)) (fun _ i _=>ls.length - (intOf i).toNat)
  case atStart=>exact⟨0,_,0,[],Nat.zero_le _,rfl,rfl,Nat.le_refl _,HSV4.out,(fun _ h=>by cases h),Below.refl _ _,Row.empty _ _ _ _ _⟩
  case round =>
   obtain⟨k,A6,c6,L,hk,rfl,rfl,hLk,hsv,hen,hbe,hrow⟩:=hrel
   have HBE:=Lib.hid hbe
   have HBW:=Lib.hid (HB4.out.trans (hbe.mono HZW.out))
   have HEN:=Lib.hid hen
   have HRW:=Lib.hid hrow
   have hzw:w5.heap.size≤wr.heap.size:=hbe.size
   have HZ5:=Lib.hid hzw
   clear hbe hen hrow hzw
   obtain⟨wo,rfl⟩:∃ wo:World,wo=wr:=⟨_,rfl⟩
   rcases hsv with ⟨rfl,hdv⟩ | ⟨X1,s1,rfl,hst,hxd,hwl,hlf⟩
   ·have HDV:=Lib.hid hdv
    clear hdv
    by_cases hlt:k < ls.length
    ·go_wp2_with fail
     go_meet
     exact⟨L,A6,c6,rfl,by omega,HDV.out,HEN.out,HBE.out,HRW.out⟩
    ·go_wp2_with fail
     go_meet
     exact⟨L,A6,c6,rfl,by omega,HDV.out,HEN.out,HBE.out,HRW.out⟩
   have HST:=Lib.hid hst
   have HXD:=Lib.hid hxd
   have HWL:=Lib.hid hwl
   have HLF:=Lib.hid hlf
   clear hst hxd hwl hlf
   by_cases hlt:k < ls.length
   rotate_left
   ·go_wp2_with fail
    go_meet
    exact⟨L,A6,c6,rfl,by omega,SvAt.disk (k:=k) (.inr ⟨X1,s1,rfl,HST.out,HXD.out,HWL.out,HLF.out⟩) (by omega),HEN.out,HBE.out,HRW.out⟩
   obtain⟨b,o,rfl,hbl,hat,y9⟩:=rd_step (HXC.out.below HBW.out) hlt rfl
   have HER:=Lib.hid (HRC.out _ (List.getElem_mem hlt))
   have HSM:=Lib.hid (HSC.out _ (List.getElem_mem hlt))
   generalize (ls[k]'hlt).1=q at *
   generalize (ls[k]'hlt).2=id at *
   obtain⟨y0,y1,y2,y3,y4,y5,y6,y7,y8⟩:=hat
   go_upto_region 13 with fail
   clear y0 y1 y2 y3 y4 y5 y6 y7 y8 y9
   obtain⟨W6,hW6⟩:∃ W6,wo.alloc (.cells #[.string q.E.k,.string q.E.v,.int .i64 q.E.s,.string q.E.r,.int .i64 q.E.m,.slice q.A q.E.fs.length q.c,.slice q.X q.E.body.length q.d,.int .i64 q.E.asked,.int .i64 q.E.got,.string id] 41)=W6:=⟨_,rfl⟩
   have hk6:Blk W6 wo.heap.size #[.string q.E.k,.string q.E.v,.int .i64 q.E.s,.string q.E.r,.int .i64 q.E.m,.slice q.A q.E.fs.length q.c,.slice q.X q.E.body.length q.d,.int .i64 q.E.asked,.int .i64 q.E.got,.string id] 41:=by rw[← hW6];exact Blk.new wo _ _
   have hb6:Below wo.heap.size wo W6:=by rw[← hW6];exact (Below.refl _ _).alloc (Nat.le_refl _) _
   rw[hW6]
   have HK6:=Lib.hid hk6
   have HST6:=Lib.hid (HST.out.below hb6)
   have HBE6:=Lib.hid (below_then HST.out.base HBE.out hb6)
   have HBW6:=Lib.hid (below_then HBW.out.size HBW.out hb6)
   have HRW6:=Lib.hid (HRW.out.below hb6)
   have HZ6:Hid (w5.heap.size≤W6.heap.size):=Lib.hid (Nat.le_trans HZ5.out hb6.size)
   generalize wo.heap.size=kb at *
   clear hW6 hk6 hb6 HST HBE HBW HRW HZ5
   by_cases hid0:id=⟨#[]⟩
   rotate_left
   ·skip
    have hidb:id.toList.isEmpty=false:=by
     cases hq:id.toList with
     | nil =>
      have h1:(id.toList==(⟨#[]⟩:ByteArray).toList)=true:=by rw[hq];kernel_rfl
      rw[beq_bytes]at h1
      exact absurd (of_decide_eq_true h1) hid0
     | cons _ _=>rfl
    have HDR:=Lib.hid (wellDrop_any id HST6.out HWL.out (by omega) HSM.out.2)
    have HLD:=Lib.hid (HLF.out.drop (by omega) (by omega) id EP.zero)
    have HWD:=Lib.hid (HWL.out.drop (by omega) id)
    obtain⟨y0,y1,y2,y3,y4,y5,y6,y7,y8,y9⟩:=cells10 HK6.out
    go_wp2_with fail
    clear y0 y1 y2 y3 y4 y5 y6 y7 y8 y9
    refine HDR.out.mono ?_
    rintro e w7 ⟨rfl,X7,hs7,hw7,hst7,hd7,_⟩
    have HST7:=Lib.hid hs7
    have HBE7:=Lib.hid (HBE6.out.trans (hw7.under (fun k hk=>HST6.out.under hk) HST6.out.base))
    have HRW7:=Lib.hid (hw7.row HRW6.out (fun k hk=>HST6.out.offT (HRW6.out.tag hk) (by decide) (by decide) (by decide) (by decide) (by decide) (by decide) (by decide)))
    have HK7:=Lib.hid (hw7.blk HK6.out (HST6.out.offT HK6.out.tag (by decide) (by decide) (by decide) (by decide) (by decide) (by decide) (by decide)))
    have HX7:=Lib.hid hst7
    have HDD7:=Lib.hid (hd7.trans HXD.out)
    have HZ7:Hid (w5.heap.size≤w7.heap.size):=Lib.hid (Nat.le_trans HZ6.out hw7.size)
    clear hs7 hw7 hst7 hd7 HDR HST6 HBE6 HBW6 HRW6 HZ6 HK6 HWL HLF HXD
    obtain⟨s2,hs2⟩:∃ s2,(s1.drop id).1=s2:=⟨_,rfl⟩
    obtain⟨cd,hcd⟩:∃ cd,(s1.drop id).2=cd:=⟨_,rfl⟩
    rw[hs2]at HST7 HLD HWD
    rw[hcd]at HLD ⊢
    clear hs2 hcd
    by_cases h90:cd=90
    ·have HLN:=Lib.hid (HLD.out.1 h90)
     have hcb:(cd==90)=true:=by simpa using h90
     clear h90 HLD HK7
     go_wp2
     go_roundw
     case rel=>exact⟨k+1,A6,c6,L,by omega,by go_num,rfl,by omega,.inr ⟨X7,s2,by rw[HX7.out],HST7.out,HDD7.out,HWD.out,(Nat.succ_mul k 521100).symm ▸ HLN.out⟩,HEN.out,HBE7.out,HRW7.out⟩
     case measure=>simp [intOf];omega
    have hcb:(cd==90)=false:=by simpa using h90
    obtain⟨bd,hbd⟩:∃ bd,(cd==0)=bd:=⟨_,rfl⟩
    have HLN:=Lib.hid HLD.out.2
    have hbe:decide (cd=0)=bd:=hbd
    rw[hbe]at HLN
    clear h90 HLD hbe
    have HEN8:Hid (∀ t∈L++[(⟨id,EP.zero,true,bd⟩:TP)],TrOk w t):=Lib.hid (fun t ht=>by
     rcases List.mem_append.1 ht with h | h
     ·exact HEN.out t h
     ·rw[List.mem_singleton.1 h]
      exact⟨EP.zero_rd w,by have:=HSM.out.2;show id.size≤_;omega,Nat.zero_le _,Nat.zero_le _⟩)
    obtain⟨y0,y1,y2,y3,y4,y5,y6,y7,y8,y9⟩:=cells10 HK7.out
    have HNEW:=Lib.hid (Rd.newRow w7 57 #[.string id,.string ⟨#[]⟩,.string ⟨#[]⟩,.int .i64 0,.string ⟨#[]⟩,.int .i64 0,.slice none 0 0,.slice none 0 0,.int .i64 0,.int .i64 0,.bool true,.bool bd] 1 12 rfl)
    have hb9:Below w7.heap.size w7 (w7.alloc (.cells #[.string id,.string ⟨#[]⟩,.string ⟨#[]⟩,.int .i64 0,.string ⟨#[]⟩,.int .i64 0,.slice none 0 0,.slice none 0 0,.int .i64 0,.int .i64 0,.bool true,.bool bd] 57)):=(Below.refl _ _).alloc (Nat.le_refl _) _
    have HST9:=Lib.hid (HST7.out.below hb9)
    have HBE9:=Lib.hid (below_then HST7.out.base HBE7.out hb9)
    have HRW9:=Lib.hid (HRW7.out.below hb9)
    have hbz:w5.heap.size≤(w7.alloc (.cells #[.string id,.string ⟨#[]⟩,.string ⟨#[]⟩,.int .i64 0,.string ⟨#[]⟩,.int .i64 0,.slice none 0 0,.slice none 0 0,.int .i64 0,.int .i64 0,.bool true,.bool bd] 57)).heap.size:=Nat.le_trans HZ7.out hb9.size
    have HBZ:=Lib.hid hbz
    have HL60:Hid (L.length+1≤549755813888):=Lib.hid (by omega)
    clear hb9 hbz HST7 HBE7 HRW7 HZ7
    go_wp2_with (at_builtin;refine appTry _ rfl _ _ rfl w5.heap.size A6 L.length c6 L rfl HRW9.out _ 1 1 [⟨id,EP.zero,true,bd⟩] rfl HNEW.out HL60.out HBZ.out ?_;intro A8 c8 w9 hr9 ha9;have HRW10:=Lib.hid hr9;have HST10:=Lib.hid (HST9.out.tried ha9.grown (fun k hk=>HRW9.out.tag hk));have HBE10:=Lib.hid (HBE9.out.trans ((ha9.below HRW9.out HBZ.out).mono HBB5.out));clear hr9 ha9)
    go_roundw
    case rel=>exact⟨k+1,A8,c8,L++[⟨id,EP.zero,true,bd⟩],by omega,by go_num,by rw[List.length_append]<;>rfl,by rw[List.length_append];exact Nat.succ_le_succ hLk,.inr ⟨X7,s2,by rw[HX7.out],HST10.out,HDD7.out,HWD.out,(Nat.succ_mul k 521100).symm ▸ HLN.out⟩,HEN8.out,HBE10.out,by rw[List.length_append];exact HRW10.out⟩
    case measure=>simp [intOf];omega
   subst hid0
   have HCP:=Lib.hid (kcopy_any q W6 HSM.out.1 (HER.out.below HBW6.out))
   obtain⟨y0,y1,y2,y3,y4,y5,y6,y7,y8,y9⟩:=cells10 HK6.out
   unfold EP.v entV at HCP
   go_wp2_with fail
   clear y0 y1 y2 y3 y4 y5 y6 y7 y8 y9
   refine HCP.out.mono ?_
   rintro e w7 ⟨⟨E2,A2,c2,X2,d2⟩,hq2,rfl,hr7,hb7⟩
   dsimp only at hq2
   subst hq2
   have HST7:=Lib.hid (HST6.out.below hb7)
   have HBE7:=Lib.hid (below_then HST6.out.base HBE6.out hb7)
   have HBW7:=Lib.hid (below_then HBW6.out.size HBW6.out hb7)
   have HRW7:=Lib.hid (HRW6.out.below hb7)
   have HK7:=Lib.hid (HK6.out.below hb7)
   have HZ7:Hid (w5.heap.size≤w7.heap.size):=Lib.hid (Nat.le_trans HZ6.out hb7.size)
   have HPU:=Lib.hid (wellPut_any ⟨q.E,A2,c2,X2,d2⟩ HST7.out HWL.out (by omega) HSM.out.1 hr7 (HTA.out.below HBW7.out).2.2)
   have HLN:=Lib.hid (HLF.out.put (by omega) (by omega) q)
   have HWD:=Lib.hid (HWL.out.put (by omega) q.E)
   dsimp only at HPU
   clear hr7 hb7 HCP HST6 HBE6 HBW6 HRW6 HK6 HZ6
   unfold EP.v entV at HPU
   dsimp only at HPU ⊢
   go_wp2_with fail
   refine HPU.out.mono ?_
   rintro e w8 ⟨rfl,X8,hs8,hw8,hst8,hd8,_⟩
   have HST8:=Lib.hid hs8
   have HBE8:=Lib.hid (HBE7.out.trans (hw8.under (fun k hk=>HST7.out.under hk) HST7.out.base))
   have HRW8:=Lib.hid (hw8.row HRW7.out (fun k hk=>HST7.out.offT (HRW7.out.tag hk) (by decide) (by decide) (by decide) (by decide) (by decide) (by decide) (by decide)))
   have HK8:=Lib.hid (hw8.blk HK7.out (HST7.out.offT HK7.out.tag (by decide) (by decide) (by decide) (by decide) (by decide) (by decide) (by decide)))
   have HX8:=Lib.hid hst8
   have HDD8:=Lib.hid (hd8.trans HXD.out)
   have HZ8:Hid (w5.heap.size≤w8.heap.size):=Lib.hid (Nat.le_trans HZ7.out hw8.size)
   clear hs8 hw8 hst8 hd8 HPU HST7 HBE7 HBW7 HRW7 HK7 HZ7 HXD HWL HLF
   obtain⟨s2,hs2⟩:∃ s2,(s1.put q.E).1=s2:=⟨_,rfl⟩
   obtain⟨cd,hcd⟩:∃ cd,(s1.put q.E).2=cd:=⟨_,rfl⟩
   rw[hs2]at HST8 HLN HWD
   rw[hcd]at HLN ⊢
   clear hs2 hcd
   have HEN8:Hid (∀ t∈L++[(⟨S.idOf q.E,q,false,cd==0⟩:TP)],TrOk w t):=Lib.hid (fun t ht=>by
    rcases List.mem_append.1 ht with h | h
    ·exact HEN.out t h
    ·rw[List.mem_singleton.1 h]
     exact⟨HER.out,id_size HSM.out.1,(ep_len HSM.out.1).1,(ep_len HSM.out.1).2.1⟩)
   have HCC:=Lib.hid (fun (u:World) (hu:Below w8.heap.size w8 u)=>cells10 (HK8.out.below hu))
   have HID:=Lib.hid (fun (u:World)=>refId_any q.E.k q.E.v u (by have:=HSM.out.1;unfold EP.small at this;omega) (by have:=HSM.out.1;unfold EP.small at this;omega))
   have hS0:Below w8.heap.size w8 w8.drew:=(Below.refl _ _).drew
   have HL60:Hid (L.length+1≤549755813888):=Lib.hid (by omega)
   go_wp2_with fail
   refine wp_region_noPanic ?_
   refine HT.begin (n:=14) (S:=(fun u=>Below w8.heap.size w8 u)) (by kernel_rfl) hS0 ?_
   generalize w8.drew=wd at *
   refine HT.take 0 (.slice A6 L.length c6) rfl (by kernel_rfl) (fun _ _ _ h=>h) (Or.inl ⟨by rfl,?_⟩) (?_:HT _ _ _ _ _ _ _ ⟨#[_,_,_,_,_,_,_,_,_,_,_,_,_,_,_,_,_,_,_,_,_,_,_,_,_,_,_,_,_,_,_,_,_,_,_,_,_,_,_,_,_,_,_,_,_,_,_,_,_,_,_,_,_,_,_,_,_,_,_,_,_,_,_,_,_,_,_,_,_,_,_,_,_,_,_,_,_,_,_,_,_,_,_,_,_,_,_,_,_,_,_,_,_,_,_,_,_,_,_,_,_,.slice A6 L.length c6,_,_,_,_,_,_,_,_,_,_,_,_,_,_,_,_,_,_,_,_,_,_,_,_,_,_,_,_,_,_,_,_,_,_,_,_,_,_,_,_,_,_,_,_,_,_,_,_,_,_,_,_,_,_,_,_,_,_,_,_,_,_,_,_,_,_,_,_,_,_,_,_,_,_,_,_,_,_,_,_,_,_,_,_,_,_,_,_,_,_,_,_,_,_,_,_,_,_,_,_,_,_,_,_,_,_,_,_,_,_,_,_,_,_],[]⟩ _)
   ·intro u hu
    go_simp
   refine HT.take 1 (.pointer (some ⟨kb,0,none⟩)) rfl (by kernel_rfl) (fun _ _ _ h=>h) (Or.inl ⟨by rfl,?_⟩) (?_:HT _ _ _ _ _ _ _ ⟨#[_,_,_,_,_,_,_,_,_,_,_,_,_,_,_,_,_,_,_,_,_,_,_,_,_,_,_,_,_,_,_,_,_,_,_,_,_,_,_,_,_,_,_,_,_,_,_,_,_,_,_,_,_,_,_,_,_,_,_,_,_,_,_,_,_,_,_,_,_,_,_,_,_,_,_,_,_,_,_,_,_,_,_,_,_,_,_,_,_,_,_,_,_,_,_,_,_,_,_,_,_,.slice A6 L.length c6,.pointer (some ⟨kb,0,none⟩),_,_,_,_,_,_,_,_,_,_,_,_,_,_,_,_,_,_,_,_,_,_,_,_,_,_,_,_,_,_,_,_,_,_,_,_,_,_,_,_,_,_,_,_,_,_,_,_,_,_,_,_,_,_,_,_,_,_,_,_,_,_,_,_,_,_,_,_,_,_,_,_,_,_,_,_,_,_,_,_,_,_,_,_,_,_,_,_,_,_,_,_,_,_,_,_,_,_,_,_,_,_,_,_,_,_,_,_,_,_,_,_,_],[]⟩ _)
   ·intro u hu
    go_simp
   refine HT.take 2 (.pointer (some ⟨kb,0,none⟩)) rfl (by kernel_rfl) (fun _ _ _ h=>h) (Or.inl ⟨by rfl,?_⟩) (?_:HT _ _ _ _ _ _ _ ⟨#[_,_,_,_,_,_,_,_,_,_,_,_,_,_,_,_,_,_,_,_,_,_,_,_,_,_,_,_,_,_,_,_,_,_,_,_,_,_,_,_,_,_,_,_,_,_,_,_,_,_,_,_,_,_,_,_,_,_,_,_,_,_,_,_,_,_,_,_,_,_,_,_,_,_,_,_,_,_,_,_,_,_,_,_,_,_,_,_,_,_,_,_,_,_,_,_,_,_,_,_,_,.slice A6 L.length c6,.pointer (some ⟨kb,0,none⟩),.pointer (some ⟨kb,0,none⟩),_,_,_,_,_,_,_,_,_,_,_,_,_,_,_,_,_,_,_,_,_,_,_,_,_,_,_,_,_,_,_,_,_,_,_,_,_,_,_,_,_,_,_,_,_,_,_,_,_,_,_,_,_,_,_,_,_,_,_,_,_,_,_,_,_,_,_,_,_,_,_,_,_,_,_,_,_,_,_,_,_,_,_,_,_,_,_,_,_,_,_,_,_,_,_,_,_,_,_,_,_,_,_,_,_,_,_,_,_,_,_,_],[]⟩ _)
   ·intro u hu
    go_simp
   refine HT.take 3 (.string q.E.k) rfl (by kernel_rfl) (fun _ _ _ h=>h) (Or.inl ⟨by rfl,?_⟩) (?_:HT _ _ _ _ _ _ _ ⟨#[_,_,_,_,_,_,_,_,_,_,_,_,_,_,_,_,_,_,_,_,_,_,_,_,_,_,_,_,_,_,_,_,_,_,_,_,_,_,_,_,_,_,_,_,_,_,_,_,_,_,_,_,_,_,_,_,_,_,_,_,_,_,_,_,_,_,_,_,_,_,_,_,_,_,_,_,_,_,_,_,_,_,_,_,_,_,_,_,_,_,_,_,_,_,_,_,_,_,_,_,_,.slice A6 L.length c6,.pointer (some ⟨kb,0,none⟩),.pointer (some ⟨kb,0,none⟩),.string q.E.k,_,_,_,_,_,_,_,_,_,_,_,_,_,_,_,_,_,_,_,_,_,_,_,_,_,_,_,_,_,_,_,_,_,_,_,_,_,_,_,_,_,_,_,_,_,_,_,_,_,_,_,_,_,_,_,_,_,_,_,_,_,_,_,_,_,_,_,_,_,_,_,_,_,_,_,_,_,_,_,_,_,_,_,_,_,_,_,_,_,_,_,_,_,_,_,_,_,_,_,_,_,_,_,_,_,_,_,_,_,_,_],[]⟩ _)
   ·intro u hu
    obtain⟨y0,y1,y2,y3,y4,y5,y6,y7,y8,y9⟩:=HCC.out u hu
    go_simp
   refine HT.take 4 (.pointer (some ⟨kb,0,none⟩)) rfl (by kernel_rfl) (fun _ _ _ h=>h) (Or.inl ⟨by rfl,?_⟩) (?_:HT _ _ _ _ _ _ _ ⟨#[_,_,_,_,_,_,_,_,_,_,_,_,_,_,_,_,_,_,_,_,_,_,_,_,_,_,_,_,_,_,_,_,_,_,_,_,_,_,_,_,_,_,_,_,_,_,_,_,_,_,_,_,_,_,_,_,_,_,_,_,_,_,_,_,_,_,_,_,_,_,_,_,_,_,_,_,_,_,_,_,_,_,_,_,_,_,_,_,_,_,_,_,_,_,_,_,_,_,_,_,_,.slice A6 L.length c6,.pointer (some ⟨kb,0,none⟩),.pointer (some ⟨kb,0,none⟩),.string q.E.k,.pointer (some ⟨kb,0,none⟩),_,_,_,_,_,_,_,_,_,_,_,_,_,_,_,_,_,_,_,_,_,_,_,_,_,_,_,_,_,_,_,_,_,_,_,_,_,_,_,_,_,_,_,_,_,_,_,_,_,_,_,_,_,_,_,_,_,_,_,_,_,_,_,_,_,_,_,_,_,_,_,_,_,_,_,_,_,_,_,_,_,_,_,_,_,_,_,_,_,_,_,_,_,_,_,_,_,_,_,_,_,_,_,_,_,_,_,_,_,_],[]⟩ _)
   ·intro u hu
    go_simp
   refine HT.take 5 (.pointer (some ⟨kb,1,none⟩)) rfl (by kernel_rfl) (fun _ _ _ h=>h) (Or.inl ⟨by rfl,?_⟩) (?_:HT _ _ _ _ _ _ _ ⟨#[_,_,_,_,_,_,_,_,_,_,_,_,_,_,_,_,_,_,_,_,_,_,_,_,_,_,_,_,_,_,_,_,_,_,_,_,_,_,_,_,_,_,_,_,_,_,_,_,_,_,_,_,_,_,_,_,_,_,_,_,_,_,_,_,_,_,_,_,_,_,_,_,_,_,_,_,_,_,_,_,_,_,_,_,_,_,_,_,_,_,_,_,_,_,_,_,_,_,_,_,_,.slice A6 L.length c6,.pointer (some ⟨kb,0,none⟩),.pointer (some ⟨kb,0,none⟩),.string q.E.k,.pointer (some ⟨kb,0,none⟩),.pointer (some ⟨kb,1,none⟩),_,_,_,_,_,_,_,_,_,_,_,_,_,_,_,_,_,_,_,_,_,_,_,_,_,_,_,_,_,_,_,_,_,_,_,_,_,_,_,_,_,_,_,_,_,_,_,_,_,_,_,_,_,_,_,_,_,_,_,_,_,_,_,_,_,_,_,_,_,_,_,_,_,_,_,_,_,_,_,_,_,_,_,_,_,_,_,_,_,_,_,_,_,_,_,_,_,_,_,_,_,_,_,_,_,_,_,_,_],[]⟩ _)
   ·intro u hu
    go_simp
   refine HT.take 6 (.string q.E.v) rfl (by kernel_rfl) (fun _ _ _ h=>h) (Or.inl ⟨by rfl,?_⟩) (?_:HT _ _ _ _ _ _ _ ⟨#[_,_,_,_,_,_,_,_,_,_,_,_,_,_,_,_,_,_,_,_,_,_,_,_,_,_,_,_,_,_,_,_,_,_,_,_,_,_,_,_,_,_,_,_,_,_,_,_,_,_,_,_,_,_,_,_,_,_,_,_,_,_,_,_,_,_,_,_,_,_,_,_,_,_,_,_,_,_,_,_,_,_,_,_,_,_,_,_,_,_,_,_,_,_,_,_,_,_,_,_,_,.slice A6 L.length c6,.pointer (some ⟨kb,0,none⟩),.pointer (some ⟨kb,0,none⟩),.string q.E.k,.pointer (some ⟨kb,0,none⟩),.pointer (some ⟨kb,1,none⟩),.string q.E.v,_,_,_,_,_,_,_,_,_,_,_,_,_,_,_,_,_,_,_,_,_,_,_,_,_,_,_,_,_,_,_,_,_,_,_,_,_,_,_,_,_,_,_,_,_,_,_,_,_,_,_,_,_,_,_,_,_,_,_,_,_,_,_,_,_,_,_,_,_,_,_,_,_,_,_,_,_,_,_,_,_,_,_,_,_,_,_,_,_,_,_,_,_,_,_,_,_,_,_,_,_,_,_,_,_,_,_,_],[]⟩ _)
   ·intro u hu
    obtain⟨y0,y1,y2,y3,y4,y5,y6,y7,y8,y9⟩:=HCC.out u hu
    go_simp
   refine HT.take 8 (.pointer (some ⟨kb,0,none⟩)) rfl (by kernel_rfl) (fun _ _ _ h=>h) (Or.inl ⟨by rfl,?_⟩) (?_:HT _ _ _ _ _ _ _ ⟨#[_,_,_,_,_,_,_,_,_,_,_,_,_,_,_,_,_,_,_,_,_,_,_,_,_,_,_,_,_,_,_,_,_,_,_,_,_,_,_,_,_,_,_,_,_,_,_,_,_,_,_,_,_,_,_,_,_,_,_,_,_,_,_,_,_,_,_,_,_,_,_,_,_,_,_,_,_,_,_,_,_,_,_,_,_,_,_,_,_,_,_,_,_,_,_,_,_,_,_,_,_,.slice A6 L.length c6,.pointer (some ⟨kb,0,none⟩),.pointer (some ⟨kb,0,none⟩),.string q.E.k,.pointer (some ⟨kb,0,none⟩),.pointer (some ⟨kb,1,none⟩),.string q.E.v,_,.pointer (some ⟨kb,0,none⟩),_,_,_,_,_,_,_,_,_,_,_,_,_,_,_,_,_,_,_,_,_,_,_,_,_,_,_,_,_,_,_,_,_,_,_,_,_,_,_,_,_,_,_,_,_,_,_,_,_,_,_,_,_,_,_,_,_,_,_,_,_,_,_,_,_,_,_,_,_,_,_,_,_,_,_,_,_,_,_,_,_,_,_,_,_,_,_,_,_,_,_,_,_,_,_,_,_,_,_,_,_,_,_,_,_,_],[]⟩ _)
   ·intro u hu
    go_simp
   refine HT.take 9 (.agg #[.string q.E.k,.string q.E.v,.int .i64 q.E.s,.string q.E.r,.int .i64 q.E.m,.slice q.A q.E.fs.length q.c,.slice q.X q.E.body.length q.d,.int .i64 q.E.asked,.int .i64 q.E.got]) rfl (by kernel_rfl) (fun _ _ _ h=>h) (Or.inl ⟨by rfl,?_⟩) (?_:HT _ _ _ _ _ _ _ ⟨#[_,_,_,_,_,_,_,_,_,_,_,_,_,_,_,_,_,_,_,_,_,_,_,_,_,_,_,_,_,_,_,_,_,_,_,_,_,_,_,_,_,_,_,_,_,_,_,_,_,_,_,_,_,_,_,_,_,_,_,_,_,_,_,_,_,_,_,_,_,_,_,_,_,_,_,_,_,_,_,_,_,_,_,_,_,_,_,_,_,_,_,_,_,_,_,_,_,_,_,_,_,.slice A6 L.length c6,.pointer (some ⟨kb,0,none⟩),.pointer (some ⟨kb,0,none⟩),.string q.E.k,.pointer (some ⟨kb,0,none⟩),.pointer (some ⟨kb,1,none⟩),.string q.E.v,_,.pointer (some ⟨kb,0,none⟩),.agg #[.string q.E.k,.string q.E.v,.int .i64 q.E.s,.string q.E.r,.int .i64 q.E.m,.slice q.A q.E.fs.length q.c,.slice q.X q.E.body.length q.d,.int .i64 q.E.asked,.int .i64 q.E.got],_,_,_,_,_,_,_,_,_,_,_,_,_,_,_,_,_,_,_,_,_,_,_,_,_,_,_,_,_,_,_,_,_,_,_,_,_,_,_,_,_,_,_,_,_,_,_,_,_,_,_,_,_,_,_,_,_,_,_,_,_,_,_,_,_,_,_,_,_,_,_,_,_,_,_,_,_,_,_,_,_,_,_,_,_,_,_,_,_,_,_,_,_,_,_,_,_,_,_,_,_,_,_,_,_],[]⟩ _)
   ·intro u hu
    obtain⟨y0,y1,y2,y3,y4,y5,y6,y7,y8,y9⟩:=HCC.out u hu
    go_simp
   refine HT.take 10 (.int .i64 cd) rfl (by kernel_rfl) (fun _ _ _ h=>h) (Or.inl ⟨by rfl,?_⟩) (?_:HT _ _ _ _ _ _ _ ⟨#[_,_,_,_,_,_,_,_,_,_,_,_,_,_,_,_,_,_,_,_,_,_,_,_,_,_,_,_,_,_,_,_,_,_,_,_,_,_,_,_,_,_,_,_,_,_,_,_,_,_,_,_,_,_,_,_,_,_,_,_,_,_,_,_,_,_,_,_,_,_,_,_,_,_,_,_,_,_,_,_,_,_,_,_,_,_,_,_,_,_,_,_,_,_,_,_,_,_,_,_,_,.slice A6 L.length c6,.pointer (some ⟨kb,0,none⟩),.pointer (some ⟨kb,0,none⟩),.string q.E.k,.pointer (some ⟨kb,0,none⟩),.pointer (some ⟨kb,1,none⟩),.string q.E.v,_,.pointer (some ⟨kb,0,none⟩),.agg #[.string q.E.k,.string q.E.v,.int .i64 q.E.s,.string q.E.r,.int .i64 q.E.m,.slice q.A q.E.fs.length q.c,.slice q.X q.E.body.length q.d,.int .i64 q.E.asked,.int .i64 q.E.got],.int .i64 cd,_,_,_,_,_,_,_,_,_,_,_,_,_,_,_,_,_,_,_,_,_,_,_,_,_,_,_,_,_,_,_,_,_,_,_,_,_,_,_,_,_,_,_,_,_,_,_,_,_,_,_,_,_,_,_,_,_,_,_,_,_,_,_,_,_,_,_,_,_,_,_,_,_,_,_,_,_,_,_,_,_,_,_,_,_,_,_,_,_,_,_,_,_,_,_,_,_,_,_,_,_,_,_,_],[]⟩ _)
   ·intro u hu
    go_simp
   refine HT.take 11 (.bool (cd==0)) rfl (by kernel_rfl) (fun _ _ _ h=>h) (Or.inl ⟨by rfl,?_⟩) (?_:HT _ _ _ _ _ _ _ ⟨#[_,_,_,_,_,_,_,_,_,_,_,_,_,_,_,_,_,_,_,_,_,_,_,_,_,_,_,_,_,_,_,_,_,_,_,_,_,_,_,_,_,_,_,_,_,_,_,_,_,_,_,_,_,_,_,_,_,_,_,_,_,_,_,_,_,_,_,_,_,_,_,_,_,_,_,_,_,_,_,_,_,_,_,_,_,_,_,_,_,_,_,_,_,_,_,_,_,_,_,_,_,.slice A6 L.length c6,.pointer (some ⟨kb,0,none⟩),.pointer (some ⟨kb,0,none⟩),.string q.E.k,.pointer (some ⟨kb,0,none⟩),.pointer (some ⟨kb,1,none⟩),.string q.E.v,_,.pointer (some ⟨kb,0,none⟩),.agg #[.string q.E.k,.string q.E.v,.int .i64 q.E.s,.string q.E.r,.int .i64 q.E.m,.slice q.A q.E.fs.length q.c,.slice q.X q.E.body.length q.d,.int .i64 q.E.asked,.int .i64 q.E.got],.int .i64 cd,.bool (cd==0),_,_,_,_,_,_,_,_,_,_,_,_,_,_,_,_,_,_,_,_,_,_,_,_,_,_,_,_,_,_,_,_,_,_,_,_,_,_,_,_,_,_,_,_,_,_,_,_,_,_,_,_,_,_,_,_,_,_,_,_,_,_,_,_,_,_,_,_,_,_,_,_,_,_,_,_,_,_,_,_,_,_,_,_,_,_,_,_,_,_,_,_,_,_,_,_,_,_,_,_,_,_,_],[]⟩ _)
   ·intro u hu
    go_simp
   refine HT.step 7 rfl (by kernel_rfl) (fun hS K hK=>?_)
   go_simp
   refine (HID.out _).mono ?_
   rintro e w9 ⟨rfl,hb9⟩
   refine hK.out _ _ (below_then hS.size hS hb9) ?_
   clear hK hb9 hS
   refine HT.take 12 (.agg #[.string (q.E.k++⟨#[10]⟩++q.E.v),.string q.E.k,.string q.E.v,.int .i64 q.E.s,.string q.E.r,.int .i64 q.E.m,.slice q.A q.E.fs.length q.c,.slice q.X q.E.body.length q.d,.int .i64 q.E.asked,.int .i64 q.E.got,.bool false,.bool (cd==0)]) rfl (by kernel_rfl) (fun _ _ _ h=>h) (Or.inl ⟨by rfl,?_⟩) (?_:HT _ _ _ _ _ _ _ ⟨#[_,_,_,_,_,_,_,_,_,_,_,_,_,_,_,_,_,_,_,_,_,_,_,_,_,_,_,_,_,_,_,_,_,_,_,_,_,_,_,_,_,_,_,_,_,_,_,_,_,_,_,_,_,_,_,_,_,_,_,_,_,_,_,_,_,_,_,_,_,_,_,_,_,_,_,_,_,_,_,_,_,_,_,_,_,_,_,_,_,_,_,_,_,_,_,_,_,_,_,_,_,.slice A6 L.length c6,.pointer (some ⟨kb,0,none⟩),.pointer (some ⟨kb,0,none⟩),.string q.E.k,.pointer (some ⟨kb,0,none⟩),.pointer (some ⟨kb,1,none⟩),.string q.E.v,.string (q.E.k++⟨#[10]⟩++q.E.v),.pointer (some ⟨kb,0,none⟩),.agg #[.string q.E.k,.string q.E.v,.int .i64 q.E.s,.string q.E.r,.int .i64 q.E.m,.slice q.A q.E.fs.length q.c,.slice q.X q.E.body.length q.d,.int .i64 q.E.asked,.int .i64 q.E.got],.int .i64 cd,.bool (cd==0),.agg #[.string (q.E.k++⟨#[10]⟩++q.E.v),.string q.E.k,.string q.E.v,.int .i64 q.E.s,.string q.E.r,.int .i64 q.E.m,.slice q.A q.E.fs.length q.c,.slice q.X q.E.body.length q.d,.int .i64 q.E.asked,.int .i64 q.E.got,.bool false,.bool (cd==0)],_,_,_,_,_,_,_,_,_,_,_,_,_,_,_,_,_,_,_,_,_,_,_,_,_,_,_,_,_,_,_,_,_,_,_,_,_,_,_,_,_,_,_,_,_,_,_,_,_,_,_,_,_,_,_,_,_,_,_,_,_,_,_,_,_,_,_,_,_,_,_,_,_,_,_,_,_,_,_,_,_,_,_,_,_,_,_,_,_,_,_,_,_,_,_,_,_,_,_,_,_,_],[]⟩ _)
   ·intro u hu
    go_simp
   refine HT.step 13 rfl (by kernel_rfl) (fun hS K hK=>?_)
   go_simp
   refine hK.out _ _ (below_then hS.size hS ((Below.refl _ _).alloc (Nat.le_refl _) _)) ?_
   have HB9:=Lib.hid hS
   clear hK hS
   refine HT.tail _ rfl rfl (by kernel_rfl) (fun hS=>?_)
   clear hS hS0 HID HCC
   have HNEW:=Lib.hid (Rd.newRow w9 57 #[.string (q.E.k++⟨#[10]⟩++q.E.v),.string q.E.k,.string q.E.v,.int .i64 q.E.s,.string q.E.r,.int .i64 q.E.m,.slice q.A q.E.fs.length q.c,.slice q.X q.E.body.length q.d,.int .i64 q.E.asked,.int .i64 q.E.got,.bool false,.bool (cd==0)] 1 12 rfl)
   have hb9:=below_then HB9.out.size HB9.out ((Below.refl w9.heap.size w9).alloc (Nat.le_refl _) (.cells #[.string (q.E.k++⟨#[10]⟩++q.E.v),.string q.E.k,.string q.E.v,.int .i64 q.E.s,.string q.E.r,.int .i64 q.E.m,.slice q.A q.E.fs.length q.c,.slice q.X q.E.body.length q.d,.int .i64 q.E.asked,.int .i64 q.E.got,.bool false,.bool (cd==0)] 57))
   have HST9:=Lib.hid (HST8.out.below hb9)
   have HBE9:=Lib.hid (below_then HST8.out.base HBE8.out hb9)
   have HRW9:=Lib.hid (HRW8.out.below hb9)
   have HBZ:Hid (w5.heap.size≤(w9.alloc (.cells #[.string (q.E.k++⟨#[10]⟩++q.E.v),.string q.E.k,.string q.E.v,.int .i64 q.E.s,.string q.E.r,.int .i64 q.E.m,.slice q.A q.E.fs.length q.c,.slice q.X q.E.body.length q.d,.int .i64 q.E.asked,.int .i64 q.E.got,.bool false,.bool (cd==0)] 57)).heap.size):=Lib.hid (Nat.le_trans HZ8.out hb9.size)
   clear hb9 HST8 HBE8 HRW8 HZ8 HB9
   refine appTry _ rfl _ _ rfl w5.heap.size A6 L.length c6 L rfl HRW9.out _ 1 1 [⟨S.idOf q.E,q,false,cd==0⟩] rfl HNEW.out HL60.out HBZ.out ?_
   intro A8 c8 w10 hr10 ha10
   have HRW10:=Lib.hid hr10
   have HST10:=Lib.hid (HST9.out.tried ha10.grown (fun k hk=>HRW9.out.tag hk))
   have HBE10:=Lib.hid (HBE9.out.trans ((ha10.below HRW9.out HBZ.out).mono HBB5.out))
   clear hr10 ha10
   go_wp2
   refine NoPanic.normal ?_
   go_wp2
   go_roundw
   case rel=>exact⟨k+1,A8,c8,L++[⟨S.idOf q.E,q,false,cd==0⟩],by omega,by go_num,by rw[List.length_append]<;>rfl,by rw[List.length_append];exact Nat.succ_le_succ hLk,.inr ⟨X8,s2,by rw[HX8.out],HST10.out,HDD8.out,HWD.out,(Nat.succ_mul k 521100).symm ▸ HLN.out⟩,HEN8.out,HBE10.out,by rw[List.length_append];exact HRW10.out⟩
   case measure=>simp [intOf];omega
 case rest =>
  obtain⟨L,A6,c6,rfl,hL60,hdv,hen,hbe,hrow⟩:=hcut
  have HBW:=Lib.hid (HB4.out.trans (hbe.mono HZW.out))
  have HF1:Hid (Blk wc w.heap.size #[.int .i64 k1,.slice Z1 m1.length zc1] 53):=Lib.hid ((hbe.block _ (Nat.lt_of_succ_lt HZX.out)).trans HFF4.out.1)
  have HF2:Hid (Blk wc (w.heap.size+1) #[.int .i64 k2,.slice Z2 m2.length zc2] 53):=Lib.hid ((hbe.block _ HZX.out).trans HFF4.out.2)
  have HEN:=Lib.hid hen
  have HRW:=Lib.hid hrow
  have HDV:=Lib.hid hdv
  have HL60:=Lib.hid hL60
  clear hdv hen hbe hrow HFF4 HB4 HSV4 HXC HRC HSC HBB4 HBB5 hL60
  obtain⟨x0,x1⟩:=HF1.out.cells2
  have HCF:=Lib.hid (copyFate_any k1 Z1 m1.length zc1 m1 wc rfl hm1 (HZ1.out.below HBW.out))
  go_wp2_with fail
  clear x0 x1
  refine HCF.out.mono ?_
  rintro e w6 ⟨Z3,zc3,rfl,hz3,hb6⟩
  have HBW6:=Lib.hid (below_then HBW.out.size HBW.out hb6)
  have HRW6:=Lib.hid (HRW.out.below hb6)
  have HF6:=Lib.hid (HF2.out.below hb6)
  have HLE:=Lib.hid (dvLeft_any (HDV.out.below hb6) (by omega) k1 Z3 zc3 m1 hm1 hz3)
  clear hz3 hb6 HCF HBW HRW HF1 HF2 HDV
  go_wp2_with fail
  refine HLE.out.mono ?_
  rintro e w7 ⟨A9,c9,fl,rfl,hfr,hfa,hft,hb7⟩
  have HBW7:=Lib.hid (below_then HBW6.out.size HBW6.out hb7)
  have HRW7:=Lib.hid (HRW6.out.below hb7)
  have HF7:=Lib.hid (HF6.out.below hb7)
  have HNF:=Lib.hid (dvNew_any second A9 c9 _ fl hfr hfa (by omega))
  have HFA:=Lib.hid hfa
  have HFT:=Lib.hid hft
  clear hfr hfa hft hb7 HLE HBW6 HRW6 HF6
  go_wp2_with fail
  refine HNF.out.mono ?_
  rintro e w8 ⟨M2,rfl,hd8,hb8⟩
  have HBW8:=Lib.hid (below_then HBW7.out.size HBW7.out hb8)
  have HOP:=Lib.hid (dvOpen_any M2 w hd8 HFA.out HFT.out (by omega) (by omega) hns HTA.out HBW8.out HBW7.out.size hb8.size)
  have HB8:=Lib.hid hb8
  clear hd8 hb8 HNF HFA HFT HBW8
  go_wp2_with fail
  refine HOP.out.mono ?_
  rintro e w9 ⟨p2,er2,rfl,hdv9,hb9⟩
  have hb79:=HB8.out.trans hb9
  have HBW9:=Lib.hid (below_then HBW7.out.size HBW7.out hb79)
  have HRW9:=Lib.hid (HRW7.out.below hb79)
  have HF9:=Lib.hid (HF7.out.below hb79)
  have HDV:=Lib.hid hdv9
  clear hdv9 hb9 hb79 HB8 HOP HBW7 HRW7 HF7
  generalize w7.heap.size=b7 at *
  generalize M2.d=md2 at *
  obtain⟨x0,x1⟩:=HF9.out.cells2
  have HCF:=Lib.hid (copyFate_any k2 Z2 m2.length zc2 m2 w9 rfl hm2 (HZ2.out.below HBW9.out))
  go_wp2_with fail
  clear x0 x1
  refine HCF.out.mono ?_
  rintro e w10 ⟨Z4,zc4,rfl,hz4,hb10⟩
  have HBW10:=Lib.hid (below_then HBW9.out.size HBW9.out hb10)
  have HRW10:=Lib.hid (HRW9.out.below hb10)
  have HLE:=Lib.hid (dvLeft_any (HDV.out.below hb10) (by omega) k2 Z4 zc4 m2 hm2 hz4)
  clear hz4 hb10 HCF HBW9 HRW9 HF9 HDV
  go_wp2_with fail
  refine HLE.out.mono ?_
  rintro e w11 ⟨A10,c10,fl2,rfl,hfr,hfa,hft,hb11⟩
  have HBW11:=Lib.hid (below_then HBW10.out.size HBW10.out hb11)
  have HRW11:=Lib.hid (HRW10.out.below hb11)
  have HNF:=Lib.hid (dvNew_any (-1) A10 c10 _ fl2 hfr hfa (by omega))
  have HFA:=Lib.hid hfa
  have HFT:=Lib.hid hft
  clear hfr hfa hft hb11 HLE HBW10 HRW10
  go_wp2_with fail
  refine HNF.out.mono ?_
  rintro e w12 ⟨M3,rfl,hd12,hb12⟩
  have HBW12:=Lib.hid (below_then HBW11.out.size HBW11.out hb12)
  have HOP:=Lib.hid (lastOpen_any M3 w hd12 HFA.out HFT.out (by omega) (by omega) hns HTA.out HBW12.out HBW11.out.size hb12.size)
  have HB12:=Lib.hid hb12
  clear hd12 hb12 HNF HFA HFT HBW12
  go_wp2_with fail
  refine HOP.out.mono ?_
  rintro e w13 ⟨X3,s3,V,rfl,hs3,hf3,htd,hup,hlen,hids,hget,hall,hb13⟩
  have hbb:=HB12.out.trans hb13
  have HBW13:=Lib.hid (below_then HBW11.out.size HBW11.out hbb)
  have HRW13:=Lib.hid (HRW11.out.below hbb)
  have HS13:=Lib.hid hs3
  have HFI:=Lib.hid hf3
  have HTD:=Lib.hid htd
  have HID4:=Lib.hid (fun p (hp:p∈s3.tab)=>(hids p hp).1)
  have HIDZ:Hid (∀ id∈s3.ids,id.size≤4096):=Lib.hid (fun id hid=>by
   unfold S.Sto.ids at hid
   obtain⟨p,hp,rfl⟩:=List.mem_map.1 hid
   exact (hids p hp).2)
  have HGT:=Lib.hid hget
  have HSO:=Lib.hid hall
  have hil:s3.ids.length=s3.tab.length:=by unfold S.Sto.ids;rw[List.length_map]
  have HIA:=Lib.hid (ids_any _ X3 s3 w13 hs3 hup (by omega))
  obtain⟨I,hI⟩:∃ I,s3.ids=I:=⟨_,rfl⟩
  rw[hI]at HIA HSO hil HIDZ
  have hi100:I.length≤100:=by omega
  clear hs3 hf3 htd hids hget hall hup hlen hil hb13 hbb HB12 HOP HBW11 HRW11 hI
  generalize w11.heap.size=b11 at *
  go_wp2_with fail
  refine HIA.out.mono ?_
  rintro e w14 ⟨A12,c12,rfl,hr14,hb14⟩
  have HBW14:=Lib.hid (below_then HBW13.out.size HBW13.out hb14)
  have HRW14:=Lib.hid (HRW13.out.below hb14)
  have HS14:=Lib.hid (HS13.out.below hb14)
  have HR14:=Lib.hid hr14.rd
  clear hr14 hb14 HIA HBW13 HRW13 HS13
  go_wp2_with fail
  go_loopw [23] (fun j wr=>∃ m:Nat,m≤I.length∧j=.int .i64 m∧Below w14.heap.size w14 wr) (fun j _=>I.length - (intOf j).toNat)
  case atStart=>exact⟨0,Nat.zero_le _,rfl,Below.refl _ _⟩
  case round =>
   obtain⟨m,hm,rfl,hbe⟩:=hrel
   have HBE:=Lib.hid hbe
   have HBW:=Lib.hid (below_then HBW14.out.size HBW14.out hbe)
   have HST:=Lib.hid (HS14.out.below hbe)
   have HRW:=Lib.hid (HRW14.out.below hbe)
   have HRI:=Lib.hid (HR14.out.below hbe)
   clear hbe
   obtain⟨wo,rfl⟩:∃ wo:World,wo=wr:=⟨_,rfl⟩
   by_cases hlt:m < I.length
   rotate_left
   ·clear HBE HBW14 HRW14 HR14 HRI HSO HIDZ
    generalize I.length=IL at *
    go_wp2_with fail
    go_loopw [26] (fun j wr=>∃ m:Nat,m≤L.length∧j=.int .i64 m∧Below wo.heap.size wo wr) (fun j _=>L.length - (intOf j).toNat)
    case atStart=>exact⟨0,Nat.zero_le _,rfl,Below.refl _ _⟩
    case round =>
     obtain⟨m3,hm3,rfl,hbe⟩:=hrel
     have hL6:=HL60.out
     have HBE:=Lib.hid hbe
     have HBV:=Lib.hid (below_then HBW.out.size HBW.out hbe)
     have HSV:=Lib.hid (HST.out.below hbe)
     have HRV:=Lib.hid (HRW.out.below hbe)
     clear hbe
     obtain⟨wq,rfl⟩:∃ wq:World,wq=wr:=⟨_,rfl⟩
     by_cases hlt3:m3 < L.length
     rotate_left
     ·go_wp2
      go_ret
      exact⟨rfl,HBV.out⟩
     obtain⟨b,o,hA6,hbl,hat⟩:=rd_try HRV.out.rd hlt3 rfl
     subst hA6
     have hEN:=(HEN.out _ (List.getElem_mem hlt3)).2.1
     have y0:=hat.1
     generalize (L[m3]'hlt3).id=id at *
     have HY0:=Lib.hid (fun (u:World) (hu:Below wq.heap.size wq u)=>(hu.cell (p:=⟨b,o+m3 * 12,none⟩) hbl).trans y0)
     have HG1:=Lib.hid (sget_any _ X3 s3 id _ wq HSV.out HFI.out (by omega) HID4.out hEN (HTA.out.below HBV.out))
     rw[HGT.out]at HG1
     have HMU:=Lib.hid (HTD.out.must id)
     have HMT:=Lib.hid (fun (u:World) (hu:Below wq.heap.size wq u)=>must_any (some ⟨b,o,none⟩) L.length c6 L id u rfl (by have:=HL60.out;omega) (HRV.out.below hu).rd)
     obtain⟨mu,hmu⟩:∃ mu,T.must L id=mu:=⟨_,rfl⟩
     obtain⟨ok,hok⟩:∃ ok,(V id).isSome=ok:=⟨_,rfl⟩
     unfold RetGet at HG1
     rw[hok]at HG1 HMU
     rw[hmu]at HMU HMT
     obtain⟨E,hE⟩:∃ E,(V id).getD O.Ent.zero=E:=⟨_,rfl⟩
     rw[hE]at HG1
     clear hmu hok hE hat hEN
     go_wp2_with fail
     clear y0
     refine HG1.out.mono ?_
     rintro e w15 ⟨A7,c7,X7,d7,rfl,r1,r2,hb15⟩
     clear r1 r2 HG1
     dsimp only[entV]
     go_upto_region 40 with fail
     have hba:Below w15.heap.size w15 (w15.alloc (.cells #[.string E.k,.string E.v,.int .i64 E.s,.string E.r,.int .i64 E.m,.slice A7 E.fs.length c7,.slice X7 E.body.length d7,.int .i64 E.asked,.int .i64 E.got] 28)):=(Below.refl _ _).alloc (Nat.le_refl _) _
     have hb0:=below_then hb15.size hb15 hba
     generalize w15.alloc (.cells #[.string E.k,.string E.v,.int .i64 E.s,.string E.r,.int .i64 E.m,.slice A7 E.fs.length c7,.slice X7 E.body.length d7,.int .i64 E.asked,.int .i64 E.got] 28)=W15 at *
     have HB0:=Lib.hid hb0
     have y0:=HY0.out _ hb0
     clear hb15 hba hb0
     go_wp2_with fail
     refine (HMT.out _ HB0.out).mono ?_
     rintro e w16 ⟨rfl,hb16⟩
     have HB16:=Lib.hid (below_then HBE.out.size HBE.out (below_then HB0.out.size HB0.out hb16))
     clear y0 hb16 HMT
     cases mu with
     | false =>
      go_wp2
      go_roundw
      case rel=>exact⟨m3+1,by omega,by go_num,HB16.out⟩
      case measure=>simp [intOf];omega
     | true =>
      have hok:=HMU.out rfl
      subst hok
      go_wp2
      go_roundw
      case rel=>exact⟨m3+1,by omega,by go_num,HB16.out⟩
      case measure=>simp [intOf];omega
   obtain⟨b,o,hA12,hbl,y0⟩:=HRI.out.str hlt rfl
   subst hA12
   have HY0:=Lib.hid (fun (u:World) (hu:Below wo.heap.size wo u)=>(hu.cell (p:=⟨b,o+m,none⟩) hbl).trans y0)
   have hmem:=List.getElem_mem hlt
   generalize I[m]'hlt=id at *
   have HG1:=Lib.hid (sget_any _ X3 s3 id _ wo HST.out HFI.out (by omega) HID4.out (by have:=HIDZ.out id hmem;omega) (HTA.out.below HBW.out))
   rw[HGT.out]at HG1
   have hsome:=HSO.out id hmem
   obtain⟨E,hE⟩:=Option.isSome_iff_exists.1 hsome
   have HCD:=Lib.hid (HTD.out.could id E hE)
   have hgs:=get_small ((HGT.out id).trans hE)
   have HSM1:=Lib.hid hgs.1
   have HSM2:=Lib.hid hgs.2
   unfold RetGet at HG1
   rw[hE]at HG1
   dsimp only[Option.getD_some,Option.isSome_some]at HG1
   clear hsome hE hgs hmem HST HRI
   go_wp2_with fail
   clear y0
   refine HG1.out.mono ?_
   rintro e w15 ⟨A7,c7,X7,d7,rfl,r1,r2,hb15⟩
   dsimp only[entV]at r1 r2 ⊢
   go_upto_region 34 with fail
   obtain⟨W15,hW15⟩:∃ W15,w15.alloc (.cells #[.string E.k,.string E.v,.int .i64 E.s,.string E.r,.int .i64 E.m,.slice A7 E.fs.length c7,.slice X7 E.body.length d7,.int .i64 E.asked,.int .i64 E.got] 28)=W15:=⟨_,rfl⟩
   have hk15:Blk W15 w15.heap.size #[.string E.k,.string E.v,.int .i64 E.s,.string E.r,.int .i64 E.m,.slice A7 E.fs.length c7,.slice X7 E.body.length d7,.int .i64 E.asked,.int .i64 E.got] 28:=by rw[← hW15];exact Blk.new w15 _ _
   have hba:Below w15.heap.size w15 W15:=by rw[← hW15];exact (Below.refl _ _).alloc (Nat.le_refl _) _
   rw[hW15]
   have hb0:=below_then hb15.size hb15 hba
   have HC1:=Lib.hid (fun (u:World) (hu:Below W15.heap.size W15 u)=>(hk15.below hu).cells9)
   have HR1:=Lib.hid (fun (u:World) (hu:Below W15.heap.size W15 u)=>ERd.below (ERd.below (⟨r1.rd,r2.rd⟩:ERd w15 ⟨E,A7,c7,X7,d7⟩) hba) hu)
   have HYB:=Lib.hid (fun (u:World) (hu:Below W15.heap.size W15 u)=>HY0.out u (below_then hb0.size hb0 hu))
   have HBX:=Lib.hid (below_then HBE.out.size HBE.out hb0)
   have HBY:=Lib.hid (below_then HBW.out.size HBW.out hb0)
   have HRX:=Lib.hid (HRW.out.below hb0)
   have HCO:=Lib.hid (fun (u:World) (hu:Below W15.heap.size W15 u)=>couldBe_any A6 L.length c6 L id ⟨E,A7,c7,X7,d7⟩ u rfl (by have:=HL60.out;omega) HSM1.out HSM2.out (HRX.out.below hu).rd (HR1.out u hu) (fun t ht=>⟨(HEN.out t ht).1.below (below_then HBY.out.size HBY.out hu),(HEN.out t ht).2.2⟩) HCD.out)
   unfold EP.v entV at HCO
   dsimp only at HCO
   generalize w15.heap.size=b17 at *
   clear r1 r2 hb15 hW15 hk15 hba hb0 HG1 HY0 HRW HBE HBW HCD HSM1 HSM2
   have hS0:Below W15.heap.size W15 W15.drew:=(Below.refl _ _).drew
   refine wp_region_noPanic ?_
   refine HT.begin (n:=10) (S:=(fun u=>Below W15.heap.size W15 u)) (by kernel_rfl) hS0 ?_
   generalize W15.drew=wd at *
   refine HT.take 0 (.bool true) rfl (by kernel_rfl) (fun _ _ _ h=>h) (Or.inl ⟨by rfl,?_⟩) (?_:HT _ _ _ _ _ _ _ ⟨#[_,_,_,_,_,_,_,_,_,_,_,_,_,_,_,_,_,_,_,_,_,_,_,_,_,_,_,_,_,_,_,_,_,_,_,_,_,_,_,_,_,_,_,_,_,_,_,_,_,_,_,_,_,_,_,_,_,_,_,_,_,_,_,_,_,_,_,_,_,_,_,_,_,_,_,_,_,_,_,_,_,_,_,_,_,_,_,_,_,_,_,_,_,_,_,_,_,_,_,_,_,_,_,_,_,_,_,_,_,_,_,_,_,_,_,_,_,_,_,_,_,_,_,_,_,_,_,_,_,_,_,_,_,_,_,_,_,_,_,_,_,_,_,_,_,_,_,_,_,_,_,_,_,_,_,_,_,_,_,_,_,_,_,_,_,_,_,_,_,_,_,_,_,_,_,_,_,.bool true,_,_,_,_,_,_,_,_,_,_,_,_,_,_,_,_,_,_,_,_,_,_,_,_,_,_,_,_,_,_,_,_,_,_,_,_,_,_],[]⟩ _)
   ·intro u hu
    go_simp
   refine HT.take 1 (.bool false) rfl (by kernel_rfl) (fun _ _ _ h=>h) (Or.inl ⟨by rfl,?_⟩) (?_:HT _ _ _ _ _ _ _ ⟨#[_,_,_,_,_,_,_,_,_,_,_,_,_,_,_,_,_,_,_,_,_,_,_,_,_,_,_,_,_,_,_,_,_,_,_,_,_,_,_,_,_,_,_,_,_,_,_,_,_,_,_,_,_,_,_,_,_,_,_,_,_,_,_,_,_,_,_,_,_,_,_,_,_,_,_,_,_,_,_,_,_,_,_,_,_,_,_,_,_,_,_,_,_,_,_,_,_,_,_,_,_,_,_,_,_,_,_,_,_,_,_,_,_,_,_,_,_,_,_,_,_,_,_,_,_,_,_,_,_,_,_,_,_,_,_,_,_,_,_,_,_,_,_,_,_,_,_,_,_,_,_,_,_,_,_,_,_,_,_,_,_,_,_,_,_,_,_,_,_,_,_,_,_,_,_,_,_,.bool true,.bool false,_,_,_,_,_,_,_,_,_,_,_,_,_,_,_,_,_,_,_,_,_,_,_,_,_,_,_,_,_,_,_,_,_,_,_,_,_],[]⟩ _)
   ·intro u hu
    go_simp
   refine HT.take 2 (.bool false) rfl (by kernel_rfl) (fun _ _ _ h=>h) (Or.inl ⟨by rfl,?_⟩) (?_:HT _ _ _ _ _ _ _ ⟨#[_,_,_,_,_,_,_,_,_,_,_,_,_,_,_,_,_,_,_,_,_,_,_,_,_,_,_,_,_,_,_,_,_,_,_,_,_,_,_,_,_,_,_,_,_,_,_,_,_,_,_,_,_,_,_,_,_,_,_,_,_,_,_,_,_,_,_,_,_,_,_,_,_,_,_,_,_,_,_,_,_,_,_,_,_,_,_,_,_,_,_,_,_,_,_,_,_,_,_,_,_,_,_,_,_,_,_,_,_,_,_,_,_,_,_,_,_,_,_,_,_,_,_,_,_,_,_,_,_,_,_,_,_,_,_,_,_,_,_,_,_,_,_,_,_,_,_,_,_,_,_,_,_,_,_,_,_,_,_,_,_,_,_,_,_,_,_,_,_,_,_,_,_,_,_,_,_,.bool true,.bool false,.bool false,_,_,_,_,_,_,_,_,_,_,_,_,_,_,_,_,_,_,_,_,_,_,_,_,_,_,_,_,_,_,_,_,_,_,_,_],[]⟩ _)
   ·intro u hu
    go_simp
   refine HT.take 3 (.slice A6 L.length c6) rfl (by kernel_rfl) (fun _ _ _ h=>h) (Or.inl ⟨by rfl,?_⟩) (?_:HT _ _ _ _ _ _ _ ⟨#[_,_,_,_,_,_,_,_,_,_,_,_,_,_,_,_,_,_,_,_,_,_,_,_,_,_,_,_,_,_,_,_,_,_,_,_,_,_,_,_,_,_,_,_,_,_,_,_,_,_,_,_,_,_,_,_,_,_,_,_,_,_,_,_,_,_,_,_,_,_,_,_,_,_,_,_,_,_,_,_,_,_,_,_,_,_,_,_,_,_,_,_,_,_,_,_,_,_,_,_,_,_,_,_,_,_,_,_,_,_,_,_,_,_,_,_,_,_,_,_,_,_,_,_,_,_,_,_,_,_,_,_,_,_,_,_,_,_,_,_,_,_,_,_,_,_,_,_,_,_,_,_,_,_,_,_,_,_,_,_,_,_,_,_,_,_,_,_,_,_,_,_,_,_,_,_,_,.bool true,.bool false,.bool false,.slice A6 L.length c6,_,_,_,_,_,_,_,_,_,_,_,_,_,_,_,_,_,_,_,_,_,_,_,_,_,_,_,_,_,_,_,_,_,_,_],[]⟩ _)
   ·intro u hu
    go_simp
   refine HT.take 4 (.slice (some ⟨b,o,none⟩) I.length c12) rfl (by kernel_rfl) (fun _ _ _ h=>h) (Or.inl ⟨by rfl,?_⟩) (?_:HT _ _ _ _ _ _ _ ⟨#[_,_,_,_,_,_,_,_,_,_,_,_,_,_,_,_,_,_,_,_,_,_,_,_,_,_,_,_,_,_,_,_,_,_,_,_,_,_,_,_,_,_,_,_,_,_,_,_,_,_,_,_,_,_,_,_,_,_,_,_,_,_,_,_,_,_,_,_,_,_,_,_,_,_,_,_,_,_,_,_,_,_,_,_,_,_,_,_,_,_,_,_,_,_,_,_,_,_,_,_,_,_,_,_,_,_,_,_,_,_,_,_,_,_,_,_,_,_,_,_,_,_,_,_,_,_,_,_,_,_,_,_,_,_,_,_,_,_,_,_,_,_,_,_,_,_,_,_,_,_,_,_,_,_,_,_,_,_,_,_,_,_,_,_,_,_,_,_,_,_,_,_,_,_,_,_,_,.bool true,.bool false,.bool false,.slice A6 L.length c6,.slice (some ⟨b,o,none⟩) I.length c12,_,_,_,_,_,_,_,_,_,_,_,_,_,_,_,_,_,_,_,_,_,_,_,_,_,_,_,_,_,_,_,_,_,_],[]⟩ _)
   ·intro u hu
    go_simp
   refine HT.take 5 (.int .i64 m) rfl (by kernel_rfl) (fun _ _ _ h=>h) (Or.inl ⟨by rfl,?_⟩) (?_:HT _ _ _ _ _ _ _ ⟨#[_,_,_,_,_,_,_,_,_,_,_,_,_,_,_,_,_,_,_,_,_,_,_,_,_,_,_,_,_,_,_,_,_,_,_,_,_,_,_,_,_,_,_,_,_,_,_,_,_,_,_,_,_,_,_,_,_,_,_,_,_,_,_,_,_,_,_,_,_,_,_,_,_,_,_,_,_,_,_,_,_,_,_,_,_,_,_,_,_,_,_,_,_,_,_,_,_,_,_,_,_,_,_,_,_,_,_,_,_,_,_,_,_,_,_,_,_,_,_,_,_,_,_,_,_,_,_,_,_,_,_,_,_,_,_,_,_,_,_,_,_,_,_,_,_,_,_,_,_,_,_,_,_,_,_,_,_,_,_,_,_,_,_,_,_,_,_,_,_,_,_,_,_,_,_,_,_,.bool true,.bool false,.bool false,.slice A6 L.length c6,.slice (some ⟨b,o,none⟩) I.length c12,.int .i64 m,_,_,_,_,_,_,_,_,_,_,_,_,_,_,_,_,_,_,_,_,_,_,_,_,_,_,_,_,_,_,_,_,_],[]⟩ _)
   ·intro u hu
    go_simp
   refine HT.take 6 (.pointer (some ⟨b,o+m,none⟩)) rfl (by kernel_rfl) (fun _ _ _ h=>h) (Or.inl ⟨by rfl,?_⟩) (?_:HT _ _ _ _ _ _ _ ⟨#[_,_,_,_,_,_,_,_,_,_,_,_,_,_,_,_,_,_,_,_,_,_,_,_,_,_,_,_,_,_,_,_,_,_,_,_,_,_,_,_,_,_,_,_,_,_,_,_,_,_,_,_,_,_,_,_,_,_,_,_,_,_,_,_,_,_,_,_,_,_,_,_,_,_,_,_,_,_,_,_,_,_,_,_,_,_,_,_,_,_,_,_,_,_,_,_,_,_,_,_,_,_,_,_,_,_,_,_,_,_,_,_,_,_,_,_,_,_,_,_,_,_,_,_,_,_,_,_,_,_,_,_,_,_,_,_,_,_,_,_,_,_,_,_,_,_,_,_,_,_,_,_,_,_,_,_,_,_,_,_,_,_,_,_,_,_,_,_,_,_,_,_,_,_,_,_,_,.bool true,.bool false,.bool false,.slice A6 L.length c6,.slice (some ⟨b,o,none⟩) I.length c12,.int .i64 m,.pointer (some ⟨b,o+m,none⟩),_,_,_,_,_,_,_,_,_,_,_,_,_,_,_,_,_,_,_,_,_,_,_,_,_,_,_,_,_,_,_,_],[]⟩ _)
   ·intro u hu
    go_simp
   refine HT.take 7 (.string id) rfl (by kernel_rfl) (fun _ _ _ h=>h) (Or.inl ⟨by rfl,?_⟩) (?_:HT _ _ _ _ _ _ _ ⟨#[_,_,_,_,_,_,_,_,_,_,_,_,_,_,_,_,_,_,_,_,_,_,_,_,_,_,_,_,_,_,_,_,_,_,_,_,_,_,_,_,_,_,_,_,_,_,_,_,_,_,_,_,_,_,_,_,_,_,_,_,_,_,_,_,_,_,_,_,_,_,_,_,_,_,_,_,_,_,_,_,_,_,_,_,_,_,_,_,_,_,_,_,_,_,_,_,_,_,_,_,_,_,_,_,_,_,_,_,_,_,_,_,_,_,_,_,_,_,_,_,_,_,_,_,_,_,_,_,_,_,_,_,_,_,_,_,_,_,_,_,_,_,_,_,_,_,_,_,_,_,_,_,_,_,_,_,_,_,_,_,_,_,_,_,_,_,_,_,_,_,_,_,_,_,_,_,_,.bool true,.bool false,.bool false,.slice A6 L.length c6,.slice (some ⟨b,o,none⟩) I.length c12,.int .i64 m,.pointer (some ⟨b,o+m,none⟩),.string id,_,_,_,_,_,_,_,_,_,_,_,_,_,_,_,_,_,_,_,_,_,_,_,_,_,_,_,_,_,_,_],[]⟩ _)
   ·intro u hu
    have y0:=HYB.out u hu
    go_simp
   refine HT.take 8 (.agg #[.string E.k,.string E.v,.int .i64 E.s,.string E.r,.int .i64 E.m,.slice A7 E.fs.length c7,.slice X7 E.body.length d7,.int .i64 E.asked,.int .i64 E.got]) rfl (by kernel_rfl) (fun _ _ _ h=>h) (Or.inl ⟨by rfl,?_⟩) (?_:HT _ _ _ _ _ _ _ ⟨#[_,_,_,_,_,_,_,_,_,_,_,_,_,_,_,_,_,_,_,_,_,_,_,_,_,_,_,_,_,_,_,_,_,_,_,_,_,_,_,_,_,_,_,_,_,_,_,_,_,_,_,_,_,_,_,_,_,_,_,_,_,_,_,_,_,_,_,_,_,_,_,_,_,_,_,_,_,_,_,_,_,_,_,_,_,_,_,_,_,_,_,_,_,_,_,_,_,_,_,_,_,_,_,_,_,_,_,_,_,_,_,_,_,_,_,_,_,_,_,_,_,_,_,_,_,_,_,_,_,_,_,_,_,_,_,_,_,_,_,_,_,_,_,_,_,_,_,_,_,_,_,_,_,_,_,_,_,_,_,_,_,_,_,_,_,_,_,_,_,_,_,_,_,_,_,_,_,.bool true,.bool false,.bool false,.slice A6 L.length c6,.slice (some ⟨b,o,none⟩) I.length c12,.int .i64 m,.pointer (some ⟨b,o+m,none⟩),.string id,.agg #[.string E.k,.string E.v,.int .i64 E.s,.string E.r,.int .i64 E.m,.slice A7 E.fs.length c7,.slice X7 E.body.length d7,.int .i64 E.asked,.int .i64 E.got],_,_,_,_,_,_,_,_,_,_,_,_,_,_,_,_,_,_,_,_,_,_,_,_,_,_,_,_,_,_],[]⟩ _)
   ·intro u hu
    obtain⟨z0,z1,z2,z3,z4,z5,z6,z7,z8⟩:=HC1.out u hu
    go_simp
   refine HT.step 9 rfl (by kernel_rfl) (fun hS K hK=>?_)
   go_simp
   refine (HCO.out _ hS).mono ?_
   rintro e w16 ⟨rfl,hb16⟩
   refine hK.out _ _ (below_then hS.size hS hb16) ?_
   clear hK hb16 hS
   refine HT.tail _ rfl rfl (by kernel_rfl) (fun hS=>?_)
   have HB18:=Lib.hid hS
   clear hS hS0
   go_wp2_with fail
   refine NoPanic.normal ?_
   go_wp2
   go_roundw
   case rel=>exact⟨m+1,by omega,by go_num,below_then HBX.out.size HBX.out HB18.out⟩
   case measure=>simp [intOf];omega
end Go.Proofs.YtkempjcphpnocaaGreatDoor
