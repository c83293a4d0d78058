/- The walk of object.Encode. Conditions: texts of at most 2^30 bytes, a list of fields of bulk at most 2^30, the library's table of powers of ten. -/
import Derived.Test.YthjeglnkgdpijaaGreatDoorZ16
set_option maxHeartbeats 4000000
set_option maxRecDepth 100000
namespace Go.Proofs.YthjeglnkgdpijaaGreatDoor
open Go.RowKit
def aKI (k v:ByteArray) (h body:List UInt8) (asked got:Int):Nat→List UInt8
 | 0=>L k
 | 1=>L v
 | 2=>h
 | 3=>body
 | 4=>beN asked.toNat 8++beN got.toNat 8
 | _=>[]
def preO (dat:Nat→List UInt8):Nat→List UInt8
 | 0=>[67,79,49]
 | i+1=>preO dat i++rV (i+1) (dat i)
theorem yJ (dat:Nat→List UInt8) (h:∀ i,(dat i).length≤65536):∀ i,(preO dat i).length≤3+i * 65541
 | 0=>zA 3
 | i+1=>by
  have h1:=yJ dat h i
  have h2:=h i
  rw[preO,bC,qL]
  omega
def aM9 (dat:Nat→List UInt8):List UInt8:=preO dat 5++beN (iL (preO dat 5)) 4
def sV (k v:ByteArray) (s:Int) (r:ByteArray) (m:Int) (fs:List FD) (nb:Nat) (asked got:Int):Bool:=decide (F.fK s r m fs=0∧okE k v nb asked got=true)
def sW (k v:ByteArray) (s:Int) (r:ByteArray) (m:Int) (fs:List FD) (body:List UInt8) (asked got:Int):List UInt8 :=
 if sV k v s r m fs body.length asked got then aM9 (aKI k v (F.dS s r m fs) body asked got) else []
def yO (k v:ByteArray) (s:Int) (r:ByteArray) (m:Int) (fs:List FD) (nb:Nat) (asked got:Int):Int:=if sV k v s r m fs nb asked got then 0 else 120
theorem aOL {k v:ByteArray} {s:Int} {r:ByteArray} {m:Int} {fs:List FD} {body:List UInt8} {asked got:Int} (h:¬ (F.fK s r m fs=0∧okE k v body.length asked got=true)):sW k v s r m fs body asked got=[]∧yO k v s r m fs body.length asked got=120:=by
 have h1:sV k v s r m fs body.length asked got=false:=decide_eq_false h
 unfold sW yO
 rw[h1]
 exact⟨rfl,rfl⟩
theorem aLE {k v:ByteArray} {s:Int} {r:ByteArray} {m:Int} {fs:List FD} {body:List UInt8} {asked got:Int} (h1:F.fK s r m fs=0) (h2:okE k v body.length asked got=true):sW k v s r m fs body asked got=aM9 (aKI k v (F.dS s r m fs) body asked got)∧yO k v s r m fs body.length asked got=0:=by
 have h3:sV k v s r m fs body.length asked got=true:=decide_eq_true ⟨h1,h2⟩
 unfold sW yO
 rw[h3]
 exact⟨rfl,rfl⟩
theorem fU {k v:ByteArray} {nb:Nat} {asked got:Int} (h:okE k v nb asked got=true):k.size≤4096∧v.size≤4096∧nb≤65536∧0≤asked∧asked≤253402300799∧0≤got∧got≤253402300799:=by
 obtain⟨_,h1,h2,h3,h4,h5⟩:=of_decide_eq_true h
 have h4:=of_decide_eq_true h4
 have h5:=of_decide_eq_true h5
 exact⟨h1,h2,h3,h4.1,h4.2,h5.1,h5.2⟩
theorem bQ.newM (w:World) (cs:Array Value) (bs:List UInt8) (h:cs.toList=aB bs):bQ (w.alloc (.cells cs 5 (bs.length,bs.length+1))) w.heap.size (some ⟨w.heap.size,0,none⟩) bs.length bs.length bs:=by
 have hrow:(w.alloc (.cells cs 5 (bs.length,bs.length+1))).heap[w.heap.size]?=some (.cells cs 5 (bs.length,bs.length+1)):=heap_alloc_new w _
 have hsz:cs.size=bs.length:=by
  have:=congrArg List.length h
  simpa [aB] using this
 refine⟨rfl,zA _,.inr ⟨w.heap.size,rfl,zA _,by simp,fun j hj=>⟨?_,?_⟩,fun j u hu=>?_⟩⟩
 ·rw[cell_of_row _ w.heap.size j _ _ _ hrow]
  have:j < cs.size:=by omega
  simp [this]
 ·simp only[World.frozen?,hrow]
  simp
  omega
 ·rw[cell_of_row _ w.heap.size j _ _ _ hrow,← hu,← h]
  simp
theorem iZ (k v:ByteArray) (s:Int) (r:ByteArray) (m:Int) (A:Option Addr) (cf:Nat) (fs:List FD) (X:Option Addr) (cb:Nat) (body:List UInt8) (asked got:Int) (w:World) (hr:r.size≤1073741824) (hf:F.bulk fs≤1073741824) (hx:Rd w A fs.length 2 (aI fs)) (hX:Rd w X body.length 1 (aB body)) (ht:iJ w) :
  Calls Tryz.prog 71 #[.agg #[.string k,.string v,.int .i64 s,.string r,.int .i64 m,.slice A fs.length cf,.slice X body.length cb,.int .i64 asked,.int .i64 got]] w (fA w (sW k v s r m fs body asked got) (yO k v s r m fs body.length asked got)):=by
 have HK:=aH (Blk.new w #[.string k,.string v,.int .i64 s,.string r,.int .i64 m,.slice A fs.length cf,.slice X body.length cb,.int .i64 asked,.int .i64 got] 41)
 have HB:=aH ((zB w.heap.size w).alloc (zA _) (.cells #[.string k,.string v,.int .i64 s,.string r,.int .i64 m,.slice A fs.length cf,.slice X body.length cb,.int .i64 asked,.int .i64 got] 41))
 have HPR:=aH (fun (u:World) (hu:Below w.heap.size w u)=>nO s r m A cf fs u hr hf (hx.below hu) (ht.below hu))
 have HX:=aH (fun (u:World) (hu:Below w.heap.size w u)=>hX.below hu)
 have HRT:=aH (fun (u:World)=>aH1 k v s r m A fs.length cf X body.length cb asked got u)
 have HBAD:=aH (aOL (k:=k) (v:=v) (s:=s) (r:=r) (m:=m) (fs:=fs) (body:=body) (asked:=asked) (got:=got))
 have HGOOD:=aH (aLE (k:=k) (v:=v) (s:=s) (r:=r) (m:=m) (fs:=fs) (body:=body) (asked:=asked) (got:=got))
 have hE:=aAV s r m fs
 generalize sW k v s r m fs body asked got=OB at *
 generalize yO k v s r m fs body.length asked got=OE at *
 generalize F.fK s r m fs=E at *
 generalize F.dS s r m fs=H at *
 have HOKF:Hid (okE k v body.length asked got=true→k.size≤4096∧v.size≤4096∧body.length≤65536∧0≤asked∧asked≤253402300799∧0≤got∧got≤253402300799):=aH fU
 generalize okE k v body.length asked got=ok at *
 clear hx hX ht
 go_enter Tryz.func71,Tryz.ntmps71
 obtain⟨x0,x1,x2,x3,x4,x5,x6,x7,x8⟩:=HK.out.cells9
 go_wp2_with fail
 clear x0 x1 x2 x3 x4 x5 x6 x7 x8
 refine (HPR.out _ HB.out).mono ?_
 rintro e w1 ⟨A1,c1,rfl,hr1,hb1⟩
 have HB1:=aH (aA HB.out.size HB.out hb1)
 have HK1:=aH (HK.out.below hb1)
 have HR1:=aH (hr1.mono HB.out.size)
 clear hb1 hr1 HB HK HPR
 obtain⟨x0,x1,x2,x3,x4,x5,x6,x7,x8⟩:=HK1.out.cells9
 by_cases hE0:E=0
 rotate_left
 ·have hEb:(E != 0)=true:=by simpa using hE0
  obtain⟨ha,hb⟩:=HBAD.out (fun h=>hE0 h.1)
  clear HBAD HGOOD HOKF HRT HX
  go_wp2
  refine bK (v:=.tuple #[.slice none 0 0,.int .i64 120]) (by simp [results,Tryz.results71,go_sem]) rfl ?_
  exact fA.none_ HB1.out ha hb
 subst hE0
 go_wp2_with fail
 clear x0 x1 x2 x3 x4 x5 x6 x7 x8
 refine (HRT.out _).mono ?_
 rintro e w2 ⟨rfl,hb2⟩
 have HB2:=aH (aA HB1.out.size HB1.out hb2)
 have HK2:=aH (HK1.out.below hb2)
 have HR2:=aH (HR1.out.below hb2)
 clear hb2 HB1 HK1 HR1 HRT
 obtain⟨x0,x1,x2,x3,x4,x5,x6,x7,x8⟩:=HK2.out.cells9
 cases ok with
 | false =>
  obtain⟨ha,hb⟩:=HBAD.out (fun h=>by cases h.2)
  clear HBAD HGOOD HOKF HX
  go_wp2
  refine bK (v:=.tuple #[.slice none 0 0,.int .i64 120]) (by simp [results,Tryz.results71,go_sem]) rfl ?_
  exact fA.none_ HB2.out ha hb
 | true =>
  obtain⟨hk,hv,hbd,ha0,ha1,hg0,hg1⟩:=HOKF.out rfl
  obtain⟨rfl,rfl⟩:=HGOOD.out trivial rfl
  clear HBAD HGOOD HOKF
  obtain⟨a,rfl⟩:∃ a:Nat,asked=a:=⟨asked.toNat,by omega⟩
  obtain⟨g,rfl⟩:∃ g:Nat,got=g:=⟨got.toNat,by omega⟩
  have HP1:=aH (fun (u:World)=>aAZ w2.heap.size none 0 a 8 [] u (zF _) (zA _) (by omega) (bQ.none_ _ _))
  have HP2:=aH (fun (u:World) (A3:Option Addr) (c3:Nat) (hr:bQ u w2.heap.size A3 8 c3 (beN a 8)) (hz:w2.heap.size≤u.heap.size)=>by
   have:=aAZ w2.heap.size A3 c3 g 8 (beN a 8) u (by rw[aS];decide) (zA _) (by omega) (by rw[aS];exact hr) hz
   rw[aS]at this
   exact this)
  go_wp2_with fail
  clear x0 x1 x2 x3 x4 x5 x6 x7 x8
  refine (HP1.out _ (zA _)).mono ?_
  rintro e w3 ⟨A3,c3,rfl,hr3,ha3⟩
  have hb3:Below w2.heap.size w2 w3:=ha3.belowC (bQ.none_ w2 w2.heap.size) (zA _)
  have HB3:=aH hb3
  have HK3:=aH (HK2.out.below hb3)
  have HR3:Hid (bQ w3 w2.heap.size A3 8 c3 (beN a 8)):=aH hr3
  have hz3:=hb3.size
  clear hr3 ha3 hb3 HP1
  obtain⟨x0,x1,x2,x3,x4,x5,x6,x7,x8⟩:=HK3.out.cells9
  go_wp2_with fail
  clear x0 x1 x2 x3 x4 x5 x6 x7 x8
  refine (HP2.out _ A3 c3 HR3.out hz3).mono ?_
  rintro e w4 ⟨A4,c4,rfl,hr4,ha4⟩
  have hb4:Below w2.heap.size w2 w4:=HB3.out.trans (ha4.belowC HR3.out hz3)
  have HB4:=aH (aA HB2.out.size HB2.out hb4)
  have HK4:=aH (HK2.out.below hb4)
  have HR4:=aH (HR2.out.below hb4)
  have HT4:Hid (Rd w4 A4 16 1 (aB (beN a 8++beN g 8))):=aH hr4.rd
  clear hr4 ha4 hb4 HP2 HB3 HK3 HR3 hz3 HB2 HK2 HR2
  have hcc:=Lib.run_convert_bytes_const (P:=Tryz.prog) w4 39 5 #[.int .u8 67,.int .u8 79,.int .u8 49] 3 3 Tryz.underlying39 Tryz.underlying5
  have hb5:Below w4.heap.size w4 (w4.alloc (.cells #[.int .u8 67,.int .u8 79,.int .u8 49] 5 (3,4))):=(zB _ _).alloc (zA _) _
  have HR5:Hid (bQ (w4.alloc (.cells #[.int .u8 67,.int .u8 79,.int .u8 49] 5 (3,4))) w4.heap.size (some ⟨w4.heap.size,0,none⟩) 3 3 [67,79,49]):=aH (bQ.newM w4 #[.int .u8 67,.int .u8 79,.int .u8 49] [67,79,49] rfl)
  obtain⟨ck,W1,hrun1,hrow1,hbW1⟩:=zO (w4.alloc (.cells #[.int .u8 67,.int .u8 79,.int .u8 49] 5 (3,4))) k
  obtain⟨cv,W2,hrun2,hrow2,hbW2⟩:=zO W1 v
  have HK5:=aH (HK4.out.below hb5)
  have HK6:=aH (HK5.out.below hbW1)
  have HK7:=aH (HK6.out.below hbW2)
  obtain⟨x0,x1,x2,x3,x4,x5,x6,x7,x8⟩:=HK5.out.cells9
  obtain⟨y0,y1,y2,y3,y4,y5,y6,y7,y8⟩:=HK6.out.cells9
  obtain⟨z0,z1,z2,z3,z4,z5,z6,z7,z8⟩:=HK7.out.cells9
  go_wp2_with fail
  clear x0 x1 x2 x3 x4 x5 x6 x7 x8 y0 y1 y2 y3 y4 y5 y6 y7 y8 z0 z1 z2 z3 z4 z5 z6 z7 z8 hcc hrun1 hrun2 HK5 HK6 HK7 HK4
  have hs5:((w4.alloc (.cells #[.int .u8 67,.int .u8 79,.int .u8 49] 5 (3,4)))).heap.size=w4.heap.size+1:=bJ _ _
  have hc1:Below w4.heap.size w4 W1:=aA hb5.size hb5 hbW1
  have hc2:Below w4.heap.size w4 W2:=aA hc1.size hc1 hbW2
  have hc6:Below w4.heap.size w4 (W2.alloc (.cells #[Value.slice (some ⟨w4.heap.size+1,0,none⟩) k.size ck,Value.slice (some ⟨W1.heap.size,0,none⟩) v.size cv,Value.slice A1 H.length c1,Value.slice X body.length cb,Value.slice A4 16 c4] 39)):=hc2.alloc hc2.size _
  have hr0:bQ (W2.alloc (.cells #[Value.slice (some ⟨w4.heap.size+1,0,none⟩) k.size ck,Value.slice (some ⟨W1.heap.size,0,none⟩) v.size cv,Value.slice A1 H.length c1,Value.slice X body.length cb,Value.slice A4 16 c4] 39)) w4.heap.size (some ⟨w4.heap.size,0,none⟩) 3 3 [67,79,49]:=((HR5.out.below hbW1).below hbW2).alloc _
  rw[hs5]at hrow1 hbW1
  have hk6:bQ (W2.alloc (.cells #[Value.slice (some ⟨w4.heap.size+1,0,none⟩) k.size ck,Value.slice (some ⟨W1.heap.size,0,none⟩) v.size cv,Value.slice A1 H.length c1,Value.slice X body.length cb,Value.slice A4 16 c4] 39)) (w4.heap.size+1) (some ⟨w4.heap.size+1,0,none⟩) k.size ck (L k):=(hrow1.below hbW2).alloc _
  have hv6:bQ (W2.alloc (.cells #[Value.slice (some ⟨w4.heap.size+1,0,none⟩) k.size ck,Value.slice (some ⟨W1.heap.size,0,none⟩) v.size cv,Value.slice A1 H.length c1,Value.slice X body.length cb,Value.slice A4 16 c4] 39)) W1.heap.size (some ⟨W1.heap.size,0,none⟩) v.size cv (L v):=hrow2.alloc _
  have hBk:Blk (W2.alloc (.cells #[Value.slice (some ⟨w4.heap.size+1,0,none⟩) k.size ck,Value.slice (some ⟨W1.heap.size,0,none⟩) v.size cv,Value.slice A1 H.length c1,Value.slice X body.length cb,Value.slice A4 16 c4] 39)) W2.heap.size #[Value.slice (some ⟨w4.heap.size+1,0,none⟩) k.size ck,Value.slice (some ⟨W1.heap.size,0,none⟩) v.size cv,Value.slice A1 H.length c1,Value.slice X body.length cb,Value.slice A4 16 c4] 39:=Blk.new _ _ _
  have hsW1:w4.heap.size+1≤W1.heap.size:=by have:=hbW1.size;rw[hs5]at this;exact this
  have hsW2:W1.heap.size≤W2.heap.size:=hbW2.size
  obtain⟨dat,hdat⟩:∃ dat,dat=aKI k v H body a g:=⟨_,rfl⟩
  have HDAT:Hid (aM9 (aKI k v H body a g)=aM9 dat):=aH (by rw[hdat])
  have hX4:=HX.out w4 HB4.out
  have HB6:=aH (aA HB4.out.size HB4.out hc6)
  have HPT:Hid (∀ i,i < 5→∃ S m d,(#[Value.slice (some ⟨w4.heap.size+1,0,none⟩) k.size ck,Value.slice (some ⟨W1.heap.size,0,none⟩) v.size cv,Value.slice A1 H.length c1,Value.slice X body.length cb,Value.slice A4 16 c4])[i]?=some (.slice S m d)∧(dat i).length=m∧Rd (W2.alloc (.cells #[Value.slice (some ⟨w4.heap.size+1,0,none⟩) k.size ck,Value.slice (some ⟨W1.heap.size,0,none⟩) v.size cv,Value.slice A1 H.length c1,Value.slice X body.length cb,Value.slice A4 16 c4] 39)) S m 1 (aB (dat i))∧Sep (some ⟨w4.heap.size,0,none⟩) 3 S m):=by
   refine aH fun i hi=>?_
   subst hdat
   have hsep:∀ (E:Option Addr) (q:Nat) (xs:List Value),Rd w4 E q 1 xs→Sep (some ⟨w4.heap.size,0,none⟩) 3 E q:=fun E q xs h hq kk e hk1 he=>by
    obtain⟨b',o',e',hlt⟩:=h.lt hq
    rw[he]at e'
    cases e'
    simp [ownB]at hk1
    show kk≠b'
    omega
   have hown:∀ (q bb:Nat),bb≠w4.heap.size→Sep (some ⟨w4.heap.size,0,none⟩) 3 (some ⟨bb,0,none⟩) q:=fun q bb hne _ kk e hk1 he=>by
    cases he
    simp [ownB]at hk1
    show kk≠bb
    omega
   rcases (by omega:i=0∨i=1∨i=2∨i=3∨i=4) with rfl | rfl | rfl | rfl | rfl
   ·exact⟨_,_,_,rfl,hk6.1,hk6.rd,hown _ _ (by omega)⟩
   ·exact⟨_,_,_,rfl,hv6.1,hv6.rd,hown _ _ (by omega)⟩
   ·exact⟨_,_,_,rfl,rfl,HR4.out.rd.below hc6,hsep _ _ _ HR4.out.rd⟩
   ·exact⟨_,_,_,rfl,rfl,hX4.below hc6,hsep _ _ _ hX4⟩
   ·refine⟨_,_,_,rfl,?_,HT4.out.below hc6,hsep _ _ _ HT4.out⟩
    show (beN (a:Int).toNat 8++beN (g:Int).toNat 8).length=16
    rw[bC,aS,aS]
  have hdl:∀ i,(dat i).length≤65536:=by
   intro i
   subst hdat
   match i with
   | 0=>show (L k).length≤_;rw[← aQ];omega
   | 1=>show (L v).length≤_;rw[← aQ];omega
   | 2=>show H.length≤_;omega
   | 3=>show body.length≤_;omega
   | 4=>show (beN (a:Int).toNat 8++beN (g:Int).toNat 8).length≤_;rw[bC,aS,aS];decide
   | n+5=>exact zF _
  have HPL:Hid (∀ j,j≤5→(preO dat j).length≤400000):=aH (fun j hj=>by have:=yJ dat hdl j;omega)
  have HDL:=aH hdl
  have HR0:=aH hr0
  have HBK:=aH hBk
  obtain⟨b6,hb6⟩:∃ b6,b6=W2.heap.size:=⟨_,rfl⟩
  have hne6:b6≠w4.heap.size:=by omega
  have hz6:w4.heap.size≤((W2.alloc (.cells #[Value.slice (some ⟨w4.heap.size+1,0,none⟩) k.size ck,Value.slice (some ⟨W1.heap.size,0,none⟩) v.size cv,Value.slice A1 H.length c1,Value.slice X body.length cb,Value.slice A4 16 c4] 39))).heap.size:=hc6.size
  rw[← hb6]at HBK ⊢
  generalize hcsl:#[Value.slice (some ⟨w4.heap.size+1,0,none⟩) k.size ck,Value.slice (some ⟨W1.heap.size,0,none⟩) v.size cv,Value.slice A1 H.length c1,Value.slice X body.length cb,Value.slice A4 16 c4]=CSL at *
  generalize W2.alloc (.cells CSL 39)=w6 at *
  have hbz:=HB4.out.size
  generalize w4.heap.size=base at *
  clear hk6 hv6 hBk hsW1 hsW2 hr0 hdl hdat hX4 HR4 HT4 HX hb6 hc6 hc1 hc2 hs5 hrow1 hbW1 hrow2 hbW2 hb5 HB4 HR5 hcsl
  go_loopw [7,45] (fun o i wr=>∃ (j:Nat) (Ao:Option Addr) (co:Nat),j≤5∧i=.int .i64 j∧o=.slice Ao (preO dat j).length co∧bQ wr base Ao (preO dat j).length co (preO dat j)∧App w6 wr (some ⟨base,0,none⟩) 3 Ao co) (fun _ i _=>5 - (intOf i).toNat)
  case atStart=>exact⟨0,_,_,zF _,rfl,rfl,HR0.out,App.start _ _ _⟩
  case round =>
   obtain⟨j,Ao,co,hj,rfl,rfl,hro,hao⟩:=hrel
   have hpl:=HPL.out j hj
   have hzr:base≤wr.heap.size:=bD hz6 hao.grown.size
   by_cases hlt:j < 5
   ·obtain⟨S,q,d,hcell,hdq,hrd,hsep⟩:=HPT.out j hlt
    have hdb:=HDL.out j
    have hwz:base≤w6.heap.size:=hz6
    have HNXT:Hid (preO dat (j+1)=preO dat j++rV (j+1) (dat j)):=aH rfl
    have HBKr:=aH (HBK.out.app hao (fun kk hk1=>by simp [ownB]at hk1;omega))
    have hce:=HBKr.out.cell j hcell
    have hrdr:=hao.rd hrd hsep
    have hsepr:=hao.sep hrd hsep
    have HRDR:=aH hrdr
    have HSEPR:=aH hsepr
    have HRO:=aH hro
    have HAO:=aH hao
    rw[hdq]at hdb
    generalize hD:dat j=D at *
    generalize hP:preO dat j=P at *
    clear hrd hsep hrdr hsepr hro hao hcell
    obtain⟨p,hp⟩:∃ p,p=P.length:=⟨_,rfl⟩
    rw[← hp]at hpl HRO ⊢
    have HP:=aH hp
    have HDQ:=aH hdq
    clear hp hdq hP hD
    have hj5:(j:Int) < 5:=by omega
    have hmod:(1+(j:Int)) % 256=1+(j:Int):=by omega
    have hnew:=fun u:World=>newB u (UInt8.ofNat (j+1))
    have hnn:((UInt8.ofNat (j+1)).toNat:Int)=1+(j:Int):=by
     have:(UInt8.ofNat (j+1)).toNat=j+1:=by rw[UInt8.toNat_ofNat'];omega
     rw[this];omega
    rw[hnn]at hnew
    have HNEW:=aH hnew
    clear hnn hnew
    have HPUT:=aH (fun (u:World) (A7:Option Addr) (c7:Nat) (hr:bQ u base A7 (p+1) c7 (P++[UInt8.ofNat (j+1)])) (hz:base≤u.heap.size)=>by
     have h1:=aAZ base A7 c7 q 4 (P++[UInt8.ofNat (j+1)]) u (by rw[bC,← HP.out,List.length_singleton];omega) (by decide) (by omega) (by rw[bC,← HP.out,List.length_singleton];exact hr) hz
     rw[bC,← HP.out,List.length_singleton]at h1
     exact h1)
    go_wp2_with (at_builtin;refine appC _ rfl (.tmp 50) (.tmp 54) rfl base Ao p co P rfl (HRO.out.alloc _) _ 1 1 [UInt8.ofNat (j+1)] rfl (HNEW.out _) (by omega) (by rw[bJ];omega) ?_;intro A7 c7 w7 hr7 ha7;have HR7:=aH hr7;have HA7:=aH (App.pre ((zB _ _).alloc (zA _) _) ha7);clear hr7 ha7)
    have hz7:base≤w7.heap.size:=bD hzr HA7.out.grown.size
    refine (HPUT.out _ A7 c7 HR7.out hz7).mono ?_
    rintro e w8 ⟨A8,c8,rfl,hr8,ha8⟩
    have HR8:=aH hr8
    have HA8:=aH (HA7.out.next ha8)
    have hz8:base≤w8.heap.size:=bD hz7 ha8.grown.size
    have HD8:=aH (HA8.out.rd HRDR.out HSEPR.out)
    clear hr8 ha8 HR7 HA7 HPUT HRO HNEW hce
    go_wp2_with (at_builtin;refine appC _ rfl (.tmp 60) (.tmp 61) rfl base A8 (p+1+4) c8 (P++[UInt8.ofNat (j+1)]++beN q 4) rfl HR8.out S q d D rfl HD8.out (by omega) hz8 ?_;intro A9 c9 w9 hr9 ha9;have HR9:=aH hr9;have HA9:=aH (HAO.out.next (HA8.out.next ha9));clear hr9 ha9)
    have hlen:(preO dat (j+1)).length=p+1+4+q:=by
     rw[HNXT.out,bC,qL,HDQ.out,← HP.out]
     omega
    refine⟨⟨j+1,A9,c9,by omega,by go_num,?_,?_,HA9.out⟩,by simp [intOf];omega⟩
    ·rw[hlen]
    ·rw[hlen,HNXT.out,rV,HDQ.out]
     have h:=HR9.out
     rw[List.append_assoc,List.append_assoc]at h
     exact h
   ·obtain rfl:j=5:=by omega
    have hra:=hro.rd
    have HSU:=aH (fun (u:World) (hu:Below wr.heap.size wr u)=>sum_any Ao co (preO dat 5) u (by omega) (hra.below hu))
    have hsl:=yA (preO dat 5)
    have HPUT:=aH (fun (u:World) (hu:Below wr.heap.size wr u)=>aAZ base Ao co (iL (preO dat 5)) 4 (preO dat 5) u (by omega) (by decide) (by omega) (hro.below hu) (bD hzr hu.size))
    have hbw:Below w.heap.size w wr:=HB6.out.grown hao.grown (by omega) (fun kk hk1=>by simp [ownB]at hk1;omega)
    have HBW:=aH hbw
    have HW:Hid (aM9 dat=preO dat 5++beN (iL (preO dat 5)) 4):=aH rfl
    have HRO:=aH hro
    clear hro hao hra hbw HB6 HR0 HPT HDL HBK HPL
    generalize iL (preO dat 5)=sm at *
    generalize preO dat 5=P at *
    obtain⟨p,hp⟩:∃ p,p=P.length:=⟨_,rfl⟩
    rw[← hp]at hpl HRO HPUT HSU ⊢
    have HP:=aH hp
    clear hp
    go_wp2_with fail
    refine (HSU.out _ (zB _ _)).mono ?_
    rintro e w7 ⟨rfl,hb7⟩
    have HB7:=aH hb7
    clear hb7 HSU
    go_wp2_with fail
    refine (HPUT.out _ HB7.out).mono ?_
    rintro e w8 ⟨A8,c8,rfl,hr8,ha8⟩
    have HR8:=aH (hr8.mono hbz)
    have hbz7:base≤w7.heap.size:=bD hzr HB7.out.size
    have HB8:=aH ((aA HBW.out.size HBW.out HB7.out).trans ((ha8.belowC (HRO.out.below HB7.out) hbz7).mono hbz))
    clear hr8 ha8 HPUT
    go_wp2
    have hlen:(aM9 dat).length=p+4:=by
     rw[HW.out,bC,aS,← HP.out]
    refine bK (v:=.tuple #[.slice A8 (p+4) c8,.int .i64 0]) (by simp [results,Tryz.results71,go_sem]) rfl ?_
    refine⟨A8,c8,by rw[HDAT.out,hlen],?_,HB8.out⟩
    rw[HDAT.out,hlen,HW.out]
    exact HR8.out
end Go.Proofs.YthjeglnkgdpijaaGreatDoor
