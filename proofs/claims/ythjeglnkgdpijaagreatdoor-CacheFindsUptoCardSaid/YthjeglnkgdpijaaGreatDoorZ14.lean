/- What chunk.Decode computes, as plain functions on lists of bytes; what is told of some bytes is told of them with more behind. What every proof of a row with the listed tables shares: the post out of 'Below', the table out of the row's list, the world of the witness. The walk of object.Encode. The walks of Reply, of the words of a status, of SameBytes and SameResponse. The walks of Reply. The walks of SameResponse, CopyResponse, SameRequest, CopyRequest, and of the law's alive. The walks of CopyResponse and hop.Response. Conditions: as each theorem states them. -/
import Derived.ProofKit
import Derived.OpenShut
import Derived.Deep.DeepHandedRow
import Derived.LaidSub
import Derived.Lay
import Derived.Test.YthjeglnkgdpijaaGreatDoorZ31
set_option maxHeartbeats 4000000
set_option maxRecDepth 100000
namespace Go.Proofs.YthjeglnkgdpijaaGreatDoor
namespace C
open T (Bs)
def hex (c:UInt8):Int:=if 48≤c.toNat∧c.toNat≤57 then (c.toNat:Int) - 48 else if 65≤c.toNat∧c.toNat≤70 then (c.toNat:Int) - 55 else if 97≤c.toNat∧c.toNat≤102 then (c.toNat:Int) - 87 else -1
def isHex (c:UInt8):Bool:=decide (0≤hex c)
def val (l:Bs):Int:=l.foldl (fun a c=>a * 16+hex c) 0
def semi (c:UInt8):Bool:=c==59
def numOf (l:Bs):Bs:=P.upto semi l
def extOf (l:Bs):Bs:=(P.from_ semi l).drop 1
def sizeOf (l:Bs):Int:=if numOf l=[]∨8 < (numOf l).length∨(numOf l).all isHex=false∨F.text (B (extOf l))=false then -1 else val (numOf l)
def lf (c:UInt8):Bool:=c==10
def zZ (l:Bs):Nat:=(P.upto lf l).length
def zO (l:Bs):Prop:=200≤zZ l∨zZ l=0∨l.getD (zZ l - 1) 0≠13∨sizeOf (l.take (zZ l - 1)) < 0
instance (l:Bs):Decidable (zO l):=inferInstanceAs (Decidable (_∨_))
def aRK (l:Bs):Int:=if zZ l < l.length then (if zO l then 70 else 0) else if 200≤l.length then 70 else 0
def qY (l:Bs):Nat:=if zZ l < l.length∧¬ zO l then zZ l+1 else 0
def lineS (l:Bs):Nat:=if zZ l < l.length∧¬ zO l then (sizeOf (l.take (zZ l - 1))).toNat else 0
structure CD where
 d:Bs
 f:List FD
 n:Nat
 e:Int
def CD.bad (e:Int):CD:=⟨[],[],0,e⟩
def tailE (l:Bs):Int:=if P.aFX.isPrefixOf l then 0 else if P.hE l 0≠0∨P.hN l 0=0 then P.hE l 0 else (P.parse [] (l.take (P.hN l 0 - 2).toNat)).2
def aGE (l:Bs):Nat:=if P.aFX.isPrefixOf l then 2 else if P.hE l 0≠0∨P.hN l 0=0 then 0 else if (P.parse [] (l.take (P.hN l 0 - 2).toNat)).2≠0 then 0 else (P.hN l 0).toNat
def aGF (l:Bs):List FD:=if P.aFX.isPrefixOf l then [] else if P.hE l 0≠0∨P.hN l 0=0 then [] else (P.parse [] (l.take (P.hN l 0 - 2).toNat)).1
def dec (data:Bs) (at_:Nat) (l:Bs):CD :=
 if aRK l≠0∨qY l=0 then .bad (aRK l)
 else if lineS l=0 then
  (if tailE (l.drop (qY l))≠0∨aGE (l.drop (qY l))=0 then .bad (tailE (l.drop (qY l))) else ⟨data,aGF (l.drop (qY l)),at_+qY l+aGE (l.drop (qY l)),0⟩)
 else if 65536 < data.length+lineS l then .bad 71
 else if _h:(l.drop (qY l)).length < lineS l+2 then .bad 0
 else if P.aFX.isPrefixOf (l.drop (qY l+lineS l))=false then .bad 70
 else dec (data++(l.drop (qY l)).take (lineS l)) (at_+qY l+lineS l+2) (l.drop (qY l+lineS l+2))
termination_by l.length
decreasing_by
 rw[List.length_drop]at _h ⊢
 omega
def decode (b:Bs):CD:=dec [] 0 b
end C
open Go.ChangeShapes Go.WideShapes Go.ChangeAt Go.RowKit
section
variable {H:Type} {enc:TypeId × Value→H} {P:Program}
theorem zK {f:Func} {s:ChangeSpec} {apart fresh handsOn again:Bool} {W W':World} {args:Array Value} {v:Value} {ds gs:List (DataW H)} {before pa pv:List MemPlace}
  (hW:DataW.Whole enc P f.params.toList s.vars apart W args.toList ds gs before)
  (hres:∀ (b:Nat) (sp:Nat→Bool) (hd:Bool),DataW.TrodAll enc P W' b sp hd f.resultTypes.toList (v.resultList f.resultTypes.size) (s.fn H (ds++gs)).results [])
  (hargs:∀ sp:Nat→Bool,(∀ p∈before,sp p.block=true)→DataW.TrodAll enc P W' 0 sp true f.params.toList args.toList (s.fn H (ds++gs)).args pa)
  (hvars:∀ sp:Nat→Bool,(∀ p∈before,sp p.block=true)→DataW.TrodVars enc P W' sp s.vars (s.fn H (ds++gs)).vars pv)
  (hps:before=pa++pv) (hb:Below W.heap.size W W')
  (hok:∀ (j:Nat) (t:TypeId) (r:Value),f.resultTypes[j]?=some t→(v.resultList f.resultTypes.size)[j]?=some r→Value.okWide P W' .any 0 t r) :
  s.post enc P f apart fresh handsOn again W args v W':=by
 have hlt:∀ p∈before,p.block < W.heap.size:=fun p hp=>hW.lt p hp
 have hold:∀ p∈before,(fun b=>decide (b < W.heap.size)) p.block=true:=fun p hp=>by simpa using hlt p hp
 refine⟨ds,gs,before,[],pa,pv,hW,hres _ _ _,hargs _ hold,hvars _ hold,World.keptBut_mono (fun p hp=>⟨hp,?_⟩) (hb.frame (·∈before)),fun _=>?_⟩
 ·rw[hps,List.mem_append]at hp
  exact Or.inr hp
 ·obtain⟨_,_,_,_,_,hz,hn⟩:=hW
  refine⟨hok,_,_,([]++pa)++pv,⟨[]++pa,pv,trodAll_append (hargs _ (fun _ _=>rfl)) (hres _ _ _),hvars _ (fun _ _=>rfl),rfl,?_,?_⟩,?_⟩
  ·intro b off hp
   have hin:MemPlace.cell b off∈before:=by rw[hps];simpa using hp
   rw[hb.frozen (hlt _ hin)]
   exact hz b off hin
  ·intro ha
   have:=hn ha
   rw[hps]at this
   simpa using this
  ·intro p hp _
   rw[hps]
   simpa using hp
end
theorem own_:ownKnob Tryz.prog.godebug=none:=by kernel_rfl
theorem tab_g:Tryz.prog.globalNamed "internal/strconv.uint64pow10"=some 4:=by kernel_rfl
theorem tab_t:(Tryz.prog.globals[4]?).map (·.type)=some 291:=by kernel_rfl
theorem tab_n:Tryz.prog.cellsOf 291=20:=by kernel_rfl
theorem tab_e:Tryz.prog.cellsOf 211=1:=by kernel_rfl
theorem aQ7:Tryz.prog.underlying 291=some (.array 20 211):=by kernel_rfl
theorem aQ8:Tryz.prog.underlying 211=some (.int .u64):=by kernel_rfl
theorem aQ9 {W:World} {laid:List (String × DataW Unit)} (h:laidMetH Tryz.prog laid W)
  (hm:laid.filter (fun x=>x.1== "internal/strconv.uint64pow10")=[("internal/strconv.uint64pow10",Rows.laid_internal_strconv_uint64pow10)]):iY W:=by
 have h1:=h.filter (fun x=>x.1== "internal/strconv.uint64pow10")
 rw[hm]at h1
 exact Lib.tabIs_of_head (rest:=[]) tab_g tab_t aQ7 aQ8 tab_e tab_n h1
end Go.Proofs.YthjeglnkgdpijaaGreatDoor
namespace Go.Proofs.YthjeglnkgdpijaaGreatDoor
open Go.RowKit
def aLJ (k v:ByteArray) (h body:List UInt8) (asked got:Int):Nat→List UInt8
 | 0=>L k
 | 1=>L v
 | 2=>h
 | 3=>body
 | 4=>beN asked.toNat 8++beN got.toNat 8
 | _=>[]
def preO (dat:Nat→List UInt8):Nat→List UInt8
 | 0=>[67,79,49]
 | i+1=>preO dat i++sZ (i+1) (dat i)
theorem zH (dat:Nat→List UInt8) (h:∀ i,(dat i).length≤65536):∀ i,(preO dat i).length≤3+i * 65541
 | 0=>zA 3
 | i+1=>by
  have h1:=zH dat h i
  have h2:=h i
  rw[preO,bC,rO]
  omega
def aOI (dat:Nat→List UInt8):List UInt8:=preO dat 5++beN (iP (preO dat 5)) 4
def uF (k v:ByteArray) (s:Int) (r:ByteArray) (m:Int) (fs:List FD) (nb:Nat) (asked got:Int):Bool:=decide (F.gW s r m fs=0∧okE k v nb asked got=true)
def rQ (k v:ByteArray) (s:Int) (r:ByteArray) (m:Int) (fs:List FD) (body:List UInt8) (asked got:Int):List UInt8 :=
 if uF k v s r m fs body.length asked got then aOI (aLJ k v (F.eQ s r m fs) body asked got) else []
def xO (k v:ByteArray) (s:Int) (r:ByteArray) (m:Int) (fs:List FD) (nb:Nat) (asked got:Int):Int:=if uF k v s r m fs nb asked got then 0 else 120
theorem aPU {k v:ByteArray} {s:Int} {r:ByteArray} {m:Int} {fs:List FD} {body:List UInt8} {asked got:Int} (h:¬ (F.gW s r m fs=0∧okE k v body.length asked got=true)):rQ k v s r m fs body asked got=[]∧xO k v s r m fs body.length asked got=120:=by
 have h1:uF k v s r m fs body.length asked got=false:=decide_eq_false h
 unfold rQ xO
 rw[h1]
 exact⟨rfl,rfl⟩
theorem aMG {k v:ByteArray} {s:Int} {r:ByteArray} {m:Int} {fs:List FD} {body:List UInt8} {asked got:Int} (h1:F.gW s r m fs=0) (h2:okE k v body.length asked got=true):rQ k v s r m fs body asked got=aOI (aLJ k v (F.eQ s r m fs) body asked got)∧xO k v s r m fs body.length asked got=0:=by
 have h3:uF k v s r m fs body.length asked got=true:=decide_eq_true ⟨h1,h2⟩
 unfold rQ xO
 rw[h3]
 exact⟨rfl,rfl⟩
theorem gQ {k v:ByteArray} {nb:Nat} {asked got:Int} (h:okE k v nb asked got=true):k.size≤4096∧v.size≤4096∧nb≤65536∧0≤asked∧asked≤253402300799∧0≤got∧got≤253402300799:=by
 obtain⟨_,h1,h2,h3,h4,h5⟩:=of_decide_eq_true h
 have h4:=of_decide_eq_true h4
 have h5:=of_decide_eq_true h5
 exact⟨h1,h2,h3,h4.1,h4.2,h5.1,h5.2⟩
theorem bZ.newM (w:World) (cs:Array Value) (bs:List UInt8) (h:cs.toList=aB bs):bZ (w.alloc (.cells cs 5 (bs.length,bs.length+1))) w.heap.size (some ⟨w.heap.size,0,none⟩) bs.length bs.length bs:=by
 have hrow:(w.alloc (.cells cs 5 (bs.length,bs.length+1))).heap[w.heap.size]?=some (.cells cs 5 (bs.length,bs.length+1)):=heap_alloc_new w _
 have hsz:cs.size=bs.length:=by
  have:=congrArg List.length h
  simpa [aB] using this
 refine⟨rfl,zA _,.inr ⟨w.heap.size,rfl,zA _,by simp,fun j hj=>⟨?_,?_⟩,fun j u hu=>?_⟩⟩
 ·rw[cell_of_row _ w.heap.size j _ _ _ hrow]
  have:j < cs.size:=by omega
  simp [this]
 ·simp only[World.frozen?,hrow]
  simp
  omega
 ·rw[cell_of_row _ w.heap.size j _ _ _ hrow,← hu,← h]
  simp
theorem jL (k v:ByteArray) (s:Int) (r:ByteArray) (m:Int) (A:Option Addr) (cf:Nat) (fs:List FD) (X:Option Addr) (cb:Nat) (body:List UInt8) (asked got:Int) (w:World) (hr:r.size≤1073741824) (hf:F.bulk fs≤1073741824) (hx:Rd w A fs.length 2 (aJ fs)) (hX:Rd w X body.length 1 (aB body)) (ht:iY w) :
  Calls Tryz.prog 71 #[.agg #[.string k,.string v,.int .i64 s,.string r,.int .i64 m,.slice A fs.length cf,.slice X body.length cb,.int .i64 asked,.int .i64 got]] w (fM w (rQ k v s r m fs body asked got) (xO k v s r m fs body.length asked got)):=by
 have HK:=aH (Blk.new w #[.string k,.string v,.int .i64 s,.string r,.int .i64 m,.slice A fs.length cf,.slice X body.length cb,.int .i64 asked,.int .i64 got] 41)
 have HB:=aH ((zB w.heap.size w).alloc (zA _) (.cells #[.string k,.string v,.int .i64 s,.string r,.int .i64 m,.slice A fs.length cf,.slice X body.length cb,.int .i64 asked,.int .i64 got] 41))
 have HPR:=aH (fun (u:World) (hu:Below w.heap.size w u)=>oI s r m A cf fs u hr hf (hx.below hu) (ht.below hu))
 have HX:=aH (fun (u:World) (hu:Below w.heap.size w u)=>hX.below hu)
 have HRT:=aH (fun (u:World)=>aIZ k v s r m A fs.length cf X body.length cb asked got u)
 have HBAD:=aH (aPU (k:=k) (v:=v) (s:=s) (r:=r) (m:=m) (fs:=fs) (body:=body) (asked:=asked) (got:=got))
 have HGOOD:=aH (aMG (k:=k) (v:=v) (s:=s) (r:=r) (m:=m) (fs:=fs) (body:=body) (asked:=asked) (got:=got))
 have hE:=aBF s r m fs
 generalize rQ k v s r m fs body asked got=OB at *
 generalize xO k v s r m fs body.length asked got=OE at *
 generalize F.gW s r m fs=E at *
 generalize F.eQ s r m fs=H at *
 have HOKF:Hid (okE k v body.length asked got=true→k.size≤4096∧v.size≤4096∧body.length≤65536∧0≤asked∧asked≤253402300799∧0≤got∧got≤253402300799):=aH gQ
 generalize okE k v body.length asked got=ok at *
 clear hx hX ht
 go_enter Tryz.func71,Tryz.ntmps71
 obtain⟨x0,x1,x2,x3,x4,x5,x6,x7,x8⟩:=HK.out.cells9
 go_wp2_with fail
 clear x0 x1 x2 x3 x4 x5 x6 x7 x8
 refine (HPR.out _ HB.out).mono ?_
 rintro e w1 ⟨A1,c1,rfl,hr1,hb1⟩
 have HB1:=aH (aA HB.out.size HB.out hb1)
 have HK1:=aH (HK.out.below hb1)
 have HR1:=aH (hr1.mono HB.out.size)
 clear hb1 hr1 HB HK HPR
 obtain⟨x0,x1,x2,x3,x4,x5,x6,x7,x8⟩:=HK1.out.cells9
 by_cases hE0:E=0
 rotate_left
 ·have hEb:(E != 0)=true:=by simpa using hE0
  obtain⟨ha,hb⟩:=HBAD.out (fun h=>hE0 h.1)
  clear HBAD HGOOD HOKF HRT HX
  go_wp2
  refine bK (v:=.tuple #[.slice none 0 0,.int .i64 120]) (by simp [results,Tryz.results71,go_sem]) rfl ?_
  exact fM.none_ HB1.out ha hb
 subst hE0
 go_wp2_with fail
 clear x0 x1 x2 x3 x4 x5 x6 x7 x8
 refine (HRT.out _).mono ?_
 rintro e w2 ⟨rfl,hb2⟩
 have HB2:=aH (aA HB1.out.size HB1.out hb2)
 have HK2:=aH (HK1.out.below hb2)
 have HR2:=aH (HR1.out.below hb2)
 clear hb2 HB1 HK1 HR1 HRT
 obtain⟨x0,x1,x2,x3,x4,x5,x6,x7,x8⟩:=HK2.out.cells9
 cases ok with
 | false =>
  obtain⟨ha,hb⟩:=HBAD.out (fun h=>by cases h.2)
  clear HBAD HGOOD HOKF HX
  go_wp2
  refine bK (v:=.tuple #[.slice none 0 0,.int .i64 120]) (by simp [results,Tryz.results71,go_sem]) rfl ?_
  exact fM.none_ HB2.out ha hb
 | true =>
  obtain⟨hk,hv,hbd,ha0,ha1,hg0,hg1⟩:=HOKF.out rfl
  obtain⟨rfl,rfl⟩:=HGOOD.out trivial rfl
  clear HBAD HGOOD HOKF
  obtain⟨a,rfl⟩:∃ a:Nat,asked=a:=⟨asked.toNat,by omega⟩
  obtain⟨g,rfl⟩:∃ g:Nat,got=g:=⟨got.toNat,by omega⟩
  have HP1:=aH (fun (u:World)=>aBJ w2.heap.size none 0 a 8 [] u (zF _) (zA _) (by omega) (bZ.none_ _ _))
  have HP2:=aH (fun (u:World) (A3:Option Addr) (c3:Nat) (hr:bZ u w2.heap.size A3 8 c3 (beN a 8)) (hz:w2.heap.size≤u.heap.size)=>by
   have:=aBJ w2.heap.size A3 c3 g 8 (beN a 8) u (by rw[aP];decide) (zA _) (by omega) (by rw[aP];exact hr) hz
   rw[aP]at this
   exact this)
  go_wp2_with fail
  clear x0 x1 x2 x3 x4 x5 x6 x7 x8
  refine (HP1.out _ (zA _)).mono ?_
  rintro e w3 ⟨A3,c3,rfl,hr3,ha3⟩
  have hb3:Below w2.heap.size w2 w3:=ha3.belowC (bZ.none_ w2 w2.heap.size) (zA _)
  have HB3:=aH hb3
  have HK3:=aH (HK2.out.below hb3)
  have HR3:Hid (bZ w3 w2.heap.size A3 8 c3 (beN a 8)):=aH hr3
  have hz3:=hb3.size
  clear hr3 ha3 hb3 HP1
  obtain⟨x0,x1,x2,x3,x4,x5,x6,x7,x8⟩:=HK3.out.cells9
  go_wp2_with fail
  clear x0 x1 x2 x3 x4 x5 x6 x7 x8
  refine (HP2.out _ A3 c3 HR3.out hz3).mono ?_
  rintro e w4 ⟨A4,c4,rfl,hr4,ha4⟩
  have hb4:Below w2.heap.size w2 w4:=HB3.out.trans (ha4.belowC HR3.out hz3)
  have HB4:=aH (aA HB2.out.size HB2.out hb4)
  have HK4:=aH (HK2.out.below hb4)
  have HR4:=aH (HR2.out.below hb4)
  have HT4:Hid (Rd w4 A4 16 1 (aB (beN a 8++beN g 8))):=aH hr4.rd
  clear hr4 ha4 hb4 HP2 HB3 HK3 HR3 hz3 HB2 HK2 HR2
  have hcc:=Lib.run_convert_bytes_const (P:=Tryz.prog) w4 39 5 #[.int .u8 67,.int .u8 79,.int .u8 49] 3 3 Tryz.underlying39 Tryz.underlying5
  have hb5:Below w4.heap.size w4 (w4.alloc (.cells #[.int .u8 67,.int .u8 79,.int .u8 49] 5 (3,4))):=(zB _ _).alloc (zA _) _
  have HR5:Hid (bZ (w4.alloc (.cells #[.int .u8 67,.int .u8 79,.int .u8 49] 5 (3,4))) w4.heap.size (some ⟨w4.heap.size,0,none⟩) 3 3 [67,79,49]):=aH (bZ.newM w4 #[.int .u8 67,.int .u8 79,.int .u8 49] [67,79,49] rfl)
  obtain⟨ck,W1,hrun1,hrow1,hbW1⟩:=aAI (w4.alloc (.cells #[.int .u8 67,.int .u8 79,.int .u8 49] 5 (3,4))) k
  obtain⟨cv,W2,hrun2,hrow2,hbW2⟩:=aAI W1 v
  have HK5:=aH (HK4.out.below hb5)
  have HK6:=aH (HK5.out.below hbW1)
  have HK7:=aH (HK6.out.below hbW2)
  obtain⟨x0,x1,x2,x3,x4,x5,x6,x7,x8⟩:=HK5.out.cells9
  obtain⟨y0,y1,y2,y3,y4,y5,y6,y7,y8⟩:=HK6.out.cells9
  obtain⟨z0,z1,z2,z3,z4,z5,z6,z7,z8⟩:=HK7.out.cells9
  go_wp2_with fail
  clear x0 x1 x2 x3 x4 x5 x6 x7 x8 y0 y1 y2 y3 y4 y5 y6 y7 y8 z0 z1 z2 z3 z4 z5 z6 z7 z8 hcc hrun1 hrun2 HK5 HK6 HK7 HK4
  have hs5:((w4.alloc (.cells #[.int .u8 67,.int .u8 79,.int .u8 49] 5 (3,4)))).heap.size=w4.heap.size+1:=bJ _ _
  have hc1:Below w4.heap.size w4 W1:=aA hb5.size hb5 hbW1
  have hc2:Below w4.heap.size w4 W2:=aA hc1.size hc1 hbW2
  have hc6:Below w4.heap.size w4 (W2.alloc (.cells #[Value.slice (some ⟨w4.heap.size+1,0,none⟩) k.size ck,Value.slice (some ⟨W1.heap.size,0,none⟩) v.size cv,Value.slice A1 H.length c1,Value.slice X body.length cb,Value.slice A4 16 c4] 39)):=hc2.alloc hc2.size _
  have hr0:bZ (W2.alloc (.cells #[Value.slice (some ⟨w4.heap.size+1,0,none⟩) k.size ck,Value.slice (some ⟨W1.heap.size,0,none⟩) v.size cv,Value.slice A1 H.length c1,Value.slice X body.length cb,Value.slice A4 16 c4] 39)) w4.heap.size (some ⟨w4.heap.size,0,none⟩) 3 3 [67,79,49]:=((HR5.out.below hbW1).below hbW2).alloc _
  rw[hs5]at hrow1 hbW1
  have hk6:bZ (W2.alloc (.cells #[Value.slice (some ⟨w4.heap.size+1,0,none⟩) k.size ck,Value.slice (some ⟨W1.heap.size,0,none⟩) v.size cv,Value.slice A1 H.length c1,Value.slice X body.length cb,Value.slice A4 16 c4] 39)) (w4.heap.size+1) (some ⟨w4.heap.size+1,0,none⟩) k.size ck (L k):=(hrow1.below hbW2).alloc _
  have hv6:bZ (W2.alloc (.cells #[Value.slice (some ⟨w4.heap.size+1,0,none⟩) k.size ck,Value.slice (some ⟨W1.heap.size,0,none⟩) v.size cv,Value.slice A1 H.length c1,Value.slice X body.length cb,Value.slice A4 16 c4] 39)) W1.heap.size (some ⟨W1.heap.size,0,none⟩) v.size cv (L v):=hrow2.alloc _
  have hBk:Blk (W2.alloc (.cells #[Value.slice (some ⟨w4.heap.size+1,0,none⟩) k.size ck,Value.slice (some ⟨W1.heap.size,0,none⟩) v.size cv,Value.slice A1 H.length c1,Value.slice X body.length cb,Value.slice A4 16 c4] 39)) W2.heap.size #[Value.slice (some ⟨w4.heap.size+1,0,none⟩) k.size ck,Value.slice (some ⟨W1.heap.size,0,none⟩) v.size cv,Value.slice A1 H.length c1,Value.slice X body.length cb,Value.slice A4 16 c4] 39:=Blk.new _ _ _
  have hsW1:w4.heap.size+1≤W1.heap.size:=by have:=hbW1.size;rw[hs5]at this;exact this
  have hsW2:W1.heap.size≤W2.heap.size:=hbW2.size
  obtain⟨dat,hdat⟩:∃ dat,dat=aLJ k v H body a g:=⟨_,rfl⟩
  have HDAT:Hid (aOI (aLJ k v H body a g)=aOI dat):=aH (by rw[hdat])
  have hX4:=HX.out w4 HB4.out
  have HB6:=aH (aA HB4.out.size HB4.out hc6)
  have HPT:Hid (∀ i,i < 5→∃ S m d,(#[Value.slice (some ⟨w4.heap.size+1,0,none⟩) k.size ck,Value.slice (some ⟨W1.heap.size,0,none⟩) v.size cv,Value.slice A1 H.length c1,Value.slice X body.length cb,Value.slice A4 16 c4])[i]?=some (.slice S m d)∧(dat i).length=m∧Rd (W2.alloc (.cells #[Value.slice (some ⟨w4.heap.size+1,0,none⟩) k.size ck,Value.slice (some ⟨W1.heap.size,0,none⟩) v.size cv,Value.slice A1 H.length c1,Value.slice X body.length cb,Value.slice A4 16 c4] 39)) S m 1 (aB (dat i))∧Sep (some ⟨w4.heap.size,0,none⟩) 3 S m):=by
   refine aH fun i hi=>?_
   subst hdat
   have hsep:∀ (E:Option Addr) (q:Nat) (xs:List Value),Rd w4 E q 1 xs→Sep (some ⟨w4.heap.size,0,none⟩) 3 E q:=fun E q xs h hq kk e hk1 he=>by
    obtain⟨b',o',e',hlt⟩:=h.lt hq
    rw[he]at e'
    cases e'
    simp [ownB]at hk1
    show kk≠b'
    omega
   have hown:∀ (q bb:Nat),bb≠w4.heap.size→Sep (some ⟨w4.heap.size,0,none⟩) 3 (some ⟨bb,0,none⟩) q:=fun q bb hne _ kk e hk1 he=>by
    cases he
    simp [ownB]at hk1
    show kk≠bb
    omega
   rcases (by omega:i=0∨i=1∨i=2∨i=3∨i=4) with rfl | rfl | rfl | rfl | rfl
   ·exact⟨_,_,_,rfl,hk6.1,hk6.rd,hown _ _ (by omega)⟩
   ·exact⟨_,_,_,rfl,hv6.1,hv6.rd,hown _ _ (by omega)⟩
   ·exact⟨_,_,_,rfl,rfl,HR4.out.rd.below hc6,hsep _ _ _ HR4.out.rd⟩
   ·exact⟨_,_,_,rfl,rfl,hX4.below hc6,hsep _ _ _ hX4⟩
   ·refine⟨_,_,_,rfl,?_,HT4.out.below hc6,hsep _ _ _ HT4.out⟩
    show (beN (a:Int).toNat 8++beN (g:Int).toNat 8).length=16
    rw[bC,aP,aP]
  have hdl:∀ i,(dat i).length≤65536:=by
   intro i
   subst hdat
   match i with
   | 0=>show (L k).length≤_;rw[← aS];omega
   | 1=>show (L v).length≤_;rw[← aS];omega
   | 2=>show H.length≤_;omega
   | 3=>show body.length≤_;omega
   | 4=>show (beN (a:Int).toNat 8++beN (g:Int).toNat 8).length≤_;rw[bC,aP,aP];decide
   | n+5=>exact zF _
  have HPL:Hid (∀ j,j≤5→(preO dat j).length≤400000):=aH (fun j hj=>by have:=zH dat hdl j;omega)
  have HDL:=aH hdl
  have HR0:=aH hr0
  have HBK:=aH hBk
  obtain⟨b6,hb6⟩:∃ b6,b6=W2.heap.size:=⟨_,rfl⟩
  have hne6:b6≠w4.heap.size:=by omega
  have hz6:w4.heap.size≤((W2.alloc (.cells #[Value.slice (some ⟨w4.heap.size+1,0,none⟩) k.size ck,Value.slice (some ⟨W1.heap.size,0,none⟩) v.size cv,Value.slice A1 H.length c1,Value.slice X body.length cb,Value.slice A4 16 c4] 39))).heap.size:=hc6.size
  rw[← hb6]at HBK ⊢
  generalize hcsl:#[Value.slice (some ⟨w4.heap.size+1,0,none⟩) k.size ck,Value.slice (some ⟨W1.heap.size,0,none⟩) v.size cv,Value.slice A1 H.length c1,Value.slice X body.length cb,Value.slice A4 16 c4]=CSL at *
  generalize W2.alloc (.cells CSL 39)=w6 at *
  have hbz:=HB4.out.size
  generalize w4.heap.size=base at *
  clear hk6 hv6 hBk hsW1 hsW2 hr0 hdl hdat hX4 HR4 HT4 HX hb6 hc6 hc1 hc2 hs5 hrow1 hbW1 hrow2 hbW2 hb5 HB4 HR5 hcsl
  go_loopw [7,45] (fun o i wr=>∃ (j:Nat) (Ao:Option Addr) (co:Nat),j≤5∧i=.int .i64 j∧o=.slice Ao (preO dat j).length co∧bZ wr base Ao (preO dat j).length co (preO dat j)∧App w6 wr (some ⟨base,0,none⟩) 3 Ao co) (fun _ i _=>5 - (intOf i).toNat)
  case atStart=>exact⟨0,_,_,zF _,rfl,rfl,HR0.out,App.start _ _ _⟩
  case round =>
   obtain⟨j,Ao,co,hj,rfl,rfl,hro,hao⟩:=hrel
   have hpl:=HPL.out j hj
   have hzr:base≤wr.heap.size:=bD hz6 hao.grown.size
   by_cases hlt:j < 5
   ·obtain⟨S,q,d,hcell,hdq,hrd,hsep⟩:=HPT.out j hlt
    have hdb:=HDL.out j
    have hwz:base≤w6.heap.size:=hz6
    have HNXT:Hid (preO dat (j+1)=preO dat j++sZ (j+1) (dat j)):=aH rfl
    have HBKr:=aH (HBK.out.app hao (fun kk hk1=>by simp [ownB]at hk1;omega))
    have hce:=HBKr.out.cell j hcell
    have hrdr:=hao.rd hrd hsep
    have hsepr:=hao.sep hrd hsep
    have HRDR:=aH hrdr
    have HSEPR:=aH hsepr
    have HRO:=aH hro
    have HAO:=aH hao
    rw[hdq]at hdb
    generalize hD:dat j=D at *
    generalize hP:preO dat j=P at *
    clear hrd hsep hrdr hsepr hro hao hcell
    obtain⟨p,hp⟩:∃ p,p=P.length:=⟨_,rfl⟩
    rw[← hp]at hpl HRO ⊢
    have HP:=aH hp
    have HDQ:=aH hdq
    clear hp hdq hP hD
    have hj5:(j:Int) < 5:=by omega
    have hmod:(1+(j:Int)) % 256=1+(j:Int):=by omega
    have hnew:=fun u:World=>newB u (UInt8.ofNat (j+1))
    have hnn:((UInt8.ofNat (j+1)).toNat:Int)=1+(j:Int):=by
     have:(UInt8.ofNat (j+1)).toNat=j+1:=by rw[UInt8.toNat_ofNat'];omega
     rw[this];omega
    rw[hnn]at hnew
    have HNEW:=aH hnew
    clear hnn hnew
    have HPUT:=aH (fun (u:World) (A7:Option Addr) (c7:Nat) (hr:bZ u base A7 (p+1) c7 (P++[UInt8.ofNat (j+1)])) (hz:base≤u.heap.size)=>by
     have h1:=aBJ base A7 c7 q 4 (P++[UInt8.ofNat (j+1)]) u (by rw[bC,← HP.out,List.length_singleton];omega) (by decide) (by omega) (by rw[bC,← HP.out,List.length_singleton];exact hr) hz
     rw[bC,← HP.out,List.length_singleton]at h1
     exact h1)
    go_wp2_with (at_builtin;refine appC _ rfl (.tmp 50) (.tmp 54) rfl base Ao p co P rfl (HRO.out.alloc _) _ 1 1 [UInt8.ofNat (j+1)] rfl (HNEW.out _) (by omega) (by rw[bJ];omega) ?_;intro A7 c7 w7 hr7 ha7;have HR7:=aH hr7;have HA7:=aH (App.pre ((zB _ _).alloc (zA _) _) ha7);clear hr7 ha7)
    have hz7:base≤w7.heap.size:=bD hzr HA7.out.grown.size
    refine (HPUT.out _ A7 c7 HR7.out hz7).mono ?_
    rintro e w8 ⟨A8,c8,rfl,hr8,ha8⟩
    have HR8:=aH hr8
    have HA8:=aH (HA7.out.next ha8)
    have hz8:base≤w8.heap.size:=bD hz7 ha8.grown.size
    have HD8:=aH (HA8.out.rd HRDR.out HSEPR.out)
    clear hr8 ha8 HR7 HA7 HPUT HRO HNEW hce
    go_wp2_with (at_builtin;refine appC _ rfl (.tmp 60) (.tmp 61) rfl base A8 (p+1+4) c8 (P++[UInt8.ofNat (j+1)]++beN q 4) rfl HR8.out S q d D rfl HD8.out (by omega) hz8 ?_;intro A9 c9 w9 hr9 ha9;have HR9:=aH hr9;have HA9:=aH (HAO.out.next (HA8.out.next ha9));clear hr9 ha9)
    have hlen:(preO dat (j+1)).length=p+1+4+q:=by
     rw[HNXT.out,bC,rO,HDQ.out,← HP.out]
     omega
    refine⟨⟨j+1,A9,c9,by omega,by go_num,?_,?_,HA9.out⟩,by simp [intOf];omega⟩
    ·rw[hlen]
    ·rw[hlen,HNXT.out,sZ,HDQ.out]
     have h:=HR9.out
     rw[List.append_assoc,List.append_assoc]at h
     exact h
   ·obtain rfl:j=5:=by omega
    have hra:=hro.rd
    have HSU:=aH (fun (u:World) (hu:Below wr.heap.size wr u)=>sum_any Ao co (preO dat 5) u (by omega) (hra.below hu))
    have hsl:=sO (preO dat 5)
    have HPUT:=aH (fun (u:World) (hu:Below wr.heap.size wr u)=>aBJ base Ao co (iP (preO dat 5)) 4 (preO dat 5) u (by omega) (by decide) (by omega) (hro.below hu) (bD hzr hu.size))
    have hbw:Below w.heap.size w wr:=HB6.out.grown hao.grown (by omega) (fun kk hk1=>by simp [ownB]at hk1;omega)
    have HBW:=aH hbw
    have HW:Hid (aOI dat=preO dat 5++beN (iP (preO dat 5)) 4):=aH rfl
    have HRO:=aH hro
    clear hro hao hra hbw HB6 HR0 HPT HDL HBK HPL
    generalize iP (preO dat 5)=sm at *
    generalize preO dat 5=P at *
    obtain⟨p,hp⟩:∃ p,p=P.length:=⟨_,rfl⟩
    rw[← hp]at hpl HRO HPUT HSU ⊢
    have HP:=aH hp
    clear hp
    go_wp2_with fail
    refine (HSU.out _ (zB _ _)).mono ?_
    rintro e w7 ⟨rfl,hb7⟩
    have HB7:=aH hb7
    clear hb7 HSU
    go_wp2_with fail
    refine (HPUT.out _ HB7.out).mono ?_
    rintro e w8 ⟨A8,c8,rfl,hr8,ha8⟩
    have HR8:=aH (hr8.mono hbz)
    have hbz7:base≤w7.heap.size:=bD hzr HB7.out.size
    have HB8:=aH ((aA HBW.out.size HBW.out HB7.out).trans ((ha8.belowC (HRO.out.below HB7.out) hbz7).mono hbz))
    clear hr8 ha8 HPUT
    go_wp2
    have hlen:(aOI dat).length=p+4:=by
     rw[HW.out,bC,aP,← HP.out]
    refine bK (v:=.tuple #[.slice A8 (p+4) c8,.int .i64 0]) (by simp [results,Tryz.results71,go_sem]) rfl ?_
    refine⟨A8,c8,by rw[HDAT.out,hlen],?_,HB8.out⟩
    rw[HDAT.out,hlen,HW.out]
    exact HR8.out
theorem yZ (A B:Option Addr) (n m c d:Nat) (xs ys:List UInt8) (w:World) (hn:n≤1099511627776) (hm:m≤1099511627776) (hx:Rd w A n 1 (aB xs)) (hy:Rd w B m 1 (aB ys)) (hxl:xs.length=n) (hyl:ys.length=m) :
  Calls Tryz.prog 42 #[.slice A n c,.slice B m d] w (qP w (decide (xs=ys))):=by
 have HX:=aH hxl
 have HY:=aH hyl
 clear hxl hyl
 by_cases hnm:n=m
 ·subst hnm
  go_enter Tryz.func42,Tryz.ntmps42
  go_wp2
  go_loopw [5] (fun i wr=>∃ k:Nat,k≤n∧i=.int .i64 k∧xs.take k=ys.take k∧∃ q,wr=w.drewN q) (fun i _=>n - (intOf i).toNat)
  case atStart=>exact⟨0,zF _,rfl,rfl,0,rfl⟩
  case round =>
   obtain⟨k,hk,rfl,he,q,rfl⟩:=hrel
   have HE:=aH he;clear he
   by_cases hlt:k < n
   ·obtain⟨b1,o1,rfl,hl1,c1⟩:=hx.byte hlt HX.out
    obtain⟨b2,o2,rfl,hl2,d1⟩:=hy.byte hlt HY.out
    have hsnoc:∀ h:xs[k]'(by have:=HX.out;omega)=ys[k]'(by have:=HY.out;omega),xs.take (k+1)=ys.take (k+1):=fun h=>qC _ _ HE.out h
    have hne:∀ h:¬ xs[k]'(by have:=HX.out;omega)=ys[k]'(by have:=HY.out;omega),¬ xs=ys:=fun h e=>h (by subst e;rfl)
    obtain⟨x,hx1⟩:∃ x,x=xs[k]'(by have:=HX.out;omega):=⟨_,rfl⟩
    obtain⟨y,hy1⟩:∃ y,y=ys[k]'(by have:=HY.out;omega):=⟨_,rfl⟩
    rw[← hx1]at c1 hsnoc hne
    rw[← hy1]at d1 hsnoc hne
    have HS:=aH hsnoc
    have HN:=aH hne
    clear hx1 hy1 hsnoc hne
    by_cases hd:x=y
    ·have hb:((x.toNat:Int) != (y.toNat:Int))=false:=by rw[hd];simp
     have hyes:=HS.out hd
     have HYS:=aH hyes
     clear hyes hd
     go_wp2
     go_region
     go_wp2
     go_roundw
     case rel=>exact⟨k+1,by omega,by go_num,HYS.out,_,rfl⟩
     case measure=>simp [intOf];omega
    ·have hb:((x.toNat:Int) != (y.toNat:Int))=true:=by
      rw[bne_iff_ne];intro e;exact hd (UInt8.toNat_inj.1 (by omega))
     have hno:=decide_eq_false (HN.out hd)
     have HNO:=aH hno
     clear hno hd
     go_wp2
     go_region
     go_wp2
     go_ret
     exact⟨aQ HNO.out.symm,below_drewN (zB _ _) _⟩
   ·have hfin:xs=ys:=by
     have:=HE.out
     have h1:=HX.out
     have h2:=HY.out
     rw[List.take_of_length_le (by omega),List.take_of_length_le (by omega)]at this
     exact this
    have HF:=aH hfin
    clear hfin
    go_wp2
    go_ret
    exact⟨aQ (by rw[decide_eq_true HF.out]),below_drewN (zB _ _) _⟩
 ·have h1:((n:Int)==(m:Int))=false:=by simp;omega
  have h2:((n:Int) != (m:Int))=true:=by simp;omega
  go_enter Tryz.func42,Tryz.ntmps42
  go_wp2
  go_ret
  exact⟨aQ (by have:=HX.out;have:=HY.out;symm;apply decide_eq_false;rintro rfl;omega),zB _ _⟩
def words:List (Int × ByteArray):=[(400,⟨#[66,97,100,32,82,101,113,117,101,115,116]⟩),(403,⟨#[70,111,114,98,105,100,100,101,110]⟩),(404,⟨#[78,111,116,32,70,111,117,110,100]⟩),(413,⟨#[67,111,110,116,101,110,116,32,84,111,111,32,76,97,114,103,101]⟩),(431,⟨#[82,101,113,117,101,115,116,32,72,101,97,100,101,114,32,70,105,101,108,100,115,32,84,111,111,32,76,97,114,103,101]⟩),(501,⟨#[78,111,116,32,73,109,112,108,101,109,101,110,116,101,100]⟩),(502,⟨#[66,97,100,32,71,97,116,101,119,97,121]⟩),(504,⟨#[71,97,116,101,119,97,121,32,84,105,109,101,111,117,116]⟩),(505,⟨#[72,84,84,80,32,86,101,114,115,105,111,110,32,78,111,116,32,83,117,112,112,111,114,116,101,100]⟩)]
def aOE (s:Int):List (Int × ByteArray)→ByteArray
 | []=>⟨#[69,114,114,111,114]⟩
 | x::l=>if x.1=s then x.2 else aOE s l
def word (s:Int):ByteArray:=aOE s words
def aRE:FD:=(⟨#[67,111,110,116,101,110,116,45,84,121,112,101]⟩,⟨#[116,101,120,116,47,112,108,97,105,110]⟩)
def said (s:Int):ByteArray:=B (Lib.itoa s)++⟨#[32]⟩++word s++⟨#[10]⟩
def at_ (w:World) (p:Addr):Value:=(w.cell? p).getD undef
theorem iV {w:World} {p:Addr} {v:Value} (h:w.cell? p=some v):w.cell? p=some (at_ w p):=by
 unfold at_;rw[h];rfl
theorem aPW {w w1:World} {cs:Array Value} {t:TypeId} (hb:Below (w.alloc (.cells cs t)).heap.size (w.alloc (.cells cs t)) w1) (i:Nat):w1.frozen? ⟨w.heap.size,i,none⟩=false:=by
 rw[hb.frozen (p:=⟨w.heap.size,i,none⟩) (by simp)]
 unfold World.frozen?;rw[heap_alloc_new];simp
def Four (w:World) (b:Nat):Prop:=(w.cell? ⟨b,0,none⟩=some (at_ w ⟨b,0,none⟩)∧w.frozen? ⟨b,0,none⟩=false)∧(w.cell? ⟨b,1,none⟩=some (at_ w ⟨b,1,none⟩)∧w.frozen? ⟨b,1,none⟩=false)∧(w.cell? ⟨b,2,none⟩=some (at_ w ⟨b,2,none⟩)∧w.frozen? ⟨b,2,none⟩=false)∧(w.cell? ⟨b,3,none⟩=some (at_ w ⟨b,3,none⟩)∧w.frozen? ⟨b,3,none⟩=false)
def nV (w:World) (b:Nat) (x0 x1 x2 x3:Value):Prop:=w.cell? ⟨b,0,none⟩=some x0∧w.cell? ⟨b,1,none⟩=some x1∧w.cell? ⟨b,2,none⟩=some x2∧w.cell? ⟨b,3,none⟩=some x3
theorem Four.below {w w1:World} {b:Nat} (h:Four w b) (hb:Below w.heap.size w w1):Four w1 b:=by
 obtain⟨⟨a0,f0⟩,⟨a1,f1⟩,⟨a2,f2⟩,⟨a3,f3⟩⟩:=h
 have lt:=World.block_lt_of_cell? w _ a0
 exact⟨⟨iV ((hb.cell (p:=⟨b,0,none⟩) lt).trans a0),(hb.frozen (p:=⟨b,0,none⟩) lt).trans f0⟩,⟨iV ((hb.cell (p:=⟨b,1,none⟩) lt).trans a1),(hb.frozen (p:=⟨b,1,none⟩) lt).trans f1⟩,⟨iV ((hb.cell (p:=⟨b,2,none⟩) lt).trans a2),(hb.frozen (p:=⟨b,2,none⟩) lt).trans f2⟩,⟨iV ((hb.cell (p:=⟨b,3,none⟩) lt).trans a3),(hb.frozen (p:=⟨b,3,none⟩) lt).trans f3⟩⟩
theorem nV.below {w w1:World} {b:Nat} {x0 x1 x2 x3:Value} (h:nV w b x0 x1 x2 x3) (hb:Below w.heap.size w w1):nV w1 b x0 x1 x2 x3:=by
 obtain⟨a0,a1,a2,a3⟩:=h
 have lt:=World.block_lt_of_cell? w _ a0
 exact⟨(hb.cell (p:=⟨b,0,none⟩) lt).trans a0,(hb.cell (p:=⟨b,1,none⟩) lt).trans a1,(hb.cell (p:=⟨b,2,none⟩) lt).trans a2,(hb.cell (p:=⟨b,3,none⟩) lt).trans a3⟩
theorem nV.four {w:World} {b:Nat} {x0 x1 x2 x3:Value} (h:nV w b x0 x1 x2 x3) (h0:∀ i,w.frozen? ⟨b,i,none⟩=false):Four w b :=
 ⟨⟨iV h.1,h0 0⟩,⟨iV h.2.1,h0 1⟩,⟨iV h.2.2.1,h0 2⟩,⟨iV h.2.2.2,h0 3⟩⟩
theorem aJD {w:World} (x0 x1 x2 x3:Value) (t:TypeId):nV (w.alloc (.cells #[x0,x1,x2,x3] t)) w.heap.size x0 x1 x2 x3:=by
 refine⟨?_,?_,?_,?_⟩<;>simp
theorem aBV {w:World} (cs:Array Value) (t:TypeId) (i:Nat):(w.alloc (.cells cs t)).frozen? ⟨w.heap.size,i,none⟩=false:=by
 unfold World.frozen?;rw[heap_alloc_new];simp
def aAP (w:World) (b b4:Nat) (x0 x1 x2 x3:Value) (A:Option Addr) (w':World):Prop :=
 nV w' b4 x0 x1 x2 x3∧Four w' b∧(iY w'∧Rd w' A 1 2 (aJ [aRE])∧Below w.heap.size w w')
theorem aAP.below {w:World} {b b4:Nat} {x0 x1 x2 x3:Value} {A:Option Addr} {u v:World} (h:aAP w b b4 x0 x1 x2 x3 A u) (hb:Below u.heap.size u v):aAP w b b4 x0 x1 x2 x3 A v :=
 ⟨nV.below h.1 hb,Four.below h.2.1 hb,h.2.2.1.below hb,h.2.2.2.1.below hb,aA h.2.2.2.2.size h.2.2.2.2 hb⟩
theorem aAP.drew {w:World} {b b4:Nat} {x0 x1 x2 x3:Value} {A:Option Addr} {u:World} (h:aAP w b b4 x0 x1 x2 x3 A u):aAP w b b4 x0 x1 x2 x3 A u.drew:=h.below (zB _ _).drew
theorem Four.set4 {u:World} {b:Nat} (h:Four u b) (x0 x1 x2 x3:Value):nV ((((u.setCell ⟨b,0,none⟩ x0).setCell ⟨b,1,none⟩ x1).setCell ⟨b,2,none⟩ x2).setCell ⟨b,3,none⟩ x3) b x0 x1 x2 x3:=by
 obtain⟨⟨a0,f0⟩,⟨a1,f1⟩,⟨a2,f2⟩,⟨a3,f3⟩⟩:=h
 have o:∀ (w:World) (i j:Nat) (v:Value),i≠j→(w.setCell ⟨b,i,none⟩ v).cell? ⟨b,j,none⟩=w.cell? ⟨b,j,none⟩:=fun w i j v h=>World.cell?_setCell_other _ _ _ _ (fun e=>h (by injection e))
 refine⟨?_,?_,?_,?_⟩
 ·rw[o _ _ _ _ (by decide),o _ _ _ _ (by decide),o _ _ _ _ (by decide)]
  exact World.cell?_setCell_same _ _ _ a0
 ·rw[o _ _ _ _ (by decide),o _ _ _ _ (by decide)]
  exact World.cell?_setCell_same _ _ _ (u:=at_ u ⟨b,1,none⟩) (by rw[o _ _ _ _ (by decide)];exact a1)
 ·rw[o _ _ _ _ (by decide)]
  exact World.cell?_setCell_same _ _ _ (u:=at_ u ⟨b,2,none⟩) (by rw[o _ _ _ _ (by decide),o _ _ _ _ (by decide)];exact a2)
 ·exact World.cell?_setCell_same _ _ _ (u:=at_ u ⟨b,3,none⟩) (by rw[o _ _ _ _ (by decide),o _ _ _ _ (by decide),o _ _ _ _ (by decide)];exact a3)
theorem Four.set4_four {u:World} {b:Nat} (h:Four u b) (x0 x1 x2 x3:Value):Four ((((u.setCell ⟨b,0,none⟩ x0).setCell ⟨b,1,none⟩ x1).setCell ⟨b,2,none⟩ x2).setCell ⟨b,3,none⟩ x3) b:=by
 obtain⟨h0,h1,h2,h3⟩:=h.set4 x0 x1 x2 x3
 obtain⟨⟨a0,f0⟩,⟨a1,f1⟩,⟨a2,f2⟩,⟨a3,f3⟩⟩:=h
 refine⟨⟨iV h0,?_⟩,⟨iV h1,?_⟩,⟨iV h2,?_⟩,⟨iV h3,?_⟩⟩<;>simp [*]
theorem nV.far {u:World} {b b':Nat} {y0 y1 y2 y3:Value} (h:nV u b' y0 y1 y2 y3) (hne:b'≠b) (i:Nat) (x:Value):nV (u.setCell ⟨b,i,none⟩ x) b' y0 y1 y2 y3:=by
 obtain⟨a0,a1,a2,a3⟩:=h
 refine⟨?_,?_,?_,?_⟩<;>rw[World.cell?_setCell_far _ _ _ _ (fun e=>hne e.symm)]<;>assumption
theorem Rd.far {u:World} {B:Option Addr} {n size:Nat} {xs:List Value} (h:Rd u B n size xs) (b:Nat) (hne:0 < n→∀ p,B=some p→p.block≠b) (i:Nat) (x:Value):Rd (u.setCell ⟨b,i,none⟩ x) B n size xs :=
 ⟨h.1,fun hn=>by
  obtain⟨c,o,rfl,hlt,hc⟩:=h.2 hn
  refine⟨c,o,rfl,by simpa using hlt,fun j v hv=>?_⟩
  rw[World.cell?_setCell_far _ _ _ _ (fun e=>hne hn _ rfl e.symm)]
  exact hc j v hv⟩
theorem Rd.set4 {u:World} {B:Option Addr} {n size:Nat} {xs:List Value} (h:Rd u B n size xs) (b:Nat) (hne:0 < n→∀ p,B=some p→p.block≠b) (x0 x1 x2 x3:Value):Rd ((((u.setCell ⟨b,0,none⟩ x0).setCell ⟨b,1,none⟩ x1).setCell ⟨b,2,none⟩ x2).setCell ⟨b,3,none⟩ x3) B n size xs :=
 (((h.far b hne _ _).far b hne _ _).far b hne _ _).far b hne _ _
theorem Four.lt {u:World} {b:Nat} (h:Four u b):b < u.heap.size:=World.block_lt_of_cell? u _ h.1.1
theorem aAP.set4 {w:World} {b b4:Nat} {x0 x1 x2 x3:Value} {A:Option Addr} {u:World} (h:aAP w b b4 x0 x1 x2 x3 A u) (hb:w.heap.size≤b) (hne:b4≠b) (hA:∀ p,A=some p→p.block≠b) (ht:iY w) (y0 y1 y2 y3:Value) :
  aAP w b b4 x0 x1 x2 x3 A ((((u.setCell ⟨b,0,none⟩ y0).setCell ⟨b,1,none⟩ y1).setCell ⟨b,2,none⟩ y2).setCell ⟨b,3,none⟩ y3):=by
 have hB:Below w.heap.size w ((((u.setCell ⟨b,0,none⟩ y0).setCell ⟨b,1,none⟩ y1).setCell ⟨b,2,none⟩ y2).setCell ⟨b,3,none⟩ y3) :=
  (((h.2.2.2.2.setCell (p:=⟨b,0,none⟩) hb _).setCell (p:=⟨b,1,none⟩) hb _).setCell (p:=⟨b,2,none⟩) hb _).setCell (p:=⟨b,3,none⟩) hb _
 have h4:nV u b4 x0 x1 x2 x3:=h.1
 exact⟨(((h4.far hne _ _).far hne _ _).far hne _ _).far hne _ _,h.2.1.set4_four _ _ _ _,ht.below hB,h.2.2.2.1.set4 b (fun _=>hA) _ _ _ _,hB⟩
theorem qX (s1 m1 s2 m2:Int) (r1 r2:ByteArray) (A B:Option Addr) (n m c d:Nat) (xs ys:List FD) (w:World) (hn:n≤1099511627776) (hm:m≤1099511627776) (hx:Rd w A n 2 (aJ xs)) (hy:Rd w B m 2 (aJ ys)) (hxl:xs.length=n) (hyl:ys.length=m) :
  Calls Tryz.prog 41 #[.agg #[.int .i64 s1,.string r1,.int .i64 m1,.slice A n c],.agg #[.int .i64 s2,.string r2,.int .i64 m2,.slice B m d]] w (qP w (decide (s1=s2)&&decide (r1=r2)&&decide (m1=m2)&&decide (xs=ys))):=by
 have HS:=aH (fun w' (hb:Below w.heap.size w w')=>wB A B n m c d xs ys w' hn hm (hx.below hb) (hy.below hb) hxl hyl)
 obtain⟨b4,hb4⟩:∃ b4,b4=decide (xs=ys):=⟨_,rfl⟩
 rw[← hb4]at HS ⊢
 clear hx hy hxl hyl hb4 hn hm
 rcases tf (decide (s1=s2)) with h1 | h1
 ·have e1:(s1==s2)=true:=by rw[of_decide_eq_true h1];simp
  rw[h1]
  clear h1
  rcases tf (decide (r1=r2)) with h2 | h2
  ·have e2:(r1.toList==r2.toList)=true:=by rw[bM,h2]
   rw[h2]
   clear h2
   rcases tf (decide (m1=m2)) with h3 | h3
   ·have e3:(m1==m2)=true:=by rw[of_decide_eq_true h3];simp
    rw[h3]
    clear h3
    go_enter Tryz.func41,Tryz.ntmps41
    go_wp2_with fail
    refine (HS.out _ (((zB _ _).alloc (zA _) _).alloc (by rw[bJ];omega) _)).mono ?_
    rintro e w1 ⟨rfl,hb1⟩
    go_wp2
    go_ret
    exact⟨aQ (by simp),aA (by simp;omega) (((zB _ _).alloc (zA _) _).alloc (by rw[bJ];omega) _) hb1⟩
   ·have e3:(m1==m2)=false:=by simpa using of_decide_eq_false h3
    rw[h3]
    clear h3
    go_enter Tryz.func41,Tryz.ntmps41
    go_wp2
    go_ret
    exact⟨aQ (by simp),(((zB _ _).alloc (zA _) _).alloc (by rw[bJ];omega) _)⟩
  ·have e2:(r1.toList==r2.toList)=false:=by rw[bM,h2]
   rw[h2]
   clear h2
   go_enter Tryz.func41,Tryz.ntmps41
   go_wp2
   go_ret
   exact⟨aQ (by simp),(((zB _ _).alloc (zA _) _).alloc (by rw[bJ];omega) _)⟩
 ·have e1:(s1==s2)=false:=by simpa using of_decide_eq_false h1
  rw[h1]
  clear h1
  go_enter Tryz.func41,Tryz.ntmps41
  go_wp2
  go_ret
  exact⟨aQ (by simp),(((zB _ _).alloc (zA _) _).alloc (by rw[bJ];omega) _)⟩
def aFC (Q:Act→World→Prop):Exit→Act→World→Prop
 | .normal,a,w=>Q a w
 | _,_,_=>False
theorem aFC.imp {Q:Act→World→Prop} {Q':Exit→Act→World→Prop} (h:∀ a w,Q a w→Q' .normal a w):∀ (e:Exit) (a:Act) (w:World),aFC Q e a w→Q' e a w:=fun e a w hq=>by
 cases e<;>first | exact h a w hq | exact (hq:False).elim
def RetR (w:World) (s:Int) (r:ByteArray) (m:Int) (xs:List FD) (e:Ending) (w':World):Prop :=
 ∃ A c,e=.returned (.agg #[.int .i64 s,.string r,.int .i64 m,.slice A xs.length c])∧Row w' w.heap.size 60 2 A xs.length c (aJ xs)∧Below w.heap.size w w'
theorem Row.far {w:World} {base:Nat} {e:TypeId} {size:Nat} {A:Option Addr} {n c:Nat} {xs:List Value} (h:Row w base e size A n c xs) {b i:Nat} (hb:b < base) (v:Value):Row (w.setCell ⟨b,i,none⟩ v) base e size A n c xs:=by
 rcases h with ⟨h1,h2⟩ | h
 ·refine .inl ⟨h1,?_⟩
  rcases h2 with h2 | ⟨g,cap,cur,hv,hg,hh,r⟩
  ·exact .inl h2
  ·refine .inr ⟨g,cap,cur,hv,hg,?_,r⟩
   rw[← hh]
   unfold World.setCell
   simp only[Array.getElem?_modify]
   rw[if_neg (by omega)]
 ·exact .inr h
theorem Four.far {u:World} {b b':Nat} (h:Four u b') (hne:b'≠b) (i:Nat) (x:Value):Four (u.setCell ⟨b,i,none⟩ x) b':=by
 obtain⟨⟨a0,f0⟩,⟨a1,f1⟩,⟨a2,f2⟩,⟨a3,f3⟩⟩:=h
 have o:∀ j,(u.setCell ⟨b,i,none⟩ x).cell? ⟨b',j,none⟩=u.cell? ⟨b',j,none⟩:=fun j=>World.cell?_setCell_far _ _ _ _ (fun e=>hne e.symm)
 have f:∀ j,(u.setCell ⟨b,i,none⟩ x).frozen? ⟨b',j,none⟩=u.frozen? ⟨b',j,none⟩:=fun j=>World.frozen?_setCell _ _ _ _
 exact⟨⟨iV ((o 0).trans a0),(f 0).trans f0⟩,⟨iV ((o 1).trans a1),(f 1).trans f1⟩,⟨iV ((o 2).trans a2),(f 2).trans f2⟩,⟨iV ((o 3).trans a3),(f 3).trans f3⟩⟩
theorem Row.set4 {w:World} {base:Nat} {e:TypeId} {size:Nat} {A:Option Addr} {n c:Nat} {xs:List Value} (h:Row w base e size A n c xs) {b:Nat} (hb:b < base) (y0 y1 y2 y3:Value):Row ((((w.setCell ⟨b,0,none⟩ y0).setCell ⟨b,1,none⟩ y1).setCell ⟨b,2,none⟩ y2).setCell ⟨b,3,none⟩ y3) base e size A n c xs :=
 (((h.far hb _).far hb _).far hb _).far hb _
theorem aH4 {B:Nat} {w u:World} (h:Below B w u) {b:Nat} (hb:B≤b) (y0 y1 y2 y3:Value):Below B w ((((u.setCell ⟨b,0,none⟩ y0).setCell ⟨b,1,none⟩ y1).setCell ⟨b,2,none⟩ y2).setCell ⟨b,3,none⟩ y3) :=
 (((h.setCell (p:=⟨b,0,none⟩) hb _).setCell (p:=⟨b,1,none⟩) hb _).setCell (p:=⟨b,2,none⟩) hb _).setCell (p:=⟨b,3,none⟩) hb _
theorem rC (s m:Int) (r:ByteArray) (A:Option Addr) (n c:Nat) (fs:List FD) (w:World) (hl:fs.length=n) (hn:n≤1099511627776) (hx:Rd w A n 2 (aJ fs)) :
  Calls Tryz.prog 36 #[.agg #[.int .i64 s,.string r,.int .i64 m,.slice A n c]] w (RetR w s r m fs):=by
 have HC:=aH (fun (w1:World) (hb:Below w.heap.size w w1)=>iM A n c fs w1 hn (hx.below hb))
 subst hl
 clear hx hn
 go_enter Tryz.func36,Tryz.ntmps36
 go_wp2_with fail
 refine (HC.out _ (((zB _ _).alloc (zA _) _).alloc (by rw[bJ];omega) _)).mono ?_
 rintro e w1 ⟨A1,c1,rfl,hr1,hb1⟩
 obtain⟨x0,x1,x2,x3⟩:=((aJD (w:=w) (.int .i64 s) (.string r) (.int .i64 m) (.slice A fs.length c) 38).below ((zB _ _).alloc (zA _) _)).below hb1
 have y4:=(aJD (w:=w.alloc (.cells #[.int .i64 s,.string r,.int .i64 m,.slice A fs.length c] 38)) (.int .i64 0) (.string ⟨#[]⟩) (.int .i64 0) (.slice none 0 0) 38).below hb1
 have g4:∀ i,w1.frozen? ⟨w.heap.size+1,i,none⟩=false:=fun i=>by
  have:=aPW hb1 i
  rwa [bJ]at this
 have k4:w1.frozen? ⟨w.heap.size,3,none⟩=false:=by
  rw[hb1.frozen (p:=⟨w.heap.size,3,none⟩) (by simp only[bJ];omega)]
  rw[frozen?_alloc_cells]
  exact aBV _ _ _
 rw[bJ]at y4
 obtain⟨y0,y1,y2,y3⟩:=y4
 have g0:=g4 0
 have g1:=g4 1
 have g2:=g4 2
 have g3:=g4 3
 have HG4:=aH g4
 have HY4:=aH (show Four w1 (w.heap.size+1) from⟨⟨iV y0,g0⟩,⟨iV y1,g1⟩,⟨iV y2,g2⟩,⟨iV y3,g3⟩⟩)
 have hB:=aA (b:=(w.alloc (.cells #[.int .i64 s,.string r,.int .i64 m,.slice A fs.length c] 38)).alloc (.cells #[.int .i64 0,.string ⟨#[]⟩,.int .i64 0,.slice none 0 0] 38)) (by simp only[bJ];omega) (((zB _ _).alloc (zA _) _).alloc (by rw[bJ];omega) _) hb1
 have HB:=aH hB
 have HR:=aH hr1
 clear hB hb1 hr1 g4 HC
 go_wp2
 have hfour:=(HY4.out.far (b:=w.heap.size) (by omega) 3 (.slice A1 fs.length c1)).set4 (.int .i64 s) (.string r) (.int .i64 m) (.slice A1 fs.length c1)
 have hrow:=(HR.out.far (b:=w.heap.size) (i:=3) (by simp only[bJ];omega) (.slice A1 fs.length c1)).set4 (b:=w.heap.size+1) (by simp only[bJ];omega) (.int .i64 s) (.string r) (.int .i64 m) (.slice A1 fs.length c1)
 have hbel:=aH4 (HB.out.setCell (p:=⟨w.heap.size,3,none⟩) (zA _) (.slice A1 fs.length c1)) (b:=w.heap.size+1) (by omega) (.int .i64 s) (.string r) (.int .i64 m) (.slice A1 fs.length c1)
 clear x0 x1 x2 x3 y0 y1 y2 y3 g0 g1 g2 g3 k4 HY4 HR HB
 generalize (((((w1.setCell ⟨w.heap.size,3,none⟩ (.slice A1 fs.length c1)).setCell ⟨w.heap.size+1,0,none⟩ (.int .i64 s)).setCell ⟨w.heap.size+1,1,none⟩ (.string r)).setCell ⟨w.heap.size+1,2,none⟩ (.int .i64 m)).setCell ⟨w.heap.size+1,3,none⟩ (.slice A1 fs.length c1))=U at *
 obtain⟨d0,d1,d2,d3⟩:=hfour
 refine bK (v:=.agg #[.int .i64 s,.string r,.int .i64 m,.slice A1 fs.length c1]) (by simp [results,Tryz.results36,go_sem,d0,d1,d2,d3]) rfl ?_
 exact⟨A1,c1,rfl,hrow.mono (by simp only[bJ];omega),hbel⟩
def aQY (w:World) (b:Nat) (x0 x1 x2 x3:Value) (u:World):Prop:=nV u b x0 x1 x2 x3∧Four u b∧Four u (b+1)∧Below w.heap.size w u
theorem aQY.below {w:World} {b:Nat} {x0 x1 x2 x3:Value} {u v:World} (h:aQY w b x0 x1 x2 x3 u) (hb:Below u.heap.size u v):aQY w b x0 x1 x2 x3 v :=
 ⟨h.1.below hb,h.2.1.below hb,h.2.2.1.below hb,aA h.2.2.2.size h.2.2.2 hb⟩
end Go.Proofs.YthjeglnkgdpijaaGreatDoor
