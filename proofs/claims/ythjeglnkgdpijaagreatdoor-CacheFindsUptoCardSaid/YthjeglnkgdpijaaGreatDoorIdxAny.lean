/- The walk of bytes.IndexAny at a carriage return and a line feed. Conditions: a row of at most 2^31 bytes, not empty; the library's two tables of UTF-8 as its text lays them; internal/bytealg.MaxLen holds some number. -/
import Derived.Test.YthjeglnkgdpijaaGreatDoorZ17
set_option maxHeartbeats 8000000
set_option maxRecDepth 1000000
namespace Go.Proofs.YthjeglnkgdpijaaGreatDoor
open Go.RowKit
def aQ2 (w:World) (v:Int) (e:Ending) (w':World):Prop:=e=.returned (.int .i64 v)∧Below w.heap.size w w'
theorem aCR:(Tryz.prog.info? 285).map (fun i=>i.size)=some 256:=by kernel_rfl
theorem aD0 (w:World) :
  Calls Tryz.prog 236 #[.string ⟨#[13,10]⟩] w fun e w'=>e=.returned (.tuple #[.agg (Lib.setCells [13,10]),.bool true])∧w'=w.alloc (.cells (Lib.setCells [13,10]) 285):=by
 go_enter Tryz.func236,Tryz.ntmps236
 go_wp2_with fail
 go_loopw [4] (fun s4 wx=>∃ i:Nat,i≤2∧s4=.int .i64 i∧wx=w.alloc (.cells (Lib.setCells (([13,10]:List UInt8).take i)) 285)) (fun s4 _=>2 - (intOf s4).toNat)
 case atStart=>exact⟨0,by omega,rfl,by kernel_rfl⟩
 case round =>
  obtain⟨i,hi,rfl,rfl⟩:=hrel
  rcases (by omega:i=0∨i=1∨i=2) with rfl | rfl | rfl
  ·have e1:Lib.setCells (([13,10]:List UInt8).take 1)=(Lib.setCells (([13,10]:List UInt8).take 0)).setIfInBounds 13 (.bool true):=rfl
   have E1:=aH e1
   have hsz:=Lib.setCells_size (([13,10]:List UInt8).take 0)
   clear e1
   go_wp2
   go_roundw
   case rel=>exact⟨1,by omega,rfl,by rw[E1.out];rfl⟩
   case measure=>simp [intOf]
  ·have e1:Lib.setCells (([13,10]:List UInt8).take 2)=(Lib.setCells (([13,10]:List UInt8).take 1)).setIfInBounds 10 (.bool true):=rfl
   have E1:=aH e1
   have hsz:=Lib.setCells_size (([13,10]:List UInt8).take 1)
   clear e1
   go_wp2
   go_roundw
   case rel=>exact⟨2,by omega,rfl,by rw[E1.out];rfl⟩
   case measure=>simp [intOf]
  ·rw[show ([13,10]:List UInt8).take 2=[13,10] from rfl]
   have hi:=aCR
   have hsz:=Lib.setCells_size [13,10]
   have hld:=run_loadVar_new (P:=Tryz.prog) w 285 (Lib.setCells [13,10]) 256 4 Tryz.underlying285 (by rw[hsz];exact hi)
   have hlc:=run_loadCellsFrom_new (P:=Tryz.prog) w 285 (Lib.setCells [13,10]) 256 hsz
   have hsc:=run_storeCells_new (P:=Tryz.prog) w 285 (Lib.setCells [13,10]) (Lib.setCells [13,10]) (by rw[hsz];exact hi) rfl (Lib.setCells_one _)
   have HI:=aH hi
   have HLC:=aH hlc
   have HSC:=aH hsc
   have HLD:=aH hld
   have HSZ:=aH hsz
   clear hi hlc hsc hld hsz
   go_wp2
   refine wp_load_row 285 (.tmp 2) rfl w.heap.size rfl 285 (Lib.setCells [13,10]) (0,0) (.array 256 4) (heap_alloc_last w _) Tryz.underlying285 rfl (by rw[HSZ.out];exact HI.out) ?_
   have hsz:=HSZ.out
   go_wp2
   simp only[HSC.out,Result.andThen]
   rw[Oper.upon_skip]
   go_wp2
   refine bK (v:=.tuple #[.agg (Lib.setCells [13,10]),.bool true]) ?_ rfl ⟨rfl,rfl⟩
   rw[results_cell_tmp rfl]
   simp [asAddr,Result.andThen,HLD.out]
theorem kC (b:Nat) (x:UInt8) (v:Bool) (w:World) (hc:w.cell? ⟨b,x.toNat,none⟩=some (.bool v)) :
  Calls Tryz.prog 237 #[.pointer (some ⟨b,0,none⟩),.int .u8 x.toNat] w fun e w'=>e=.returned (.bool v)∧w=w':=by
 have hx256:(x.toNat:Int) < 256:=by have:=UInt8.toNat_lt x;omega
 go_enter Tryz.func237,Tryz.ntmps237
 go_wp2
 go_ret
 exact⟨rfl,rfl⟩
theorem aCA (x:UInt8):([13,10]:List UInt8).contains x=P.eol x:=by
 unfold P.eol
 simp only[List.contains_cons,List.contains_nil,Bool.or_false]
theorem mV (n:Int) (w:World):Calls Tryz.prog 235 #[.int .i64 n] w fun e w'=>e=.returned (.bool (decide (8 < n)))∧w=w':=by
 go_enter Tryz.func235,Tryz.ntmps235
 go_wp2
 go_ret
 exact⟨rfl,rfl⟩
def aHH (bs:List UInt8):Int:=if P.from_ P.eol bs=[] then -1 else (P.upto P.eol bs).length
theorem nH {bs:List UInt8} (h:∀ (j:Nat) (h:j < bs.length),P.eol bs[j]=false):aHH bs=-1:=by
 unfold aHH
 rw[if_pos]
 rw[P.aM7]
 intro x hx
 obtain⟨j,hj,rfl⟩:=List.getElem_of_mem hx
 exact h j hj
theorem zQ {bs:List UInt8} {k:Nat} (hk:k < bs.length) (h:∀ (j:Nat) (h:j < bs.length),j < k→P.eol bs[j]=false) (he:P.eol bs[k]=true):aHH bs=k:=by
 obtain⟨h1,h2⟩:=P.aO4 (p:=P.eol) (Nat.le_of_lt hk) h (fun _=>he)
 unfold aHH
 rw[if_neg,h1,List.length_take]
 ·congr 1
  omega
 ·rw[h2]
  intro hd
  have:=congrArg List.length hd
  rw[List.length_drop,List.length_nil]at this
  omega
theorem aD6 (A:Option Addr) (n c:Nat) (bs:List UInt8) (w:World) (hn:8 < n) (hnm:n≤2147483648) (hx:Rd w A n 1 (aB bs)) :
  Calls Tryz.prog 214 #[.slice A n c,.string ⟨#[13,10]⟩] w (aQ2 w (aHH bs)):=by
 have hl:bs.length=n:=by have:=hx.1;simpa [aB] using this
 obtain⟨b,o,rfl,hb,hc⟩:=hx.2 (by omega)
 have HCB:=aH (fun (u:World) (hu:Below w.heap.size w u) (j:Nat) (hj:j < bs.length)=>by
  have:=hc j (.int .u8 (bs[j]'hj).toNat) (by simp [aB,hj])
  exact (hu.cell (p:=⟨b,o+j,none⟩) hb).trans this)
 have hn1:((n:Int)==1)=false:=beq_eq_false_iff_ne.2 (by omega)
 have h8z:decide ((8:Int) < (n:Int))=true:=decide_eq_true (by omega)
 clear hx hc
 have hi:=aCR
 have hsz:=Lib.setCells_size [13,10]
 have HSC:Hid (∀ c0:Array Value,c0.size=256→(storeCells ⟨w.heap.size+1,0,none⟩ (Lib.setCells [13,10]).toList).run Tryz.prog ((w.alloc (.cells (Lib.setCells [13,10]) 285)).alloc (.cells c0 285))=.ok () ((w.alloc (.cells (Lib.setCells [13,10]) 285)).alloc (.cells (Lib.setCells [13,10]) 285))):=aH (fun c0 h0=>by
  have:=run_storeCells_new (P:=Tryz.prog) (w.alloc (.cells (Lib.setCells [13,10]) 285)) 285 c0 (Lib.setCells [13,10]) (by rw[hsz];exact hi) (by rw[hsz,h0]) (Lib.setCells_one _)
  rw[bJ]at this
  exact this)
 have HCT:Hid (∀ (x:UInt8),((w.alloc (.cells (Lib.setCells [13,10]) 285)).alloc (.cells (Lib.setCells [13,10]) 285)).cell? ⟨w.heap.size+1,x.toNat,none⟩=some (.bool (P.eol x))):=aH (fun x=>by
  rw[← aCA,World.cell?_alloc_at _ _ _ _ (by simp),Lib.setCells_at])
 have HBW:=aH (((zB w.heap.size w).alloc (zA _) (.cells (Lib.setCells [13,10]) 285)).alloc (by rw[bJ];omega) (.cells (Lib.setCells [13,10]) 285))
 clear hi
 have HSZ:=aH hsz
 clear hsz
 go_enter Tryz.func214,Tryz.ntmps214
 go_wp2_with fail
 refine (mV n _).mono ?_
 rintro e w' ⟨rfl,rfl⟩
 rw[h8z]
 go_wp2_with fail
 refine (aD0 _).mono ?_
 rintro e w' ⟨rfl,hw⟩
 subst hw
 have hsz:=HSZ.out
 go_wp2
 rw[HSC.out _ rfl]
 simp only[Result.andThen]
 rw[Oper.upon_skip]
 generalize (w.alloc (.cells (Lib.setCells [13,10]) 285)).alloc (.cells (Lib.setCells [13,10]) 285)=w2 at *
 clear hsz HSC
 go_wp2
 go_loop [62] (fun i=>∃ k:Nat,k≤n∧i=.int .i64 k∧∀ (j:Nat) (h:j < bs.length),j < k→P.eol bs[j]=false) (fun i=>n - (intOf i).toNat)
 case atStart=>exact⟨0,zF _,rfl,fun j _ h=>absurd h (by omega)⟩
 case round =>
  obtain⟨k,hk,rfl,hno⟩:=hrel
  have HNO:=aH hno
  clear hno
  by_cases hlt:k < n
  ·have hkl:k < bs.length:=by omega
   have hlti:(k:Int) < (n:Int):=by omega
   have hcell:=HCB.out w2 HBW.out k hkl
   have HC:=aH (HCT.out (bs[k]'hkl))
   obtain⟨x,hxx⟩:∃ x,bs[k]'hkl=x:=⟨_,rfl⟩
   rw[hxx]at hcell HC
   have HXX:=aH hxx
   have hx256:(x.toNat:Int) < 256:=by have:=UInt8.toNat_lt x;omega
   clear hxx
   rcases tf (P.eol x) with he | he
   ·rw[he]at HC
    have HE:=aH he
    clear he
    go_wp2_with fail
    refine (kC _ x _ _ HC.out).mono ?_
    rintro e w' ⟨rfl,rfl⟩
    go_wp2
    go_ret
    exact⟨lS (zQ hkl HNO.out (by rw[HXX.out];exact HE.out)).symm,HBW.out⟩
   ·rw[he]at HC
    have HE:=aH he
    clear he
    go_wp2_with fail
    refine (kC _ x _ _ HC.out).mono ?_
    rintro e w' ⟨rfl,rfl⟩
    go_wp2
    go_round
    case rel =>
     refine⟨k+1,by omega,by go_num,fun j h hj=>?_⟩
     by_cases hjk:j=k
     ·subst hjk;rw[HXX.out];exact HE.out
     ·exact HNO.out j h (by omega)
    case measure=>simp [intOf];omega
  ·have hkn:k=n:=by omega
   subst hkn
   have hlti:¬ (k:Int) < (k:Int):=by omega
   go_wp2
   go_ret
   exact⟨lS (nH (fun j h=>HNO.out j h (by omega))).symm,HBW.out⟩
theorem aOM (x:UInt8) (w:World):(callFunc 233 #[.string ⟨#[13,10]⟩,.int .u8 x.toNat]).run Tryz.prog w=.ok (.value (.int .i64 (Lib.indexByte [13,10] x))) w:=by
 rw[run_callFunc_extern Tryz.func233 (by kernel_rfl) (by kernel_rfl) (by kernel_rfl) (e:=Extern.BytealgIndexByte.indexByte) (by kernel_rfl),Lib.run_indexByteString]
 simp
theorem aB2 {x:UInt8} (h:P.eol x=false):Lib.indexByte [13,10] x=-1:=by
 unfold P.eol at h
 rw[Bool.or_eq_false_iff]at h
 have h1:((13:UInt8)==x)=false:=by rw[← h.1];exact Bool.beq_comm
 have h2:((10:UInt8)==x)=false:=by rw[← h.2];exact Bool.beq_comm
 simp [Lib.indexByte,h1,h2]
theorem xU {x:UInt8} (h:P.eol x=true):Lib.indexByte [13,10] x=0∨Lib.indexByte [13,10] x=1:=by
 unfold P.eol at h
 rw[Bool.or_eq_true]at h
 rcases h with h | h
 ·left
  have:x=13:=by simpa using h
  subst this
  rfl
 ·right
  have:x=10:=by simpa using h
  subst this
  rfl
theorem aFL {x:UInt8} (h:128≤x.toNat):P.eol x=false:=by
 unfold P.eol
 rw[Bool.or_eq_false_iff]
 constructor
 ·rw[beq_eq_false_iff_ne]
  rintro rfl
  exact absurd h (by decide)
 ·rw[beq_eq_false_iff_ne]
  rintro rfl
  exact absurd h (by decide)
theorem aCE (r:Nat) (h:128≤r) (hv:Utf8.valid (r:Int)=true):∃ (y:UInt8) (z:List UInt8),(Utf8.encode (r:Int)).data.toList=y::z∧128≤y.toNat∧(r < 2048→z.length=1)∧(2048≤r→r < 65536→z.length=2)∧(65536≤r→z.length=3):=by
 have hr:((r:Int)).toNat=r:=Int.toNat_natCast r
 unfold Utf8.encode
 simp only[hv,if_true,hr]
 have hup:r≤1114111:=by
  simp only[Utf8.valid,Bool.or_eq_true,Bool.and_eq_true,decide_eq_true_eq]at hv
  omega
 have hof:∀ m,m < 256→(UInt8.ofNat m).toNat=m:=fun m hm=>by rw[UInt8.toNat_ofNat'];omega
 rw[if_neg (by omega)]
 split
 ·refine⟨_,_,rfl,?_,fun _=>rfl,fun h1=>absurd h1 (by omega),fun h1=>absurd h1 (by omega)⟩
  rw[hof _ (by omega)];omega
 ·split
  ·refine⟨_,_,rfl,?_,fun h1=>absurd h1 (by omega),fun _ _=>rfl,fun h1=>absurd h1 (by omega)⟩
   rw[hof _ (by omega)];omega
  ·refine⟨_,_,rfl,?_,fun h1=>absurd h1 (by omega),fun h1 h2=>absurd h2 (by omega),fun _=>rfl⟩
   rw[hof _ (by omega)];omega
theorem aRV (r:Nat) (h:128≤r) (hv:Utf8.valid (r:Int)=true):¬ [13,10]=(Utf8.encode (r:Int)).toList:=by
 obtain⟨y,z,e,hy,_⟩:=aCE r h hv
 rw[ByteArray.toList_eq,e]
 intro h2
 injection h2 with h3
 subst h3
 exact absurd hy (by decide)
theorem ixStr (r:Nat) (h:2048≤r) (hv:Utf8.valid (r:Int)=true) (m:Int) (w:World) (hm:w.cell? ⟨0,0,none⟩=some (.int .i64 m)) (k:Nat) (hk:(r < 65536→k=3)∧(65536≤r→k=4)) (hkm:(k:Int)≤m) :
  (callFunc 207 #[.string ⟨#[13,10]⟩,.string (Utf8.encode (r:Int))]).run Tryz.prog w=.ok (.value (.int .i64 (-1))) w:=by
 obtain⟨y,z,e,hy,h1,h2,h3⟩:=aCE r (by omega) hv
 have hs:(Utf8.encode (r:Int)).size=k:=by
  have:(Utf8.encode (r:Int)).size=(Utf8.encode (r:Int)).data.toList.length:=Lib.size_eq _
  rw[this,e,List.length_cons]
  by_cases hr:r < 65536
  ·rw[h2 h hr,hk.1 hr]
  ·rw[h3 (by omega),hk.2 (by omega)]
 have hk3:3≤k:=by
  by_cases hr:r < 65536
  ·rw[hk.1 hr];decide
  ·rw[hk.2 (by omega)];decide
 rw[run_callFunc_extern Tryz.func207 (by kernel_rfl) (by kernel_rfl) (by kernel_rfl) (e:=Extern.BytealgIndex.index) (by kernel_rfl),
  Lib.run_indexString ⟨#[13,10]⟩ (Utf8.encode (r:Int)) w 0 m (by kernel_rfl) hm (by omega) (by omega) (by decide)]
 have hi:Lib.index [13,10] (Utf8.encode (r:Int)).data.toList=-1:=Lib.index_long (by rw[e,List.length_cons];simp only[List.length_cons,List.length_nil];have:=Lib.size_eq (Utf8.encode (r:Int));rw[e,List.length_cons,hs]at this;omega) (by
  intro h4
  rw[e]at h4
  injection h4 with h5
  subst h5
  exact absurd hy (by decide))
 simp only[Result.andThen]
 rw[hi]
theorem aKL (n x0 x1 x2 x3:Nat) (h0:128≤x0) (l0:x0 < 256) (l1:x1 < 256) (l2:x2 < 256) (l3:x3 < 256) :
  Lib.decodeN n x0 x1 x2 x3=(65533,1)∨∃ r k,Lib.decodeN n x0 x1 x2 x3=(r,k)∧((k=2∧1 < n∧128≤x1∧128≤r∧r < 2048)∨(k=3∧2 < n∧128≤x1∧128≤x2∧2048≤r∧r < 65536∧(r < 55296∨57344≤r))∨(k=4∧3 < n∧128≤x1∧128≤x2∧128≤x3∧65536≤r∧r≤1114111)):=by
 unfold Lib.decodeN
 rw[if_neg (by omega)]
 split
 ·split
  ·refine .inr ⟨_,_,rfl,.inl ⟨rfl,?_,?_,?_,?_⟩⟩<;>omega
  ·exact .inl rfl
 ·split
  ·split
   ·refine .inr ⟨_,_,rfl,.inr (.inl ⟨rfl,?_,?_,?_,?_,?_,?_⟩)⟩<;>omega
   ·exact .inl rfl
  ·split
   ·split
    ·refine .inr ⟨_,_,rfl,.inr (.inr ⟨rfl,?_,?_,?_,?_,?_,?_⟩)⟩<;>omega
    ·exact .inl rfl
   ·exact .inl rfl
theorem aHF (A:Option Addr) (c:Nat) (bs:List UInt8) (w:World) (hx:Rd w A 1 1 (aB bs)) :
  Calls Tryz.prog 214 #[.slice A 1 c,.string ⟨#[13,10]⟩] w (aQ2 w (aHH bs)):=by
 have hl:bs.length=1:=by have:=hx.1;simpa [aB] using this
 obtain⟨x,rfl⟩:∃ x,bs=[x]:=by
  match bs,hl with
  | [x],_=>exact⟨x,rfl⟩
 obtain⟨b,o,rfl,hb,hc⟩:=hx.2 (by omega)
 have hcell:w.cell? ⟨b,o,none⟩=some (.int .u8 x.toNat):=hc 0 _ rfl
 have hx256:(x.toNat:Int) < 256:=by have:=UInt8.toNat_lt x;omega
 clear hx hc hl
 by_cases h128:(128:Int)≤(x.toNat:Int)
 ·have h128':decide ((x.toNat:Int)≥128)=true:=by rw[decide_eq_true_eq];omega
  have HI:Hid (aHH [x]=-1):=aH (nH (fun j h=>by
   have:j=0:=by simpa using h
   subst this
   show P.eol x=false
   exact aFL (by omega)))
  have HN0:=aH (fun ty=>run_next_ascii (P:=Tryz.prog) w ⟨#[13,10]⟩ 0 ty (by decide) (by decide))
  have HN1:=aH (fun ty=>run_next_ascii (P:=Tryz.prog) w ⟨#[13,10]⟩ 1 ty (by decide) (by decide))
  have HN2:=aH (fun ty=>run_next_end (P:=Tryz.prog) w ⟨#[13,10]⟩ 2 ty (by decide))
  have HBI:=aH (fun (i:Nat)=>(show Below w.heap.size w (w.iter ⟨#[13,10]⟩ i) from (zB _ _).alloc (zA _) _))
  go_enter Tryz.func214,Tryz.ntmps214
  go_wp2
  go_loopg [5] 2 (fun g _ wx=>∃ i:Nat,i+g=2∧wx=w.iter ⟨#[13,10]⟩ i)
  case atStart=>exact⟨0,rfl,rfl⟩
  case round =>
   obtain⟨i,hig,rfl⟩:=hrel
   rcases (by omega:i=0∨i=1∨i=2) with rfl | rfl | rfl
   ·have hnx:=HN0.out
    obtain rfl:gk=2:=by omega
    go_wp2
    go_roundg 1
    case measure=>omega
    case rel=>exact⟨1,rfl,rfl⟩
   ·have hnx:=HN1.out
    obtain rfl:gk=1:=by omega
    go_wp2
    go_roundg 0
    case measure=>omega
    case rel=>exact⟨2,rfl,rfl⟩
   ·have hnx:=HN2.out
    go_wp2
    go_ret
    exact⟨lS HI.out.symm,HBI.out _⟩
 ·have h128':decide ((x.toNat:Int)≥128)=false:=by rw[decide_eq_false_iff_not];omega
  have hib:=aOM x
  rcases tf (P.eol x) with he | he
  ·have HI:Hid (aHH [x]=0):=aH (zQ (k:=0) (by simp) (fun j h hj=>absurd hj (by omega)) he)
   rcases xU he with hv | hv
   all_goals
    rw[hv]at hib
    clear he hv
    go_enter Tryz.func214,Tryz.ntmps214
    go_wp2
    go_ret
    exact⟨lS HI.out.symm,zB _ _⟩
  ·have HI:Hid (aHH [x]=-1):=aH (nH (fun j h=>by
    have:j=0:=by simpa using h
    subst this
    exact he))
   rw[aB2 he]at hib
   clear he
   go_enter Tryz.func214,Tryz.ntmps214
   go_wp2
   go_ret
   exact⟨lS HI.out.symm,zB _ _⟩
def lH (w:World):Prop:=Lib.Utf8Tabs 1 2 w∧∃ m,w.cell? ⟨0,0,none⟩=some (.int .i64 m)
theorem lH.below {w w':World} (h:lH w) (hb:Below w.heap.size w w'):lH w':=by
 obtain⟨h1,m,h2⟩:=h
 exact⟨Utf8Tabs_below h1 hb,m,(hb.cell (cell_lt h2)).trans h2⟩
theorem aB5 (A:Option Addr) (n c:Nat) (bs:List UInt8) (w:World) (hn1:1 < n) (hn8:n≤8) (hnc:n≤c) (hx:Rd w A n 1 (aB bs)) (ht:lH w) :
  Calls Tryz.prog 214 #[.slice A n c,.string ⟨#[13,10]⟩] w (aQ2 w (aHH bs)):=by
 have hl:bs.length=n:=by have:=hx.1;simpa [aB] using this
 obtain⟨b,o,rfl,hb,hc⟩:=hx.2 (by omega)
 have HCB:=aH (fun (u:World) (hu:Below w.heap.size w u) (j:Nat) (hj:j < bs.length)=>by
  have:=hc j (.int .u8 (bs[j]'hj).toNat) (by simp [aB,hj])
  exact (hu.cell (p:=⟨b,o+j,none⟩) hb).trans this)
 have HT:=aH (fun (u:World) (hu:Below w.heap.size w u)=>ht.below hu)
 have hne1:((n:Int)==1)=false:=beq_eq_false_iff_ne.2 (by omega)
 have h8z:decide ((8:Int) < (n:Int))=false:=decide_eq_false (by omega)
 clear hx hc ht
 go_enter Tryz.func214,Tryz.ntmps214
 go_wp2_with fail
 refine (mV n _).mono ?_
 rintro e w' ⟨rfl,rfl⟩
 rw[h8z]
 go_wp2_with fail
 go_loopw [12] (fun i wr=>∃ k:Nat,k≤n∧i=.int .i64 k∧(∀ (j:Nat) (h:j < bs.length),j < k→P.eol bs[j]=false)∧Below w.heap.size w wr) (fun i _=>n - (intOf i).toNat)
 case atStart=>exact⟨0,zF _,rfl,fun j _ h=>absurd h (by omega),zB _ _⟩
 case round =>
  obtain⟨k,hk,rfl,hno,hbel⟩:=hrel
  have HNO:=aH hno
  have HB:=aH hbel
  clear hno hbel
  by_cases hlt:k < n
  ·have hkl:k < bs.length:=by omega
   have hlti:(k:Int) < (n:Int):=by omega
   have hcell:=HCB.out wr HB.out k hkl
   obtain⟨x,hxx⟩:∃ x,bs[k]'hkl=x:=⟨_,rfl⟩
   rw[hxx]at hcell
   have HXX:=aH hxx
   have hx256:(x.toNat:Int) < 256:=by have:=UInt8.toNat_lt x;omega
   clear hxx
   by_cases h128:(128:Int)≤(x.toNat:Int)
   ·have hlt128:¬ (x.toNat:Int) < 128:=by omega
    have hy:∀ j,(bs.getD (k+j) 0).toNat < 256:=fun j=>UInt8.toNat_lt _
    have hy0:bs.getD (k+0) 0=x:=by rw[← HXX.out];simp [List.getD,hkl]
    have hyc:∀ j,k+j < n→wr.cell? ⟨b,o+k+j,none⟩=some (.int .u8 (bs.getD (k+j) 0).toNat):=fun j hj=>by
     have:=HCB.out wr HB.out (k+j) (by omega)
     rw[← Nat.add_assoc]at this
     rw[this]
     simp [List.getD,show k+j < bs.length by omega]
    have HDR:=aH (wF b (o+k) (n - k) (c - k) (bs.getD (k+0) 0).toNat (bs.getD (k+1) 0).toNat (bs.getD (k+2) 0).toNat (bs.getD (k+3) 0).toNat wr (by omega) (by omega) (hy 0) (hy 1) (hy 2) (hy 3) (by rw[hy0];omega) (hyc 0 (by omega)) (fun h=>hyc 1 (by omega)) (fun h=>hyc 2 (by omega)) (fun h=>hyc 3 (by omega)) (HT.out wr HB.out).1)
    obtain⟨r,kk,hd,hk1,hkn,hhigh,hrr⟩:∃ r kk:Nat,Lib.decodeN (n - k) (bs.getD (k+0) 0).toNat (bs.getD (k+1) 0).toNat (bs.getD (k+2) 0).toNat (bs.getD (k+3) 0).toNat=(r,kk)∧1≤kk∧k+kk≤n∧(∀ (j:Nat) (h:j < bs.length),k≤j→j < k+kk→128≤(bs[j]'h).toNat) ∧
      (r=65533∨(kk=2∧¬ [13,10]=(Utf8.encode (r:Int)).toList)∨(kk≠2∧2048≤r∧Utf8.valid (r:Int)=true∧(r < 65536→kk=3)∧(65536≤r→kk=4))):=by
     have hg:∀ (i j:Nat) (h:j < bs.length),j=k+i→(bs[j]'h)=bs.getD (k+i) 0:=fun i j h e=>by
      subst e
      simp [List.getD,h]
     rcases aKL (n - k) _ _ _ _ (by rw[hy0];omega) (hy 0) (hy 1) (hy 2) (hy 3) with hd | ⟨r,kk,hd,hf⟩
     ·refine⟨65533,1,hd,zA _,by omega,fun j h h1 h2=>?_,.inl rfl⟩
      rw[hg 0 j h (by omega),hy0]
      omega
     ·refine⟨r,kk,hd,?_⟩
      rcases hf with ⟨rfl,f1,f2,f3,f4⟩ | ⟨rfl,f1,f2,f3,f4,f5,f6⟩ | ⟨rfl,f1,f2,f3,f4,f5,f6⟩
      ·refine⟨by omega,by omega,fun j h h1 h2=>?_,.inr (.inl ⟨rfl,aRV r f3 (by simp only[Utf8.valid,Bool.or_eq_true,Bool.and_eq_true,decide_eq_true_eq];omega)⟩)⟩
       rcases (by omega:j=k+0∨j=k+1) with e | e
       ·rw[hg _ j h e,hy0];omega
       ·rw[hg _ j h e];exact f2
      ·refine⟨by omega,by omega,fun j h h1 h2=>?_,.inr (.inr ⟨by decide,f4,by simp only[Utf8.valid,Bool.or_eq_true,Bool.and_eq_true,decide_eq_true_eq];omega,fun _=>rfl,fun h=>absurd h (by omega)⟩)⟩
       rcases (by omega:j=k+0∨j=k+1∨j=k+2) with e | e | e
       ·rw[hg _ j h e,hy0];omega
       ·rw[hg _ j h e];exact f2
       ·rw[hg _ j h e];exact f3
      ·refine⟨by omega,by omega,fun j h h1 h2=>?_,.inr (.inr ⟨by decide,by omega,by simp only[Utf8.valid,Bool.or_eq_true,Bool.and_eq_true,decide_eq_true_eq];omega,fun h=>absurd h (by omega),fun _=>rfl⟩)⟩
       rcases (by omega:j=k+0∨j=k+1∨j=k+2∨j=k+3) with e | e | e | e
       ·rw[hg _ j h e,hy0];omega
       ·rw[hg _ j h e];exact f2
       ·rw[hg _ j h e];exact f3
       ·rw[hg _ j h e];exact f4
    rw[hd]at HDR
    have NEXT:Hid (∀ (j:Nat) (h:j < bs.length),j < k+kk→P.eol bs[j]=false):=aH (fun j h hj=>by
     by_cases hjk:j < k
     ·exact HNO.out j h hjk
     ·exact aFL (hhigh j h (by omega) hj))
    clear hd hhigh hy hyc hy0
    have hki:(k:Int)≤(n:Int):=by omega
    have hkc:(k:Int)≤(c:Int):=by omega
    have hkc':(k:Int) < (c:Int):=by omega
    go_wp2_with fail
    refine HDR.out.mono ?_
    rintro e w1 ⟨rfl,hb1⟩
    have HB1:=aH (aA HB.out.size HB.out hb1)
    clear HDR hb1 hcell
    rcases hrr with hr | ⟨hk2,hr⟩ | ⟨hk2,hr1,hr2,hr3,hr4⟩
    ·subst hr
     have HN0:Hid (∀ ty,(Instr.next (.pointer (some ⟨w1.heap.size,0,none⟩)) true ty).run Tryz.prog (w1.iter ⟨#[13,10]⟩ 0)=.ok (.tuple #[.bool true,.int .i64 0,.int .i32 13]) (w1.iter ⟨#[13,10]⟩ 1)):=aH (fun ty=>run_next_ascii (P:=Tryz.prog) w1 ⟨#[13,10]⟩ 0 ty (by decide) (by decide))
     have HN1:Hid (∀ ty,(Instr.next (.pointer (some ⟨w1.heap.size,0,none⟩)) true ty).run Tryz.prog (w1.iter ⟨#[13,10]⟩ 1)=.ok (.tuple #[.bool true,.int .i64 1,.int .i32 10]) (w1.iter ⟨#[13,10]⟩ 2)):=aH (fun ty=>run_next_ascii (P:=Tryz.prog) w1 ⟨#[13,10]⟩ 1 ty (by decide) (by decide))
     have HN2:=aH (fun ty=>run_next_end (P:=Tryz.prog) w1 ⟨#[13,10]⟩ 2 ty (by decide))
     have HBI:=aH (fun (i:Nat)=>(show Below w.heap.size w (w1.iter ⟨#[13,10]⟩ i) from HB1.out.alloc HB1.out.size _))
     go_wp2
     go_loopg [15] 2 (fun g _ wx=>∃ i:Nat,i+g=2∧wx=w1.iter ⟨#[13,10]⟩ i)
     case atStart=>exact⟨0,rfl,rfl⟩
     case round =>
      obtain⟨i,hig,rfl⟩:=hrel
      rcases (by omega:i=0∨i=1∨i=2) with rfl | rfl | rfl
      ·have hnx:=HN0.out
       obtain rfl:gk=2:=by omega
       go_wp2
       go_roundg 1
       case measure=>omega
       case rel=>exact⟨1,rfl,rfl⟩
      ·have hnx:=HN1.out
       obtain rfl:gk=1:=by omega
       go_wp2
       go_roundg 0
       case measure=>omega
       case rel=>exact⟨2,rfl,rfl⟩
      ·have hnx:=HN2.out
       go_wp2
       go_roundw
       case rel=>exact⟨k+kk,by omega,by go_num,NEXT.out,HBI.out _⟩
       case measure=>simp [intOf];omega
    ·by_cases hr3:r=65533
     ·subst hr3
      clear hr
      have HN0:Hid (∀ ty,(Instr.next (.pointer (some ⟨w1.heap.size,0,none⟩)) true ty).run Tryz.prog (w1.iter ⟨#[13,10]⟩ 0)=.ok (.tuple #[.bool true,.int .i64 0,.int .i32 13]) (w1.iter ⟨#[13,10]⟩ 1)):=aH (fun ty=>run_next_ascii (P:=Tryz.prog) w1 ⟨#[13,10]⟩ 0 ty (by decide) (by decide))
      have HN1:Hid (∀ ty,(Instr.next (.pointer (some ⟨w1.heap.size,0,none⟩)) true ty).run Tryz.prog (w1.iter ⟨#[13,10]⟩ 1)=.ok (.tuple #[.bool true,.int .i64 1,.int .i32 10]) (w1.iter ⟨#[13,10]⟩ 2)):=aH (fun ty=>run_next_ascii (P:=Tryz.prog) w1 ⟨#[13,10]⟩ 1 ty (by decide) (by decide))
      have HN2:=aH (fun ty=>run_next_end (P:=Tryz.prog) w1 ⟨#[13,10]⟩ 2 ty (by decide))
      have HBI:=aH (fun (i:Nat)=>(show Below w.heap.size w (w1.iter ⟨#[13,10]⟩ i) from HB1.out.alloc HB1.out.size _))
      go_wp2
      go_loopg [15] 2 (fun g _ wx=>∃ i:Nat,i+g=2∧wx=w1.iter ⟨#[13,10]⟩ i)
      case atStart=>exact⟨0,rfl,rfl⟩
      case round =>
       obtain⟨i,hig,rfl⟩:=hrel
       rcases (by omega:i=0∨i=1∨i=2) with rfl | rfl | rfl
       ·have hnx:=HN0.out
        obtain rfl:gk=2:=by omega
        go_wp2
        go_roundg 1
        case measure=>omega
        case rel=>exact⟨1,rfl,rfl⟩
       ·have hnx:=HN1.out
        obtain rfl:gk=1:=by omega
        go_wp2
        go_roundg 0
        case measure=>omega
        case rel=>exact⟨2,rfl,rfl⟩
       ·have hnx:=HN2.out
        go_wp2
        go_roundw
        case rel=>exact⟨k+kk,by omega,by go_num,NEXT.out,HBI.out _⟩
        case measure=>simp [intOf];omega
     ·have g1:((r:Int) != 65533)=true:=by simpa using (show ¬ (r:Int)=65533 by omega)
      have g2:¬ (r:Int)=65533:=by omega
      subst hk2
      have g3:([13,10]==(Utf8.encode (r:Int)).toList)=false:=by simpa using hr
      go_wp2
      go_roundw
      case rel=>exact⟨k+2,by omega,by go_num,NEXT.out,HB1.out⟩
      case measure=>simp [intOf];omega
    ·by_cases hr5:r=65533
     ·subst hr5
      clear hr1 hr2 hr3 hr4
      have HN0:Hid (∀ ty,(Instr.next (.pointer (some ⟨w1.heap.size,0,none⟩)) true ty).run Tryz.prog (w1.iter ⟨#[13,10]⟩ 0)=.ok (.tuple #[.bool true,.int .i64 0,.int .i32 13]) (w1.iter ⟨#[13,10]⟩ 1)):=aH (fun ty=>run_next_ascii (P:=Tryz.prog) w1 ⟨#[13,10]⟩ 0 ty (by decide) (by decide))
      have HN1:Hid (∀ ty,(Instr.next (.pointer (some ⟨w1.heap.size,0,none⟩)) true ty).run Tryz.prog (w1.iter ⟨#[13,10]⟩ 1)=.ok (.tuple #[.bool true,.int .i64 1,.int .i32 10]) (w1.iter ⟨#[13,10]⟩ 2)):=aH (fun ty=>run_next_ascii (P:=Tryz.prog) w1 ⟨#[13,10]⟩ 1 ty (by decide) (by decide))
      have HN2:=aH (fun ty=>run_next_end (P:=Tryz.prog) w1 ⟨#[13,10]⟩ 2 ty (by decide))
      have HBI:=aH (fun (i:Nat)=>(show Below w.heap.size w (w1.iter ⟨#[13,10]⟩ i) from HB1.out.alloc HB1.out.size _))
      go_wp2
      go_loopg [15] 2 (fun g _ wx=>∃ i:Nat,i+g=2∧wx=w1.iter ⟨#[13,10]⟩ i)
      case atStart=>exact⟨0,rfl,rfl⟩
      case round =>
       obtain⟨i,hig,rfl⟩:=hrel
       rcases (by omega:i=0∨i=1∨i=2) with rfl | rfl | rfl
       ·have hnx:=HN0.out
        obtain rfl:gk=2:=by omega
        go_wp2
        go_roundg 1
        case measure=>omega
        case rel=>exact⟨1,rfl,rfl⟩
       ·have hnx:=HN1.out
        obtain rfl:gk=1:=by omega
        go_wp2
        go_roundg 0
        case measure=>omega
        case rel=>exact⟨2,rfl,rfl⟩
       ·have hnx:=HN2.out
        go_wp2
        go_roundw
        case rel=>exact⟨k+kk,by omega,by go_num,NEXT.out,HBI.out _⟩
        case measure=>simp [intOf];omega
     ·have g1:((r:Int) != 65533)=true:=by simpa using (show ¬ (r:Int)=65533 by omega)
      have g2:¬ (r:Int)=65533:=by omega
      have g4:((2:Int)==(kk:Int))=false:=by simpa using (show ¬ (2:Int)=(kk:Int) by omega)
      have g5:¬ (2:Int)=(kk:Int):=by omega
      obtain⟨m,hm⟩:=(HT.out w1 HB1.out).2
      by_cases hkm:(kk:Int)≤m
      ·have g6:decide (m≥(kk:Int))=true:=by rw[decide_eq_true_eq];omega
       have his:=ixStr r hr1 hr2 m w1 hm kk ⟨hr3,hr4⟩ hkm
       clear hr1 hr2 hr3 hr4
       go_wp2
       go_roundw
       case rel=>exact⟨k+kk,by omega,by go_num,NEXT.out,HB1.out⟩
       case measure=>simp [intOf];omega
      ·have g6:decide (m≥(kk:Int))=false:=by rw[decide_eq_false_iff_not];omega
       have g7:((r:Int)==13)=false:=by simpa using (show ¬ (r:Int)=13 by omega)
       have g8:((r:Int)==10)=false:=by simpa using (show ¬ (r:Int)=10 by omega)
       have g9:¬ (r:Int)=13:=by omega
       have g10:¬ (r:Int)=10:=by omega
       have g11:((r:Int)==(((⟨#[13,10]⟩:ByteArray)[0]'(by decide)).toNat:Int))=false:=g7
       have g12:((r:Int)==(((⟨#[13,10]⟩:ByteArray)[1]'(by decide)).toNat:Int))=false:=g8
       have g13:¬ (r:Int)=(((⟨#[13,10]⟩:ByteArray)[0]'(by decide)).toNat:Int):=g9
       have g14:¬ (r:Int)=(((⟨#[13,10]⟩:ByteArray)[1]'(by decide)).toNat:Int):=g10
       clear hr1 hr2 hr3 hr4
       have HN0:Hid (∀ ty,(Instr.next (.pointer (some ⟨w1.heap.size,0,none⟩)) true ty).run Tryz.prog (w1.iter ⟨#[13,10]⟩ 0)=.ok (.tuple #[.bool true,.int .i64 0,.int .i32 13]) (w1.iter ⟨#[13,10]⟩ 1)):=aH (fun ty=>run_next_ascii (P:=Tryz.prog) w1 ⟨#[13,10]⟩ 0 ty (by decide) (by decide))
       have HN1:Hid (∀ ty,(Instr.next (.pointer (some ⟨w1.heap.size,0,none⟩)) true ty).run Tryz.prog (w1.iter ⟨#[13,10]⟩ 1)=.ok (.tuple #[.bool true,.int .i64 1,.int .i32 10]) (w1.iter ⟨#[13,10]⟩ 2)):=aH (fun ty=>run_next_ascii (P:=Tryz.prog) w1 ⟨#[13,10]⟩ 1 ty (by decide) (by decide))
       have HN2:=aH (fun ty=>run_next_end (P:=Tryz.prog) w1 ⟨#[13,10]⟩ 2 ty (by decide))
       have HBI:=aH (fun (i:Nat)=>(show Below w.heap.size w (w1.iter ⟨#[13,10]⟩ i) from HB1.out.alloc HB1.out.size _))
       go_wp2
       go_loopg [15] 2 (fun g _ wx=>∃ i:Nat,i+g=2∧wx=w1.iter ⟨#[13,10]⟩ i)
       case atStart=>exact⟨0,rfl,rfl⟩
       case round =>
        obtain⟨i,hig,rfl⟩:=hrel
        rcases (by omega:i=0∨i=1∨i=2) with rfl | rfl | rfl
        ·have hnx:=HN0.out
         obtain rfl:gk=2:=by omega
         go_wp2
         go_roundg 1
         case measure=>omega
         case rel=>exact⟨1,rfl,rfl⟩
        ·have hnx:=HN1.out
         obtain rfl:gk=1:=by omega
         go_wp2
         go_roundg 0
         case measure=>omega
         case rel=>exact⟨2,rfl,rfl⟩
        ·have hnx:=HN2.out
         go_wp2
         go_roundw
         case rel=>exact⟨k+kk,by omega,by go_num,NEXT.out,HBI.out _⟩
         case measure=>simp [intOf];omega
   ·have hlt128:(x.toNat:Int) < 128:=by omega
    have hib:=aOM x wr
    rcases tf (P.eol x) with he | he
    ·have HE:=aH he
     have HI:Hid (aHH bs=k):=aH (zQ hkl HNO.out (by rw[HXX.out];exact he))
     rcases xU he with hv | hv
     all_goals
      rw[hv]at hib
      clear he hv
      go_wp2
      go_ret
      exact⟨lS HI.out.symm,HB.out⟩
    ·have HE:=aH he
     rw[aB2 he]at hib
     clear he
     go_wp2
     go_roundw
     case rel =>
      refine⟨k+1,by omega,by go_num,fun j h hj=>?_,HB.out⟩
      by_cases hjk:j=k
      ·subst hjk;rw[HXX.out];exact HE.out
      ·exact HNO.out j h (by omega)
     case measure=>simp [intOf];omega
  ·have hkn:k=n:=by omega
   subst hkn
   have hlti:¬ (k:Int) < (k:Int):=by omega
   go_wp2
   go_ret
   exact⟨lS (nH (fun j h=>HNO.out j h (by omega))).symm,HB.out⟩
theorem aHG (A:Option Addr) (n c:Nat) (bs:List UInt8) (w:World) (hn1:0 < n) (hnc:n≤c) (hnm:n≤2147483648) (hx:Rd w A n 1 (aB bs)) (ht:lH w) :
  Calls Tryz.prog 214 #[.slice A n c,.string ⟨#[13,10]⟩] w (aQ2 w (aHH bs)):=by
 by_cases h1:n=1
 ·subst h1
  exact aHF A c bs w hx
 ·by_cases h8:n≤8
  ·exact aB5 A n c bs w (by omega) h8 hnc hx ht
  ·exact aD6 A n c bs w (by omega) hnm hx
end Go.Proofs.YthjeglnkgdpijaaGreatDoor
