/- A map from names to files in memory, told by a rising list of names and numbers. No condition: plain lemmas over the kit's words on maps. What every proof of a row with the listed tables shares: the post out of 'Below', the table out of the row's list, the world of the witness. No condition: plain lemmas. Out of the row's list and the shaped world: the two tables of UTF-8, internal/bytealg.MaxLen. No condition: plain lemmas. strconv.Atoi from whatever text, with its two error variables out of the row's list; strings.Trim at the ten digits. Conditions: a text of at most 2^31 bytes; the two variables hold errors. strconv.ParseUint at base 16 and 32 bits, a text of at most eight bytes: the number, or an error. The walks of bytes.IndexByte, bytes.HasSuffix and bytes.Cut at a semicolon; of chunk.size. The walk of the decoder's readSize. The walk of the decoder's readData. The walk of the document's Encode (layer 12). Conditions: texts of at most 2^30 bytes, a list of fields of bulk at most 2^30. The walks of CopyResponse and hop.Response. Conditions: a list of bulk at most 2^30, texts of at most 2^30 bytes, a number of 64 bits, the library's table of powers of ten. The walks of hop.Ask and of the document's. Conditions: a list of bulk at most 2^20, texts and bodies of at most 2^20 bytes, a number of 64 bits, the library's table of powers of ten. The walk of the document's Ask. Conditions: a list of bulk at most 2^20, texts and bodies of at most 2^20 bytes, a number of 64 bits, the library's table of powers of ten. The walk of the law HopAsks. Conditions: a list of bulk at most 2^20, texts and bodies of at most 2^20 bytes, a number of 64 bits, the library's table of powers of ten. The walks of the law ObjectEncodes: alive, CopyEntry, SameEntry. Conditions: texts and lists of at most 2^30 bytes, the library's table of powers of ten. -/
import Derived.Maps.OwnSet
import Derived.Maps.OwnOps
import Derived.Maps.Range
import Derived.Maps.RangeWalk
import Derived.Sort.KeysCollected
import Derived.ProofKit
import Derived.OpenShut
import Derived.JoinedCond
import Derived.Deep.DeepHandedRow
import Derived.Lib.LaidTab
import Derived.LaidSub
import Derived.Lay
import Derived.Lib.LaidU8
import Derived.Stop.LaidErr
import Derived.LaidLaws
import Derived.Lib.AtoiAllMem
import Derived.Test.YthjeglnkgdpijaaGreatDoorZ25
import Derived.Lib.ItoaLen
import Derived.Test.YthjeglnkgdpijaaGreatDoorZ19
import Derived.Outline
import Derived.IntWalk
set_option maxHeartbeats 2000000
set_option maxRecDepth 100000
namespace Go.Proofs.YthjeglnkgdpijaaGreatDoor
open Go Go.RowKit Go.Maps
namespace D
theorem before_lt:∀ a b:List UInt8,bytesBefore a b=decide (a < b)
 | [],[]=>by simp [bytesBefore]
 | [],_::_=>by simp [bytesBefore]
 | _::_,[]=>by simp [bytesBefore]
 | a::r,b::s=>by
  unfold bytesBefore
  rw[before_lt r s,Bool.eq_iff_iff]
  simp only[Bool.or_eq_true,decide_eq_true_eq,Bool.and_eq_true,beq_iff_eq,List.cons_lt_cons_iff]
theorem ltB_before (a b:ByteArray):bytesBefore (L a) (L b)=ltB a b:=before_lt _ _
def ptrR:Value→Option (DataW Unit × List MemPlace)
 | .pointer (some ⟨b,0,none⟩)=>some (.lit (.int .i64 b),[])
 | .pointer none=>some (.nil,[])
 | _=>none
theorem ptrR_inv {v:Value} {b:Nat} {ps:List MemPlace} (h:ptrR v=some (.lit (.int .i64 b),ps)):v=.pointer (some ⟨b,0,none⟩):=by
 unfold ptrR at h
 split at h
 ·simp only[Option.some.injEq,Prod.mk.injEq,DataW.lit.injEq,Lit.int.injEq,true_and]at h
  have:(_:Nat)=b:=Int.ofNat.inj h.1
  rw[this]
 ·cases h
 ·cases h
theorem ptrR_nil {v:Value} {ps:List MemPlace} (h:ptrR v=some (.nil,ps)):v=.pointer none:=by
 unfold ptrR at h
 split at h
 ·cases h
 ·rfl
 ·cases h
def key (nm:ByteArray):Lit:=.string (L nm)
def ent (fa:Nat→Nat) (p:ByteArray × Nat):Lit × DataW Unit:=(key p.1,.lit (.int .i64 (fa p.2)))
def datum (fa:Nat→Nat) (l:NM):DataW Unit:=.map (l.map (ent fa))
theorem same_key (a b:ByteArray):(key a).sameKey (key b)=decide (a=b):=by
 unfold key Lit.sameKey
 rw[Bool.eq_iff_iff]
 simp only[beq_iff_eq,decide_eq_true_eq]
 exact⟨L_inj,fun h=>by rw[h]⟩
theorem datum_del (fa:Nat→Nat) (l:NM) (nm:ByteArray):(datum fa l).del (key nm)=datum fa (del l nm):=by
 unfold datum DataW.del D.del
 dsimp only
 congr 1
 rw[List.filter_map]
 congr 1
 apply List.filter_congr
 intro p _
 show (!((ent fa p).1.sameKey (key nm)))=_
 unfold ent
 dsimp only
 rw[same_key]
 simp
theorem insert_map (fa:Nat→Nat) (nm:ByteArray) (no:Nat):∀ l:NM,DataW.insert (ent fa (nm,no)) (l.map (ent fa))=(ins l nm no).map (ent fa)
 | []=>rfl
 | p::r=>by
  have e:(ent fa (nm,no)).1.before (ent fa p).1=ltB nm p.1:=ltB_before _ _
  rw[List.map_cons]
  unfold DataW.insert ins
  rw[e]
  split
  ·rfl
  ·rw[List.map_cons,insert_map fa nm no r]
theorem datum_put (fa:Nat→Nat) (l:NM) (nm:ByteArray) (no:Nat):(datum fa l).put (key nm) (.lit (.int .i64 (fa no)))=datum fa (put l nm no):=by
 have h:=datum_del fa l nm
 unfold datum DataW.del at h
 dsimp only at h
 have h2:(l.map (ent fa)).filter (fun p=>!p.1.sameKey (key nm))=(del l nm).map (ent fa):=by injection h
 unfold datum DataW.put
 dsimp only
 rw[h2]
 exact congrArg DataW.map (insert_map fa nm no (del l nm))
theorem datum_at (fa:Nat→Nat) (l:NM) (nm:ByteArray) (z:DataW Unit):(datum fa l).atKey (key nm) z=match find l nm with | some no=>.lit (.int .i64 (fa no)) | none=>z:=by
 unfold datum DataW.atKey find
 dsimp only
 induction l with
 | nil=>rfl
 | cons p r ih =>
  rw[List.map_cons,List.find?_cons,List.find?_cons]
  have e:(ent fa p).1.sameKey (key nm)=decide (p.1=nm):=same_key _ _
  rw[e]
  cases h:decide (p.1=nm) with
  | true=>rfl
  | false=>exact ih
theorem keys_datum (fa:Nat→Nat) (l:NM):Go.strKeys (datum fa l)=l.map fun p=>L p.1:=by
 unfold datum Go.strKeys
 dsimp only
 rw[List.map_map]
 rfl
theorem keys_sorted {fa:Nat→Nat} {l:NM} (h:Up l) {ss:List (List UInt8)} (hp:ss.Perm (Go.strKeys (datum fa l))):ss.mergeSort (fun x y=>decide (x≤y))=l.map fun p=>L p.1:=by
 rw[keys_datum]at hp
 have h1:ss.mergeSort (fun x y=>decide (x≤y))=(l.map fun p=>L p.1).mergeSort (fun x y=>decide (x≤y)):=Go.mergeSort_of_perm hp
 rw[h1]
 apply List.mergeSort_of_pairwise
 rw[List.pairwise_map]
 refine h.imp fun {a b} hab=>?_
 exact decide_eq_true (List.le_of_lt (of_decide_eq_true hab))
end D
end Go.Proofs.YthjeglnkgdpijaaGreatDoor
namespace Go.Proofs.YthjeglnkgdpijaaGreatDoor
open Go.ChangeShapes Go.WideShapes Go.ChangeAt Go.RowKit
section
variable {H:Type} {enc:TypeId × Value→H} {P:Program}
theorem post_of_below {f:Func} {s:ChangeSpec} {apart fresh handsOn again:Bool} {W W':World} {args:Array Value} {v:Value} {ds gs:List (DataW H)} {before pa pv:List MemPlace}
  (hW:DataW.Whole enc P f.params.toList s.vars apart W args.toList ds gs before)
  (hres:∀ (b:Nat) (sp:Nat→Bool) (hd:Bool),DataW.TrodAll enc P W' b sp hd f.resultTypes.toList (v.resultList f.resultTypes.size) (s.fn H (ds++gs)).results [])
  (hargs:∀ sp:Nat→Bool,(∀ p∈before,sp p.block=true)→DataW.TrodAll enc P W' 0 sp true f.params.toList args.toList (s.fn H (ds++gs)).args pa)
  (hvars:∀ sp:Nat→Bool,(∀ p∈before,sp p.block=true)→DataW.TrodVars enc P W' sp s.vars (s.fn H (ds++gs)).vars pv)
  (hps:before=pa++pv) (hb:Below W.heap.size W W')
  (hok:∀ (j:Nat) (t:TypeId) (r:Value),f.resultTypes[j]?=some t→(v.resultList f.resultTypes.size)[j]?=some r→Value.okWide P W' .any 0 t r) :
  s.post enc P f apart fresh handsOn again W args v W':=by
 have hlt:∀ p∈before,p.block < W.heap.size:=fun p hp=>hW.lt p hp
 have hold:∀ p∈before,(fun b=>decide (b < W.heap.size)) p.block=true:=fun p hp=>by simpa using hlt p hp
 refine⟨ds,gs,before,[],pa,pv,hW,hres _ _ _,hargs _ hold,hvars _ hold,World.keptBut_mono (fun p hp=>⟨hp,?_⟩) (hb.frame (·∈before)),fun _=>?_⟩
 ·rw[hps,List.mem_append]at hp
  exact Or.inr hp
 ·obtain⟨_,_,_,_,_,hz,hn⟩:=hW
  refine⟨hok,_,_,([]++pa)++pv,⟨[]++pa,pv,trodAll_append (hargs _ (fun _ _=>rfl)) (hres _ _ _),hvars _ (fun _ _=>rfl),rfl,?_,?_⟩,?_⟩
  ·intro b off hp
   have hin:MemPlace.cell b off∈before:=by rw[hps];simpa using hp
   rw[hb.frozen (hlt _ hin)]
   exact hz b off hin
  ·intro ha
   have:=hn ha
   rw[hps]at this
   simpa using this
  ·intro p hp _
   rw[hps]
   simpa using hp
end
theorem own_:ownKnob Tryz.prog.godebug=none:=by kernel_rfl
theorem tab_g:Tryz.prog.globalNamed "internal/strconv.uint64pow10"=some 4:=by kernel_rfl
theorem tab_t:(Tryz.prog.globals[4]?).map (·.type)=some 291:=by kernel_rfl
theorem tab_n:Tryz.prog.cellsOf 291=20:=by kernel_rfl
theorem tab_e:Tryz.prog.cellsOf 211=1:=by kernel_rfl
theorem tab_ul:Tryz.prog.underlying 291=some (.array 20 211):=by kernel_rfl
theorem tab_ue:Tryz.prog.underlying 211=some (.int .u64):=by kernel_rfl
theorem tab_of {W:World} {laid:List (String × DataW Unit)} (h:laidMetH Tryz.prog laid W)
  (hm:laid.filter (fun x=>x.1== "internal/strconv.uint64pow10")=[("internal/strconv.uint64pow10",Rows.laid_internal_strconv_uint64pow10)]):TabOk W:=by
 have h1:=h.filter (fun x=>x.1== "internal/strconv.uint64pow10")
 rw[hm]at h1
 exact Lib.tabIs_of_head (rest:=[]) tab_g tab_t tab_ul tab_ue tab_e tab_n h1
theorem int_bounds {a:Int} (h:(Lit.int .i64 a).wf=true):-9223372036854775808≤a∧a≤9223372036854775807:=by
 unfold Lit.wf at h
 rw[Bool.and_eq_true,decide_eq_true_eq,decide_eq_true_eq]at h
 exact h
end Go.Proofs.YthjeglnkgdpijaaGreatDoor
namespace Go.Proofs.YthjeglnkgdpijaaGreatDoor
open Go.Lib
theorem first_eq:Rows.laid_unicode_utf8_first=firstData:=by kernel_rfl
theorem accept_eq:(Rows.laid_unicode_utf8_acceptRanges:DataW Unit)=acceptData:=by kernel_rfl
theorem u8_extra:U8Extra Tryz.prog Tryz.lays260_ren :=
 ⟨by kernel_rfl,by kernel_rfl,by kernel_rfl,by kernel_rfl,by kernel_rfl,by kernel_rfl,by kernel_rfl⟩
theorem u8_of {W:World} {laid:List (String × DataW Unit)} (h:laidMetH Tryz.prog laid W)
  (hm:laid.filter (fun x=>x.1== "unicode/utf8.acceptRanges"||x.1== "unicode/utf8.first")=[("unicode/utf8.acceptRanges",Rows.laid_unicode_utf8_acceptRanges),("unicode/utf8.first",Rows.laid_unicode_utf8_first)]) :
  Lib.Utf8Tabs 1 2 W:=by
 have h1:=h.filter (fun x=>x.1== "unicode/utf8.acceptRanges"||x.1== "unicode/utf8.first")
 rw[hm]at h1
 have h2:laidMet Tryz.prog [("unicode/utf8.acceptRanges",Rows.laid_unicode_utf8_acceptRanges),("unicode/utf8.first",Rows.laid_unicode_utf8_first)] W:=h1
 exact utf8Tabs_of_reads Tryz.lays260 u8_extra (first_eq ▸ laidMet.reads h2 (by simp)) (accept_eq ▸ laidMet.reads h2 (by simp))
theorem lib_of {W:World} {laid:List (String × DataW Unit)} (h:laidMetH Tryz.prog laid W) (hs:W.ShapedOpen Tryz.prog)
  (hm:laid.filter (fun x=>x.1== "unicode/utf8.acceptRanges"||x.1== "unicode/utf8.first")=[("unicode/utf8.acceptRanges",Rows.laid_unicode_utf8_acceptRanges),("unicode/utf8.first",Rows.laid_unicode_utf8_first)]):LibOk W :=
 ⟨u8_of h hm,Tryz.laysM145.s1_3 W hs⟩
end Go.Proofs.YthjeglnkgdpijaaGreatDoor
namespace Go.Proofs.YthjeglnkgdpijaaGreatDoor
open Go.RowKit
def ErrOk (w:World):Prop:=(∃ t p,w.cell? ⟨5,0,none⟩=some (.iface t p))∧∃ t p,w.cell? ⟨6,0,none⟩=some (.iface t p)
theorem ErrOk.below {w w':World} (h:ErrOk w) (hb:Below w.heap.size w w'):ErrOk w':=by
 obtain⟨⟨t,p,h1⟩,t2,p2,h2⟩:=h
 exact⟨⟨t,p,(hb.cell (p:=⟨5,0,none⟩) (cell_lt h1)).trans h1⟩,t2,p2,(hb.cell (p:=⟨6,0,none⟩) (cell_lt h2)).trans h2⟩
theorem star_es: "*"++ "errors.errorString"= "*errors.errorString":=by decide
theorem row_es (u:TypeId) (h:Tryz.prog.typeName? 3 u=some "*errors.errorString"):u=304 :=
 typeName_ptr_named (nm:= "errors.errorString") (by rw[star_es];kernel_rfl) (by kernel_rfl) (by decide) u (by rw[star_es];exact h)
theorem gS:Tryz.prog.globalNamed "strconv.ErrSyntax"=some 5:=by kernel_rfl
theorem gST:(Tryz.prog.globals[5]?).map (·.type)=some 142:=by kernel_rfl
theorem gR:Tryz.prog.globalNamed "strconv.ErrRange"=some 6:=by kernel_rfl
theorem gRT:(Tryz.prog.globals[6]?).map (·.type)=some 142:=by kernel_rfl
theorem cells_es:Tryz.prog.cellsOf 306=1:=by kernel_rfl
theorem cells_st:Tryz.prog.cellsOf 9=1:=by kernel_rfl
theorem err_of {W:World} {laid:List (String × DataW Unit)} (h:laidMetH Tryz.prog laid W)
  (hm1:laid.filter (fun x=>x.1== "strconv.ErrSyntax")=[("strconv.ErrSyntax",Rows.laid_strconv_ErrSyntax)]) (hm2:laid.filter (fun x=>x.1== "strconv.ErrRange")=[("strconv.ErrRange",Rows.laid_strconv_ErrRange)]):ErrOk W:=by
 have h1:=h.filter (fun x=>x.1== "strconv.ErrSyntax")
 have h2:=h.filter (fun x=>x.1== "strconv.ErrRange")
 rw[hm1]at h1
 rw[hm2]at h2
 obtain⟨a0,s0,hv0,_⟩:=laid_sentinel (r:=[]) h1 gS gST Tryz.underlying142 row_es Tryz.underlying304 Tryz.underlying306 rfl rfl Tryz.underlying9 cells_es cells_st
 obtain⟨a1,s1,hv1,_⟩:=laid_sentinel (r:=[]) h2 gR gRT Tryz.underlying142 row_es Tryz.underlying304 Tryz.underlying306 rfl rfl Tryz.underlying9 cells_es cells_st
 exact⟨⟨_,_,by have h0:=World.var?_cell gS hv0 0;simpa using h0⟩,_,_,by have h0:=World.var?_cell gR hv1 0;simpa using h0⟩
def RetA (w:World) (l:List UInt8) (e:Ending) (w':World):Prop :=
 ∃ v b,e=.returned (.tuple #[.int .i64 v,b])∧((b=.nilIface∧Lib.atoiAll l=.ok v)∨((∃ t p,b=.iface t (.pointer p))∧∀ u,Lib.atoiAll l≠.ok u))∧Below w.heap.size w w'
theorem atoi_any (s:ByteArray) (w:World) (hs:s.size≤2147483648) (h:ErrOk w):Calls Tryz.prog 194 #[.string s] w (RetA w (L s)):=by
 obtain⟨⟨t1,p1,h1⟩,t2,p2,h2⟩:=h
 cases ha:Lib.atoiAll s.data.toList
 case ok v =>
  refine (Tryz.strconv_Atoi_ok s (by omega) v ha w).mono ?_
  rintro e w' ⟨rfl,hw⟩
  refine⟨v,_,rfl,.inl ⟨rfl,ha⟩,?_⟩
  rcases hw with rfl | ⟨t,rfl⟩
  ·exact Below.refl _ _
  ·exact Lib.bytesWorld_below _ _ _
 case range =>
  refine (Tryz.strconv_Atoi_range s (by omega) ha _ w h2 (.inr ⟨_,_,rfl⟩)).mono ?_
  rintro e w' ⟨N,rfl,_,_,hb⟩
  exact⟨_,_,rfl,.inr ⟨⟨_,_,rfl⟩,fun u hu=>by rw[show L s=s.data.toList from rfl,ha]at hu;cases hu⟩,hb⟩
 ·refine (Any.strconv_Atoi_syntax Tryz.laysC172 s (by omega) ha _ w h1 (.inr ⟨_,_,rfl⟩)).mono ?_
  rintro e w' ⟨N,rfl,_,_,hb⟩
  exact⟨_,_,rfl,.inr ⟨⟨_,_,rfl⟩,fun u hu=>by rw[show L s=s.data.toList from rfl,ha]at hu;cases hu⟩,hb⟩
def digs:List UInt8:=[48,49,50,51,52,53,54,55,56,57]
theorem dig_digs (c:UInt8):P.dig c=digs.contains c:=by
 have:∀ n:Fin 256,P.dig (UInt8.ofNat n.1)=digs.contains (UInt8.ofNat n.1):=by decide +kernel
 have h:=this ⟨c.toNat,c.toNat_lt⟩
 simpa using h
theorem drop_nil {p:UInt8→Bool}:∀ {l:List UInt8},l.dropWhile p=[]↔∀ x∈l,p x=true
 | []=>by simp
 | x::l=>by
  cases hx:p x
  ·simp [hx]
  ·simp [hx,drop_nil (l:=l)]
theorem trim_digs (l:List UInt8):Lib.trimS l digs=[]↔l.all P.dig=true:=by
 have e:P.dig=fun c=>digs.contains c:=funext dig_digs
 unfold Lib.trimS Lib.trimLeftS Lib.trimRightS
 rw[← e,List.all_eq_true]
 constructor
 ·intro h
  rw[drop_nil]at h
  have h2:l.reverse.dropWhile P.dig=[]:=by
   cases h3:l.reverse.dropWhile P.dig with
   | nil=>rfl
   | cons x r =>
    have h4:=List.head_dropWhile_not P.dig (l:=l.reverse) (by rw[h3];simp)
    simp only[h3,List.head_cons]at h4
    have h5:=h x (by rw[h3];simp)
    rw[h4]at h5
    cases h5
  rw[drop_nil]at h2
  exact fun x hx=>h2 x (by simpa using hx)
 ·intro h
  have h2:l.reverse.dropWhile P.dig=[]:=by
   rw[drop_nil]
   exact fun x hx=>h x (by simpa using hx)
  rw[h2]
  rfl
theorem digTrim (s:ByteArray) (w:World) (hs:s.size≤1099511627776):Calls Tryz.prog 88 #[.string s,.string ⟨#[48,49,50,51,52,53,54,55,56,57]⟩] w (RetS w (B (Lib.trimS (L s) digs))):=by
 refine (Any.strings_Trim_laid Tryz.lays160 (by kernel_rfl) s ⟨#[48,49,50,51,52,53,54,55,56,57]⟩ w (by omega) (by decide) (ascii_of_all (by decide))).mono ?_
 rintro e w' ⟨rfl,hb⟩
 exact⟨rfl,hb⟩
theorem three_digits:∀ a b c:Fin 10,(match Lib.atoiAll [UInt8.ofNat (48+a.1),UInt8.ofNat (48+b.1),UInt8.ofNat (48+c.1)] with | .ok v=>decide (v=P.stat [UInt8.ofNat (48+a.1),UInt8.ofNat (48+b.1),UInt8.ofNat (48+c.1)]) | _=>false)=true:=by decide +kernel
theorem dig_of {c:UInt8} (h:P.dig c=true):∃ a:Fin 10,c=UInt8.ofNat (48+a.1):=by
 unfold P.dig at h
 rw[Bool.and_eq_true,decide_eq_true_eq,decide_eq_true_eq]at h
 refine⟨⟨c.toNat - 48,by omega⟩,?_⟩
 apply UInt8.toNat_inj.1
 rw[UInt8.toNat_ofNat']
 have:=c.toNat_lt
 show c.toNat=(48+(c.toNat - 48)) % 256
 omega
theorem atoi_code {l:List UInt8} (h:P.code3 l=true):Lib.atoiAll l=.ok (P.stat l):=by
 unfold P.code3 at h
 rw[Bool.and_eq_true,decide_eq_true_eq,List.all_eq_true]at h
 match l,h with
 | [x,y,z],⟨_,h⟩ =>
  obtain⟨a,rfl⟩:=dig_of (h x (by simp))
  obtain⟨b,rfl⟩:=dig_of (h y (by simp))
  obtain⟨c,rfl⟩:=dig_of (h z (by simp))
  have:=three_digits a b c
  split at this
  ·rename_i v hv
   rw[hv,of_decide_eq_true this]
  ·cases this
namespace C
theorem val_snoc (l:List UInt8) (c:UInt8):val (l++[c])=val l * 16+hex c:=by
 unfold val
 rw[List.foldl_append]
 rfl
def lw (c:UInt8):Int:=bits .or .u8 c.toNat 32
def kindOf (c:UInt8):Bool :=
 if 48≤c.toNat∧c.toNat≤57 then decide (hex c=(c.toNat:Int) - 48) else
 if 97≤lw c∧lw c≤102 then decide (hex c=lw c - 87)&&c != 95 else
 decide (hex c=-1)&&decide (0≤lw c)&&decide (lw c < 256)&&(c != 95||decide (lw c=127))
theorem kind_all:∀ n:Fin 256,kindOf (UInt8.ofNat n.1)=true:=by decide +kernel
theorem kind (c:UInt8):(48≤c.toNat∧c.toNat≤57∧hex c=(c.toNat:Int) - 48)∨(¬ (48≤c.toNat∧c.toNat≤57)∧c.toNat≠95∧97≤lw c∧lw c≤102∧hex c=lw c - 87)∨(¬ (48≤c.toNat∧c.toNat≤57)∧hex c=-1∧0≤lw c∧lw c < 256∧(lw c < 97∨103≤lw c)∧(c.toNat=95→lw c=127)):=by
 have h:=kind_all ⟨c.toNat,c.toNat_lt⟩
 simp only[UInt8.ofNat_toNat]at h
 unfold kindOf at h
 split at h
 ·rename_i h1
  exact .inl ⟨h1.1,h1.2,of_decide_eq_true h⟩
 ·rename_i h1
  split at h
  ·rename_i h2
   rw[Bool.and_eq_true,decide_eq_true_eq]at h
   refine .inr (.inl ⟨h1,fun h3=>?_,h2.1,h2.2,h.1⟩)
   have h4:c=95:=UInt8.toNat_inj.1 h3
   rw[h4]at h
   exact absurd h.2 (by decide)
  ·rename_i h2
   simp only[Bool.and_eq_true,decide_eq_true_eq,Bool.or_eq_true]at h
   refine .inr (.inr ⟨h1,h.1.1.1,h.1.1.2,h.1.2,by omega,fun h3=>?_⟩)
   have h4:c=95:=UInt8.toNat_inj.1 h3
   rcases h.2 with h5 | h5
   ·rw[h4]at h5
    exact absurd h5 (by decide)
   ·exact h5
end C
def addA (A:Option Addr) (c k:Nat):Option Addr:=if c=k then A else A.map fun x=>x.add k
theorem Rd.fromA {w:World} {A:Option Addr} {n c k:Nat} {l:List UInt8} (h:Rd w A n 1 (bcells l)) (hnc:n≤c) (hk:k≤n):Rd w (addA A c k) (n - k) 1 (bcells (l.drop k)):=by
 have hl:=rd_len h
 by_cases hkn:k=n
 ·exact⟨by simp [bcells,hl],fun h0=>by omega⟩
 ·obtain⟨b,o,rfl,_,_⟩:=h.2 (by omega)
  have e:addA (some ⟨b,o,none⟩) c k=some ⟨b,o+k,none⟩:=by
   unfold addA
   rw[if_neg (by omega)]
   show some ((⟨b,o,none⟩:Addr).add k)=_
   unfold Addr.add
   split<;>simp_all
  rw[e]
  exact h.from_ hk
theorem addA_end {A:Option Addr} {c:Nat}:addA A c c=A:=if_pos rfl
theorem addA_in {b o c k:Nat} (h:k≠c):addA (some ⟨b,o,none⟩) c k=some ⟨b,o+k,none⟩:=by
 unfold addA
 rw[if_neg (by omega)]
 show some ((⟨b,o,none⟩:Addr).add k)=_
 unfold Addr.add
 split<;>simp_all
theorem Sep.apart {g c:Nat} {E:Option Addr} {m:Nat} (h:0 < m→∀ e,E=some e→e.block≠g):Sep (some ⟨g,0,none⟩) c E m:=fun hm kk e hk1 he=>by
 have:=h hm e he
 unfold ownB at hk1
 split at hk1
 ·cases hk1
 ·simp at hk1
  omega
def onNormal (Q:Act→World→Prop):Exit→Act→World→Prop
 | .normal,a,w=>Q a w
 | _,_,_=>False
theorem onNormal.imp {Q:Act→World→Prop} {Q':Exit→Act→World→Prop} (h:∀ a w,Q a w→Q' .normal a w):∀ (e:Exit) (a:Act) (w:World),onNormal Q e a w→Q' e a w:=fun e a w hq=>by
 cases e<;>first | exact h a w hq | exact (hq:False).elim
theorem Row.far {w:World} {base:Nat} {e:TypeId} {size:Nat} {A:Option Addr} {n c:Nat} {xs:List Value} (h:Row w base e size A n c xs) {b i:Nat} (hb:b < base) (v:Value):Row (w.setCell ⟨b,i,none⟩ v) base e size A n c xs:=by
 rcases h with ⟨h1,h2⟩ | h
 ·refine .inl ⟨h1,?_⟩
  rcases h2 with h2 | ⟨g,cap,cur,hv,hg,hh,r⟩
  ·exact .inl h2
  ·refine .inr ⟨g,cap,cur,hv,hg,?_,r⟩
   rw[← hh]
   unfold World.setCell
   simp only[Array.getElem?_modify]
   rw[if_neg (by omega)]
 ·exact .inr h
theorem Four.far {u:World} {b b':Nat} (h:Four u b') (hne:b'≠b) (i:Nat) (x:Value):Four (u.setCell ⟨b,i,none⟩ x) b':=by
 obtain⟨⟨a0,f0⟩,⟨a1,f1⟩,⟨a2,f2⟩,⟨a3,f3⟩⟩:=h
 have o:∀ j,(u.setCell ⟨b,i,none⟩ x).cell? ⟨b',j,none⟩=u.cell? ⟨b',j,none⟩:=fun j=>World.cell?_setCell_far _ _ _ _ (fun e=>hne e.symm)
 have f:∀ j,(u.setCell ⟨b,i,none⟩ x).frozen? ⟨b',j,none⟩=u.frozen? ⟨b',j,none⟩:=fun j=>World.frozen?_setCell _ _ _ _
 exact⟨⟨at_of ((o 0).trans a0),(f 0).trans f0⟩,⟨at_of ((o 1).trans a1),(f 1).trans f1⟩,⟨at_of ((o 2).trans a2),(f 2).trans f2⟩,⟨at_of ((o 3).trans a3),(f 3).trans f3⟩⟩
theorem Row.set4 {w:World} {base:Nat} {e:TypeId} {size:Nat} {A:Option Addr} {n c:Nat} {xs:List Value} (h:Row w base e size A n c xs) {b:Nat} (hb:b < base) (y0 y1 y2 y3:Value):Row ((((w.setCell ⟨b,0,none⟩ y0).setCell ⟨b,1,none⟩ y1).setCell ⟨b,2,none⟩ y2).setCell ⟨b,3,none⟩ y3) base e size A n c xs :=
 (((h.far hb _).far hb _).far hb _).far hb _
def HoldR (w:World) (b:Nat) (x0 x1 x2 x3:Value) (u:World):Prop:=Four4 u b x0 x1 x2 x3∧Four u b∧Four u (b+1)∧Below w.heap.size w u
theorem HoldR.below {w:World} {b:Nat} {x0 x1 x2 x3:Value} {u v:World} (h:HoldR w b x0 x1 x2 x3 u) (hb:Below u.heap.size u v):HoldR w b x0 x1 x2 x3 v :=
 ⟨h.1.below hb,h.2.1.below hb,h.2.2.1.below hb,below_then h.2.2.2.size h.2.2.2 hb⟩
namespace F
def plain (s:ByteArray):Bool:=decide (L s=[71,69,84])||decide (L s=[72,69,65,68])||decide (L s=[79,80,84,73,79,78,83])||decide (L s=[84,82,65,67,69])
end F
theorem sameBO (A B:Option Addr) (n c d:Nat) (xs:List UInt8) (w:World) (hn:n≤1099511627776) (hl:xs.length=n) (hx:Rd w A n 1 (bcells xs)) (hy:Rd w B n 1 (bcells xs)) :
  Calls Tryz.prog 42 #[.slice A n c,.slice B n d] w (RetB w true):=by
 have:=sameBytes_any A B n n c d xs xs w hn hn hx hy hl hl
 simpa using this
theorem sameRO (m s:Int) (r:ByteArray) (A B:Option Addr) (c d:Nat) (xs:List FD) (w:World) (hn:xs.length≤1099511627776) (hx:Rd w A xs.length 2 (fcells xs)) (hy:Rd w B xs.length 2 (fcells xs)) :
  Calls Tryz.prog 41 #[.agg #[.int .i64 s,.string r,.int .i64 m,.slice A xs.length c],.agg #[.int .i64 s,.string r,.int .i64 m,.slice B xs.length d]] w (RetB w true):=by
 have:=sameResponse_any s m s m r r A B xs.length xs.length c d xs xs w hn hn hx hy rfl rfl
 simpa using this
theorem sameEntry_any (k v:ByteArray) (s:Int) (r:ByteArray) (m:Int) (A:Option Addr) (cf:Nat) (fs:List FD) (X:Option Addr) (cb:Nat) (body:List UInt8) (asked got:Int) (A1:Option Addr) (c1:Nat) (X1:Option Addr) (d1:Nat) (w:World) (hn:fs.length≤1099511627776) (hbn:body.length≤1099511627776)
  (hx:Rd w A fs.length 2 (fcells fs)) (hy:Rd w A1 fs.length 2 (fcells fs)) (hX:Rd w X body.length 1 (bcells body)) (hY:Rd w X1 body.length 1 (bcells body)) :
  Calls Tryz.prog 16 #[.agg #[.string k,.string v,.int .i64 s,.string r,.int .i64 m,.slice A fs.length cf,.slice X body.length cb,.int .i64 asked,.int .i64 got],.agg #[.string k,.string v,.int .i64 s,.string r,.int .i64 m,.slice A1 fs.length c1,.slice X1 body.length d1,.int .i64 asked,.int .i64 got]] w (RetB w true):=by
 have HSR:=Lib.hid (fun (u:World) (hu:Below w.heap.size w u)=>sameRO m s r A A1 cf c1 fs u hn (hx.below hu) (hy.below hu))
 have HSB:=Lib.hid (fun (u:World) (hu:Below w.heap.size w u)=>sameBO X X1 body.length cb d1 body u hbn rfl (hX.below hu) (hY.below hu))
 have HK:=Lib.hid ((Blk.new w #[.string k,.string v,.int .i64 s,.string r,.int .i64 m,.slice A fs.length cf,.slice X body.length cb,.int .i64 asked,.int .i64 got] 41).alloc (.cells #[.string k,.string v,.int .i64 s,.string r,.int .i64 m,.slice A1 fs.length c1,.slice X1 body.length d1,.int .i64 asked,.int .i64 got] 41))
 have HL:=Lib.hid (Blk.new (w.alloc (.cells #[.string k,.string v,.int .i64 s,.string r,.int .i64 m,.slice A fs.length cf,.slice X body.length cb,.int .i64 asked,.int .i64 got] 41)) #[.string k,.string v,.int .i64 s,.string r,.int .i64 m,.slice A1 fs.length c1,.slice X1 body.length d1,.int .i64 asked,.int .i64 got] 41)
 have HB:=Lib.hid (((Below.refl w.heap.size w).alloc (Nat.le_refl _) (.cells #[.string k,.string v,.int .i64 s,.string r,.int .i64 m,.slice A fs.length cf,.slice X body.length cb,.int .i64 asked,.int .i64 got] 41)).alloc (by rw[World.size_alloc];omega) (.cells #[.string k,.string v,.int .i64 s,.string r,.int .i64 m,.slice A1 fs.length c1,.slice X1 body.length d1,.int .i64 asked,.int .i64 got] 41))
 rw[World.size_alloc]at HL
 clear hx hy hX hY
 go_enter Tryz.func16,Tryz.ntmps16
 obtain⟨x0,x1,x2,x3,x4,x5,x6,x7,x8⟩:=HK.out.cells9
 obtain⟨y0,y1,y2,y3,y4,y5,y6,y7,y8⟩:=HL.out.cells9
 go_wp2_with fail
 clear x0 x1 x2 x3 x4 x5 x6 x7 x8 y0 y1 y2 y3 y4 y5 y6 y7 y8
 refine (HSR.out _ HB.out).mono ?_
 rintro e w1 ⟨rfl,hb1⟩
 have HK1:=Lib.hid (HK.out.below hb1)
 have HL1:=Lib.hid (HL.out.below hb1)
 have HB1:=Lib.hid (below_then HB.out.size HB.out hb1)
 clear HK HL HB HSR hb1
 obtain⟨x0,x1,x2,x3,x4,x5,x6,x7,x8⟩:=HK1.out.cells9
 obtain⟨y0,y1,y2,y3,y4,y5,y6,y7,y8⟩:=HL1.out.cells9
 go_wp2_with fail
 clear x0 x1 x2 x3 x4 x5 x6 x7 x8 y0 y1 y2 y3 y4 y5 y6 y7 y8
 refine (HSB.out _ HB1.out).mono ?_
 rintro e w2 ⟨rfl,hb2⟩
 have HK2:=Lib.hid (HK1.out.below hb2)
 have HL2:=Lib.hid (HL1.out.below hb2)
 have HB2:=Lib.hid (below_then HB1.out.size HB1.out hb2)
 clear HK1 HL1 HB1 HSB hb2
 obtain⟨x0,x1,x2,x3,x4,x5,x6,x7,x8⟩:=HK2.out.cells9
 obtain⟨y0,y1,y2,y3,y4,y5,y6,y7,y8⟩:=HL2.out.cells9
 go_wp2
 go_ret
 exact⟨rfl,HB2.out⟩
theorem CRow.apartB {w:World} {base:Nat} {A:Option Addr} {n c:Nat} {bs:List UInt8} (h:CRow w base A n c bs) {b:Nat} (hb:b < base):0 < n→∀ a,A=some a→a.block≠b:=fun hn a ha=>by
 rcases h.2.2 with h0 | ⟨g,hg,hB,_⟩
 ·have:=h.2.1;omega
 ·rw[hg]at ha
  cases ha
  show g≠b
  omega
theorem Row.apartB {w:World} {base:Nat} {e:TypeId} {size:Nat} {A:Option Addr} {n c:Nat} {xs:List Value} (h:Row w base e size A n c xs) {b:Nat} (hb:b < base):0 < n→∀ a,A=some a→a.block≠b:=fun hn a ha=>by
 have hc:=h.cap.1
 have:=h.lt a.block (by unfold ownB;rw[if_neg (by omega),ha];rfl)
 omega
end Go.Proofs.YthjeglnkgdpijaaGreatDoor
