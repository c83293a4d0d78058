/- A map from names to files in memory, told by a rising list of names and numbers. What every proof of a row with the listed tables shares: the post out of 'Below', the table out of the row's list, the world of the witness. The walks of fields.Print and of the document's. The walks of tok.Quote, of head.text and of the document's text. The walks of tok.Quote and of head.text. The walks of CopyResponse and hop.Response. Conditions: as each theorem states them. -/
import Derived.Sort.KeysCollected
import Derived.ProofKit
import Derived.OpenShut
import Derived.Deep.DeepHandedRow
import Derived.LaidSub
import Derived.Lay
import Derived.Test.YthjeglnkgdpijaaGreatDoorZ22
set_option maxHeartbeats 1000000
set_option maxRecDepth 100000
namespace Go.Proofs.YthjeglnkgdpijaaGreatDoor
open Go Go.RowKit Go.Maps
namespace D
theorem aB5:∀ a b:List UInt8,bytesBefore a b=decide (a < b)
 | [],[]=>by simp [bytesBefore]
 | [],_::_=>by simp [bytesBefore]
 | _::_,[]=>by simp [bytesBefore]
 | a::r,b::s=>by
  unfold bytesBefore
  rw[aB5 r s,Bool.eq_iff_iff]
  simp only[Bool.or_eq_true,decide_eq_true_eq,Bool.and_eq_true,beq_iff_eq,List.cons_lt_cons_iff]
theorem wR (a b:ByteArray):bytesBefore (L a) (L b)=ltB a b:=aB5 _ _
def iM:Value→Option (DataW Unit × List MemPlace)
 | .pointer (some ⟨b,0,none⟩)=>some (.lit (.int .i64 b),[])
 | .pointer none=>some (.nil,[])
 | _=>none
theorem yI {v:Value} {b:Nat} {ps:List MemPlace} (h:iM v=some (.lit (.int .i64 b),ps)):v=.pointer (some ⟨b,0,none⟩):=by
 unfold iM at h
 split at h
 ·simp only[Option.some.injEq,Prod.mk.injEq,DataW.lit.injEq,Lit.int.injEq,true_and]at h
  have:(_:Nat)=b:=Int.ofNat.inj h.1
  rw[this]
 ·cases h
 ·cases h
theorem aEE {v:Value} {ps:List MemPlace} (h:iM v=some (.nil,ps)):v=.pointer none:=by
 unfold iM at h
 split at h
 ·cases h
 ·rfl
 ·cases h
def key (nm:ByteArray):Lit:=.string (L nm)
def ent (fa:Nat→Nat) (p:ByteArray × Nat):Lit × DataW Unit:=(key p.1,.lit (.int .i64 (fa p.2)))
def datum (fa:Nat→Nat) (l:NM):DataW Unit:=.map (l.map (ent fa))
theorem dX (a b:ByteArray):(key a).sameKey (key b)=decide (a=b):=by
 unfold key Lit.sameKey
 rw[Bool.eq_iff_iff]
 simp only[beq_iff_eq,decide_eq_true_eq]
 exact⟨L_inj,fun h=>by rw[h]⟩
theorem jU (fa:Nat→Nat) (l:NM) (nm:ByteArray):(datum fa l).del (key nm)=datum fa (del l nm):=by
 unfold datum DataW.del D.del
 dsimp only
 congr 1
 rw[List.filter_map]
 congr 1
 apply List.filter_congr
 intro p _
 show (!((ent fa p).1.sameKey (key nm)))=_
 unfold ent
 dsimp only
 rw[dX]
 simp
theorem insert_map (fa:Nat→Nat) (nm:ByteArray) (no:Nat):∀ l:NM,DataW.insert (ent fa (nm,no)) (l.map (ent fa))=(ins l nm no).map (ent fa)
 | []=>rfl
 | p::r=>by
  have e:(ent fa (nm,no)).1.before (ent fa p).1=ltB nm p.1:=wR _ _
  rw[List.map_cons]
  unfold DataW.insert ins
  rw[e]
  split
  ·rfl
  ·rw[List.map_cons,insert_map fa nm no r]
theorem mX (fa:Nat→Nat) (l:NM) (nm:ByteArray) (no:Nat):(datum fa l).put (key nm) (.lit (.int .i64 (fa no)))=datum fa (put l nm no):=by
 have h:=jU fa l nm
 unfold datum DataW.del at h
 dsimp only at h
 have h2:(l.map (ent fa)).filter (fun p=>!p.1.sameKey (key nm))=(del l nm).map (ent fa):=by injection h
 unfold datum DataW.put
 dsimp only
 rw[h2]
 exact congrArg DataW.map (insert_map fa nm no (del l nm))
theorem kL (fa:Nat→Nat) (l:NM) (nm:ByteArray) (z:DataW Unit):(datum fa l).atKey (key nm) z=match find l nm with | some no=>.lit (.int .i64 (fa no)) | none=>z:=by
 unfold datum DataW.atKey find
 dsimp only
 induction l with
 | nil=>rfl
 | cons p r ih =>
  rw[List.map_cons,List.find?_cons,List.find?_cons]
  have e:(ent fa p).1.sameKey (key nm)=decide (p.1=nm):=dX _ _
  rw[e]
  cases h:decide (p.1=nm) with
  | true=>rfl
  | false=>exact ih
theorem wS (fa:Nat→Nat) (l:NM):Go.strKeys (datum fa l)=l.map fun p=>L p.1:=by
 unfold datum Go.strKeys
 dsimp only
 rw[List.map_map]
 rfl
theorem tK {fa:Nat→Nat} {l:NM} (h:Up l) {ss:List (List UInt8)} (hp:ss.Perm (Go.strKeys (datum fa l))):ss.mergeSort (fun x y=>decide (x≤y))=l.map fun p=>L p.1:=by
 rw[wS]at hp
 have h1:ss.mergeSort (fun x y=>decide (x≤y))=(l.map fun p=>L p.1).mergeSort (fun x y=>decide (x≤y)):=Go.mergeSort_of_perm hp
 rw[h1]
 apply List.mergeSort_of_pairwise
 rw[List.pairwise_map]
 refine h.imp fun {a b} hab=>?_
 exact decide_eq_true (List.le_of_lt (of_decide_eq_true hab))
end D
end Go.Proofs.YthjeglnkgdpijaaGreatDoor
namespace Go.Proofs.YthjeglnkgdpijaaGreatDoor
open Go.ChangeShapes Go.WideShapes Go.ChangeAt Go.RowKit
section
variable {H:Type} {enc:TypeId × Value→H} {P:Program}
theorem yK {f:Func} {s:ChangeSpec} {apart fresh handsOn again:Bool} {W W':World} {args:Array Value} {v:Value} {ds gs:List (DataW H)} {before pa pv:List MemPlace}
  (hW:DataW.Whole enc P f.params.toList s.vars apart W args.toList ds gs before)
  (hres:∀ (b:Nat) (sp:Nat→Bool) (hd:Bool),DataW.TrodAll enc P W' b sp hd f.resultTypes.toList (v.resultList f.resultTypes.size) (s.fn H (ds++gs)).results [])
  (hargs:∀ sp:Nat→Bool,(∀ p∈before,sp p.block=true)→DataW.TrodAll enc P W' 0 sp true f.params.toList args.toList (s.fn H (ds++gs)).args pa)
  (hvars:∀ sp:Nat→Bool,(∀ p∈before,sp p.block=true)→DataW.TrodVars enc P W' sp s.vars (s.fn H (ds++gs)).vars pv)
  (hps:before=pa++pv) (hb:Below W.heap.size W W')
  (hok:∀ (j:Nat) (t:TypeId) (r:Value),f.resultTypes[j]?=some t→(v.resultList f.resultTypes.size)[j]?=some r→Value.okWide P W' .any 0 t r) :
  s.post enc P f apart fresh handsOn again W args v W':=by
 have hlt:∀ p∈before,p.block < W.heap.size:=fun p hp=>hW.lt p hp
 have hold:∀ p∈before,(fun b=>decide (b < W.heap.size)) p.block=true:=fun p hp=>by simpa using hlt p hp
 refine⟨ds,gs,before,[],pa,pv,hW,hres _ _ _,hargs _ hold,hvars _ hold,World.keptBut_mono (fun p hp=>⟨hp,?_⟩) (hb.frame (·∈before)),fun _=>?_⟩
 ·rw[hps,List.mem_append]at hp
  exact Or.inr hp
 ·obtain⟨_,_,_,_,_,hz,hn⟩:=hW
  refine⟨hok,_,_,([]++pa)++pv,⟨[]++pa,pv,trodAll_append (hargs _ (fun _ _=>rfl)) (hres _ _ _),hvars _ (fun _ _=>rfl),rfl,?_,?_⟩,?_⟩
  ·intro b off hp
   have hin:MemPlace.cell b off∈before:=by rw[hps];simpa using hp
   rw[hb.frozen (hlt _ hin)]
   exact hz b off hin
  ·intro ha
   have:=hn ha
   rw[hps]at this
   simpa using this
  ·intro p hp _
   rw[hps]
   simpa using hp
end
theorem own_:ownKnob Tryz.prog.godebug=none:=by kernel_rfl
theorem tab_g:Tryz.prog.globalNamed "internal/strconv.uint64pow10"=some 4:=by kernel_rfl
theorem tab_t:(Tryz.prog.globals[4]?).map (·.type)=some 291:=by kernel_rfl
theorem tab_n:Tryz.prog.cellsOf 291=20:=by kernel_rfl
theorem tab_e:Tryz.prog.cellsOf 211=1:=by kernel_rfl
theorem aPW:Tryz.prog.underlying 291=some (.array 20 211):=by kernel_rfl
theorem aPX:Tryz.prog.underlying 211=some (.int .u64):=by kernel_rfl
theorem aPY {W:World} {laid:List (String × DataW Unit)} (h:laidMetH Tryz.prog laid W)
  (hm:laid.filter (fun x=>x.1== "internal/strconv.uint64pow10")=[("internal/strconv.uint64pow10",Rows.laid_internal_strconv_uint64pow10)]):iJ W:=by
 have h1:=h.filter (fun x=>x.1== "internal/strconv.uint64pow10")
 rw[hm]at h1
 exact Lib.tabIs_of_head (rest:=[]) tab_g tab_t aPW aPX tab_e tab_n h1
theorem int_bounds {a:Int} (h:(Lit.int .i64 a).wf=true):-9223372036854775808≤a∧a≤9223372036854775807:=by
 unfold Lit.wf at h
 rw[Bool.and_eq_true,decide_eq_true_eq,decide_eq_true_eq]at h
 exact h
end Go.Proofs.YthjeglnkgdpijaaGreatDoor
namespace Go.Proofs.YthjeglnkgdpijaaGreatDoor
open Go.RowKit
def fA (w:World) (bs:List UInt8) (code:Int) (e:Ending) (w':World):Prop :=
 ∃ A c,e=.returned (.tuple #[.slice A bs.length c,.int .i64 code])∧bQ w' w.heap.size A bs.length c bs∧Below w.heap.size w w'
theorem fA.none_ {w w':World} {code:Int} {bs:List UInt8} {c:Int} (hb:Below w.heap.size w w') (h1:bs=[]) (h2:c=code):fA w bs c (.returned (.tuple #[.slice none 0 0,.int .i64 code])) w':=by
 subst h1
 subst h2
 exact⟨none,0,rfl,bQ.none_ _ _,hb⟩
theorem pK {B b:Nat} {bs:List Value} {w w':World} (h:Lib.IsBuffer 254 5 B b bs w) (hb:Below w.heap.size w w'):Lib.IsBuffer 254 5 B b bs w':=by
 have hlt:=h.lt
 obtain⟨hB,v,lr,hk,ho,hne⟩:=h
 refine⟨hB,v,lr,(hb.block b hlt).trans hk,ho.kept (row:=none) ⟨hb.os,hb.tape,hb.output,hb.size,fun k hk _=>hb.block k hk⟩ ?_,hne⟩
 cases v.ownBlock<;>simp
theorem aFN {w:World} {B n:Nat} {v:Value} {bs:List Value} (h:w.ownsRow B 5 1 v n bs):∃ A c,v=.slice A n c∧Row w B 5 1 A n c bs:=by
 obtain⟨h1,h2⟩:=h
 rcases h2 with ⟨hv,h0⟩ | ⟨g,cap,cur,hv,r⟩
 ·subst h0
  exact⟨none,0,hv,.inl ⟨h1,.inl ⟨hv ▸ hv,rfl⟩⟩⟩
 ·subst hv
  exact⟨_,_,rfl,.inl ⟨h1,.inr ⟨g,cap,cur,rfl,r⟩⟩⟩
def aPQ (fs:List FD) (k:Nat):Prop:=(fs.take k).all F.okF=true
theorem aPQ.step {fs:List FD} {k:Nat} (h:aPQ fs k) (hk:k < fs.length) (h1:T.token (L (fs[k]).1)=true) (h2:F.good (fs[k]).2=true):aPQ fs (k+1):=by
 unfold aPQ at *
 rw[F.zT _ _ _ hk,h]
 unfold F.okF
 rw[h1,h2]
 rfl
theorem aP5 {fs:List FD} {k:Nat} (hk:k < fs.length) (h1:T.token (L (fs[k]).1)=false):fs.all F.okF=false:=F.pO _ _ k hk (by unfold F.okF;rw[h1];rfl)
theorem aP4 {fs:List FD} {k:Nat} (hk:k < fs.length) (h1:F.good (fs[k]).2=false):fs.all F.okF=false:=F.pO _ _ k hk (by unfold F.okF;rw[h1,Bool.and_false])
theorem aJY {fs:List FD} (h:fs.all F.okF=false):F.sH fs=[]∧F.dD fs=40:=⟨F.nP (by rw[F.wM h];decide),F.wM h⟩
theorem aF4 {fs:List FD} (h:fs.all F.okF=true) (h2:100 < fs.length):F.sH fs=[]∧F.dD fs=42:=⟨F.nP (by rw[F.sG h h2];decide),F.sG h h2⟩
theorem aGL {fs:List FD} (h:fs.all F.okF=true) (h2:¬ 100 < fs.length):F.sH fs=F.lines fs∧F.dD fs=0:=⟨F.aA2 (F.aA0 h h2),F.aA0 h h2⟩
theorem aIQ (f:FD):L (f.1++⟨#[58,32]⟩++f.2++⟨#[13,10]⟩)=F.line f:=by
 simp only[eP]
 rfl
theorem aIP (f:FD):(f.1++⟨#[58,32]⟩++f.2++⟨#[13,10]⟩).size=f.1.size+f.2.size+4:=by
 rw[aQ,aIQ,F.yP]
theorem print_any (A:Option Addr) (c:Nat) (fs:List FD) (w:World) (hf:F.bulk fs≤1073741824) (hx:Rd w A fs.length 2 (aI fs)) :
  Calls Tryz.prog 183 #[.slice A fs.length c] w (fA w (F.sH fs) (F.dD fs)):=by
 have hn:fs.length≤1073741824:=by have:=F.dI fs;omega
 have HSM:=aH (iR hf)
 have hln:=F.tJ fs
 have hlt2:(F.lines fs).length≤4294967296:=by omega
 clear hln
 generalize hB:F.sH fs=PB at *
 generalize hE:F.dD fs=PE at *
 have HBAD:=aH (fun (h:fs.all F.okF=false)=>aJY h)
 have HMANY:=aH (fun (h:fs.all F.okF=true) (h2:100 < fs.length)=>aF4 h h2)
 have HGOOD:=aH (fun (h:fs.all F.okF=true) (h2:¬ 100 < fs.length)=>aGL h h2)
 rw[hB,hE]at HBAD HMANY HGOOD
 clear hB hE
 have HMB:=aH (fun f (h:f∈fs)=>F.qN h)
 go_enter Tryz.func183,Tryz.ntmps183
 go_wp2
 have HBUF0:=aH (Lib.fresh_isBuffer 254 5 w)
 have HB0:=aH ((zB w.heap.size w).alloc (zA _) (.cells #[.slice none 0 0,.int .i64 0,.int .i8 0] 254))
 generalize w.alloc (.cells #[.slice none 0 0,.int .i64 0,.int .i8 0] 254)=w0 at *
 go_loopw [9] (fun i wr=>∃ k:Nat,k≤fs.length∧i=.int .i64 k∧aPQ fs k∧Lib.IsBuffer 254 5 w.heap.size w.heap.size (Lib.byteCells (F.lines (fs.take k))) wr∧Below w.heap.size w wr) (fun i _=>fs.length - (intOf i).toNat)
 case atStart=>exact⟨0,zF _,rfl,rfl,HBUF0.out,HB0.out⟩
 case round =>
  clear HBUF0 HB0
  obtain⟨k,hk,rfl,hw,hbuf,hbel⟩:=hrel
  have HW:=aH hw
  have HBUF:=aH hbuf
  have HBEL:=aH hbel
  clear hw hbuf hbel
  by_cases hlt:k < fs.length
  ·obtain⟨b,o,rfl,hb,d1,d2⟩:=(hx.below HBEL.out).field hlt rfl
   have hsn:=F.aF7 fs k hlt
   have hst:=fun h1 h2=>HW.out.step hlt h1 h2
   have hn1:=fun h=>aP5 hlt h
   have hn2:=fun h=>aP4 hlt h
   have hfm:=HMB.out _ (List.getElem_mem hlt)
   have hfs:=HSM.out _ (List.getElem_mem hlt)
   have htk:=F.aF6 fs k
   generalize hfk:fs[k]=f at *
   have HSN:=aH hsn
   have HST:=aH hst
   have HN1:=aH hn1
   have HN2:=aH hn2
   have ha1:=hfs.1
   have ha2:=hfs.2
   have HTOK:=aH (fun u=>aAE f.1 u ha1)
   have HGD:=aH (fun u=>aES f.2 u ha2)
   have hz:=HBEL.out.size
   have hls:(F.lines (fs.take k)).length≤4294967296:=by omega
   have hls2:f.1.size+f.2.size+1≤1073741824:=by omega
   clear hsn hst hn1 hn2 hfs hfk hfm htk
   rcases tf (T.token (L f.1)) with h1 | h1
   ·rw[h1]at HTOK
    rcases tf (F.good f.2) with h2 | h2
    ·rw[h2]at HGD
     have HST2:=aH (HST.out h1 h2)
     clear h1 h2 HST HN1 HN2
     go_wp2_with fail
     refine (HTOK.out _).mono ?_
     rintro e w' ⟨rfl,rfl⟩
     go_wp2_with fail
     refine (HGD.out _).mono ?_
     rintro e w2 ⟨rfl,hb2⟩
     have hk2:=(Blk.new wr #[.string f.1,.string f.2] 60).below hb2
     obtain⟨x0,x1⟩:=hk2.cells2
     have HBUF2:=aH (pK (pK HBUF.out ((zB _ _).alloc (zA _) (.cells #[.string f.1,.string f.2] 60))) hb2)
     have HBEL2:=aH (nC HBEL.out hz hb2)
     have hz2:=HBEL2.out.size
     clear hk2 hb2 HBUF HBEL HTOK HGD d1 d2
     have hs1:f.1.size+2≤9223372036854775807:=by omega
     have hs2:f.1.size+2+f.2.size≤9223372036854775807:=by omega
     have hs3:f.1.size+2+f.2.size+2≤9223372036854775807:=by omega
     go_wp2_with fail
     refine (Tryz.Buffer_WriteString_k w.heap.size w.heap.size _ _ w2 HBUF2.out hz2 (Lib.byteCells_one _) (by rw[Lib.byteCells_length,aIP];omega)).mono ?_
     rintro e w3 ⟨rfl,hbuf3,hb3,_⟩
     have HBUF3:Hid (Lib.IsBuffer 254 5 w.heap.size w.heap.size (Lib.byteCells (F.lines (fs.take (k+1)))) w3):=by
      have:=hbuf3
      rw[show (f.1++⟨#[58,32]⟩++f.2++⟨#[13,10]⟩:ByteArray).data.toList=F.line f from aIQ f,← Lib.byteCells_append,← HSN.out]at this
      exact aH this
     have HBEL3:=aH (HBEL2.out.trans hb3)
     clear hbuf3 hb3 HBUF2 HBEL2 x0 x1
     go_wp2
     go_roundw
     case rel=>exact⟨k+1,by omega,by go_num,HST2.out,HBUF3.out,HBEL3.out⟩
     case measure=>simp [intOf];omega
    ·rw[h2]at HGD
     have HBD:=aH (HBAD.out (HN2.out h2))
     clear h1 h2 HST HN1 HN2
     go_wp2_with fail
     refine (HTOK.out _).mono ?_
     rintro e w' ⟨rfl,rfl⟩
     go_wp2_with fail
     refine (HGD.out _).mono ?_
     rintro e w2 ⟨rfl,hb2⟩
     have HBEL2:=aH (nC HBEL.out hz hb2)
     clear hb2 HBUF HBEL HTOK HGD d1 d2
     go_wp2
     refine bK (v:=.tuple #[.slice none 0 0,.int .i64 40]) (by simp [results,Tryz.results183,go_sem]) rfl ?_
     exact fA.none_ HBEL2.out HBD.out.1 HBD.out.2
   ·rw[h1]at HTOK
    have HBD:=aH (HBAD.out (HN1.out h1))
    have HBEL2:=aH (HBEL.out.alloc hz (.cells #[.string f.1,.string f.2] 60))
    clear h1 HST HN1 HN2
    go_wp2_with fail
    refine (HTOK.out _).mono ?_
    rintro e w' ⟨rfl,rfl⟩
    clear HBUF HBEL HTOK HGD d1 d2
    go_wp2
    refine bK (v:=.tuple #[.slice none 0 0,.int .i64 40]) (by simp [results,Tryz.results183,go_sem]) rfl ?_
    exact fA.none_ HBEL2.out HBD.out.1 HBD.out.2
  ·have hkn:k=fs.length:=by omega
   subst hkn
   have hall:fs.all F.okF=true:=by have:=HW.out;unfold aPQ at this;rwa [List.take_length]at this
   have hbuf:=HBUF.out
   rw[List.take_length]at hbuf
   have HBF:=aH hbuf
   clear hbuf HBUF HW hlt hk
   by_cases hm:100 < fs.length
   ·have HBD:=aH (HMANY.out hall hm)
    clear hall
    go_wp2
    refine bK (v:=.tuple #[.slice none 0 0,.int .i64 42]) (by simp [results,Tryz.results183,go_sem]) rfl ?_
    exact fA.none_ HBEL.out HBD.out.1 HBD.out.2
   ·have HBD:=aH (HGOOD.out hall hm)
    clear hall
    go_wp2_with fail
    refine (Tryz.Buffer_Bytes w.heap.size w.heap.size _ wr HBF.out).mono ?_
    rintro e w3 ⟨v,rfl,hown,q,rfl⟩
    obtain⟨R,d,rfl,hrow⟩:=aFN hown
    have HR:=aH hrow
    clear hown hrow
    go_wp2
    refine bK (v:=.tuple #[.slice R (Lib.byteCells (F.lines fs)).length d,.int .i64 0]) (by simp [results,Tryz.results183,go_sem]) rfl ?_
    rw[HBD.out.1,HBD.out.2]
    have hl:(Lib.byteCells (F.lines fs)).length=(F.lines fs).length:=Lib.byteCells_length _
    have hr:=HR.out
    rw[hl]at hr ⊢
    exact⟨R,d,rfl,Row.crow hr,below_drewN HBEL.out q⟩
def aEC:Go.Shelf.Ren:=⟨fun | 167=>84 | 240=>122 | 276=>158 | n=>n,fun | 0=>0 | 3=>3 | 4=>4 | 5=>5 | 9=>9 | 20=>20 | 37=>39 | 70=>138 | 72=>140 | 75=>142 | 80=>149 | 164=>213 | n=>n,fun | n=>n⟩
theorem lays167:Go.Proofs.Lays.n167 Tryz.prog aEC:={
 mixed:=by kernel_rfl
 f167:=Tryz.func84.trans (congrArg some (by kernel_rfl))
 f240:=Tryz.func122.trans (congrArg some (by kernel_rfl))
 f276:=Tryz.func158.trans (congrArg some (by kernel_rfl))
 t0:=Tryz.underlying0
 a0:=Tryz.isAgg0
 z0:=Tryz.sizeOf0
 v0:=Tryz.zeroValue0
 t4:=Tryz.underlying4
 a4:=Tryz.isAgg4
 z4:=Tryz.sizeOf4
 v4:=Tryz.zeroValue4
 t5:=Tryz.underlying5
 a5:=Tryz.isAgg5
 z5:=Tryz.sizeOf5
 v5:=Tryz.zeroValue5
 t9:=Tryz.underlying9
 a9:=Tryz.isAgg9
 z9:=Tryz.sizeOf9
 v9:=Tryz.zeroValue9
 t20:=Tryz.underlying20
 a20:=Tryz.isAgg20
 z20:=Tryz.sizeOf20
 v20:=Tryz.zeroValue20
 t37:=Tryz.underlying39
 a37:=Tryz.isAgg39
 z37:=Tryz.sizeOf39
 v37:=Tryz.zeroValue39
 t70:=Tryz.underlying138
 a70:=Tryz.isAgg138
 z70:=Tryz.sizeOf138
 v70:=Tryz.zeroValue138
 t72:=Tryz.underlying140
 a72:=Tryz.isAgg140
 z72:=Tryz.sizeOf140
 v72:=Tryz.zeroValue140
 t75:=Tryz.underlying142
 a75:=Tryz.isAgg142
 z75:=Tryz.sizeOf142
 v75:=Tryz.zeroValue142
 t164:=Tryz.underlying213
 a164:=Tryz.isAgg213
 z164:=Tryz.sizeOf213
 v164:=Tryz.zeroValue213 }
theorem aL6:Builder.Extra Tryz.prog aEC:={
 sizeBuilder:=by kernel_rfl
 liesBuilder:=by kernel_rfl
 t5:=Tryz.underlying5
 a5:=Tryz.isAgg5
 z5:=Tryz.sizeOf5
 v5:=Tryz.zeroValue5
 infoByte:=by kernel_rfl
 cellsByte:=by kernel_rfl
 sizeByte:=by kernel_rfl
 neB5:=by decide }
theorem lI (B b:Nat) (bs:List Value) (c:Int) (w:World) (h:Lib.IsBuilder 140 5 B b bs w) (hlen:bs.length+1≤140737488355328) (hBw:B≤w.heap.size) :
  Calls Tryz.prog 84 #[.pointer (some ⟨b,0,none⟩),.int .u8 c] w fun e w'=>e=.returned .nilIface∧(Lib.BuilderAt 140 5 B b (.pointer (some ⟨b,0,none⟩)) (bs++[.int .u8 c]) w'∧Below B w w') :=
 Any.Builder_WriteByte lays167 aL6 B b bs c w h hlen hBw
theorem aAH (c:UInt8) (w:World):Calls Tryz.prog 198 #[.int .u8 c.toNat] w (uY w (.bool (T.fQ c))):=by
 rcases aD5 c with ⟨h,g1,g2⟩ | ⟨h,g1,g2⟩ | ⟨h,g1,g2,g3⟩ | ⟨h,g1,g2,g3⟩
 case' inr.inr.inl=>have g4:((c.toNat:Int) != 127)=true:=by rw[bne,g3];rfl
 case' inr.inr.inr=>have g4:((c.toNat:Int) != 127)=false:=by rw[bne,g3];rfl
 all_goals
  rw[h]
  clear h
  go_enter Tryz.func198,Tryz.ntmps198
  go_wp2
  go_ret
  exact⟨rfl,rfl⟩
def Wrote (w:World) (n:Nat) (e:Ending) (u:World):Prop:=e=.returned .nilIface∧∃ l:List UInt8,l.length≤n∧Lib.IsBuilder 140 5 w.heap.size w.heap.size (Lib.byteCells l) u∧Below w.heap.size w u
theorem gZ {w u:World} {n:Nat} (c:UInt8) (hn:n≤4398046511104) (h:∃ l:List UInt8,l.length≤n∧Lib.IsBuilder 140 5 w.heap.size w.heap.size (Lib.byteCells l) u∧Below w.heap.size w u) :
  Calls Tryz.prog 84 #[.pointer (some ⟨w.heap.size,0,none⟩),.int .u8 c.toNat] u (Wrote w (n+1)):=by
 obtain⟨l,hl,hb,hbel⟩:=h
 refine (lI w.heap.size w.heap.size (Lib.byteCells l) c.toNat u hb (by rw[Lib.byteCells_length];omega) hbel.size).mono ?_
 rintro e v ⟨he,hat,hb2⟩
 refine⟨he,l++[c],by rw[bC];simp only[List.length_singleton];omega,?_,hbel.trans hb2⟩
 have e2:Lib.byteCells (l++[c])=Lib.byteCells l++[.int .u8 c.toNat]:=by simp [Lib.byteCells]
 rw[e2]
 exact .inr hat
def aM0 (w:World) (ok:Bool) (e:Ending) (w':World):Prop:=∃ q:ByteArray,e=.returned (.tuple #[.string q,.int .i64 (if ok then 0 else 11)])∧Below w.heap.size w w'
theorem aH4 (s:ByteArray) (w:World) (hs:s.size≤1099511627776):Calls Tryz.prog 182 #[.string s] w (aM0 w (F.text s)):=by
 have HZ:Hid ((L s).length=s.size):=(aQ s).symm
 have H0:Hid (∃ l:List UInt8,l.length≤0∧Lib.IsBuilder 140 5 w.heap.size w.heap.size (Lib.byteCells l) (w.alloc (.cells #[.pointer none,.slice none 0 0] 140))∧Below w.heap.size w (w.alloc (.cells #[.pointer none,.slice none 0 0] 140))) :=
  aH ⟨[],zA _,Lib.fresh_isBuilder 140 5 w,(zB w.heap.size w).alloc (zA _) _⟩
 go_enter Tryz.func182,Tryz.ntmps182
 go_wp2_with fail
 generalize w.alloc (.cells #[.pointer none,.slice none 0 0] 140)=w0 at *
 refine (gZ 34 (by omega) H0.out).mono ?_
 rintro e w1 ⟨rfl,h1⟩
 have H1:=aH h1
 clear h1 H0
 go_wp2
 go_loopw [5,6,10,16,20] (fun _ _ i _ _ wr=>∃ k:Nat,k≤s.size∧i=.int .i64 k∧((L s).take k).all T.fQ=true∧∃ l:List UInt8,l.length≤2 * k+1∧Lib.IsBuilder 140 5 w.heap.size w.heap.size (Lib.byteCells l) wr∧Below w.heap.size w wr) (fun _ _ i _ _ _=>s.size - (intOf i).toNat)
 case atStart=>exact⟨0,zF _,rfl,by simp,H1.out⟩
 case round =>
  clear H1
  obtain⟨k,hk,rfl,ha,hl⟩:=hrel
  have HAll:=aH ha
  have HL:=aH hl
  clear ha hl
  by_cases hlt:k < s.size
  ·have hL:k < (L s).length:=by rw[HZ.out];exact hlt
   have HB:=aH (aAH s[k])
   rcases tf (T.fQ ((L s)[k]'hL)) with h | h
   ·have HN:=aH (qY T.fQ (L s) k hL HAll.out h)
    have hb:T.fQ s[k]=true:=h
    rw[hb]at HB
    clear h hb
    rcases tf (((s[k]'hlt).toNat:Int)==34||((s[k]'hlt).toNat:Int)==92) with hq | hq
    ·have HW1:=aH (gZ 92 (by omega) HL.out)
     rcases tf (((s[k]'hlt).toNat:Int)==34) with g1 | g1
     case' inr =>
      have g2:(((s[k]'hlt).toNat:Int)==92)=true:=by rw[g1]at hq;exact hq
     all_goals
      clear hq
      go_wp2_with fail
      refine (HB.out _).mono ?_
      rintro e w' ⟨rfl,rfl⟩
      go_wp2_with fail
      refine HW1.out.mono ?_
      rintro e w2 ⟨rfl,h2⟩
      have HW2:=aH (gZ (s[k]'hlt) (by omega) h2)
      clear h2 HW1 HL
      go_wp2_with fail
      refine HW2.out.mono ?_
      rintro e w3 ⟨rfl,l3,z3,b3,d3⟩
      have HL3:=aH (And.intro z3 (And.intro b3 d3))
      clear z3 b3 d3 HW2
      go_wp2
      go_roundw
      case rel=>exact⟨k+1,by omega,by go_num,HN.out,l3,by have:=HL3.out.1;omega,HL3.out.2⟩
      case measure=>simp [intOf];omega
    ·have HW2:=aH (gZ (s[k]'hlt) (by omega) HL.out)
     have g1:(((s[k]'hlt).toNat:Int)==34)=false:=(Bool.or_eq_false_iff.1 hq).1
     have g2:(((s[k]'hlt).toNat:Int)==92)=false:=(Bool.or_eq_false_iff.1 hq).2
     clear hq
     go_wp2_with fail
     refine (HB.out _).mono ?_
     rintro e w' ⟨rfl,rfl⟩
     go_wp2_with fail
     refine HW2.out.mono ?_
     rintro e w3 ⟨rfl,l3,z3,b3,d3⟩
     have HL3:=aH (And.intro z3 (And.intro b3 d3))
     clear z3 b3 d3 HW2
     go_wp2
     go_roundw
     case rel=>exact⟨k+1,by omega,by go_num,HN.out,l3,by have:=HL3.out.1;omega,HL3.out.2⟩
     case measure=>simp [intOf];omega
   ·have HN:Hid (F.text s=false):=aH (aE6 T.fQ (L s) k hL h)
    have hb:T.fQ s[k]=false:=h
    rw[hb]at HB
    clear h hb
    go_wp2_with fail
    refine (HB.out _).mono ?_
    rintro e w' ⟨rfl,rfl⟩
    go_wp2
    refine bK (v:=.tuple #[.string ⟨#[]⟩,.int .i64 11]) (by simp [results,Tryz.results182,go_sem]) rfl ?_
    obtain⟨l,_,_,d⟩:=HL.out
    exact⟨⟨#[]⟩,by rw[HN.out];rfl,d⟩
  ·have hks:k=s.size:=by omega
   have ha:=HAll.out
   rw[List.take_of_length_le (by rw[HZ.out];omega)]at ha
   have HT:Hid (F.text s=true):=aH ha
   have HW:=aH (gZ 34 (by omega) HL.out)
   clear ha hks HL
   go_wp2_with fail
   refine HW.out.mono ?_
   rintro e w3 ⟨rfl,l3,z3,b3,d3⟩
   have HS:=aH (Tryz.Builder_String_any w.heap.size w.heap.size l3 w3 b3 d3.size)
   have HD:=aH d3
   clear z3 b3 d3 HW
   go_wp2_with fail
   refine HS.out.mono ?_
   rintro e w4 ⟨rfl,hb4⟩
   have HD4:=aH (HD.out.trans hb4)
   clear hb4 HD HS
   go_wp2
   refine bK (v:=.tuple #[.string ⟨l3.toArray⟩,.int .i64 0]) (by simp [results,Tryz.results182,go_sem]) rfl ?_
   exact⟨_,by rw[HT.out];rfl,HD4.out⟩
theorem aD4 (s:ByteArray) (w:World) (hs:s.size≤1099511627776):Calls Tryz.prog 154 #[.string s] w (pR w (F.text s)):=by
 have HQ:=aH (aH4 s w hs)
 rcases tf (F.text s) with h | h
 all_goals
  rw[h]at HQ ⊢
  clear h
  go_enter Tryz.func154,Tryz.ntmps154
  go_wp2_with fail
  refine HQ.out.mono ?_
  rintro e w1 ⟨q,rfl,hb⟩
  have HB:=aH hb
  clear hb HQ
  go_wp2
  go_ret
  exact⟨rfl,HB.out⟩
def aEH (Q:Act→World→Prop):Exit→Act→World→Prop
 | .normal,a,w=>Q a w
 | _,_,_=>False
theorem aEH.imp {Q:Act→World→Prop} {Q':Exit→Act→World→Prop} (h:∀ a w,Q a w→Q' .normal a w):∀ (e:Exit) (a:Act) (w:World),aEH Q e a w→Q' e a w:=fun e a w hq=>by
 cases e<;>first | exact h a w hq | exact (hq:False).elim
def RetR (w:World) (s:Int) (r:ByteArray) (m:Int) (xs:List FD) (e:Ending) (w':World):Prop :=
 ∃ A c,e=.returned (.agg #[.int .i64 s,.string r,.int .i64 m,.slice A xs.length c])∧Row w' w.heap.size 60 2 A xs.length c (aI xs)∧Below w.heap.size w w'
theorem Row.far {w:World} {base:Nat} {e:TypeId} {size:Nat} {A:Option Addr} {n c:Nat} {xs:List Value} (h:Row w base e size A n c xs) {b i:Nat} (hb:b < base) (v:Value):Row (w.setCell ⟨b,i,none⟩ v) base e size A n c xs:=by
 rcases h with ⟨h1,h2⟩ | h
 ·refine .inl ⟨h1,?_⟩
  rcases h2 with h2 | ⟨g,cap,cur,hv,hg,hh,r⟩
  ·exact .inl h2
  ·refine .inr ⟨g,cap,cur,hv,hg,?_,r⟩
   rw[← hh]
   unfold World.setCell
   simp only[Array.getElem?_modify]
   rw[if_neg (by omega)]
 ·exact .inr h
theorem Four.far {u:World} {b b':Nat} (h:Four u b') (hne:b'≠b) (i:Nat) (x:Value):Four (u.setCell ⟨b,i,none⟩ x) b':=by
 obtain⟨⟨a0,f0⟩,⟨a1,f1⟩,⟨a2,f2⟩,⟨a3,f3⟩⟩:=h
 have o:∀ j,(u.setCell ⟨b,i,none⟩ x).cell? ⟨b',j,none⟩=u.cell? ⟨b',j,none⟩:=fun j=>World.cell?_setCell_far _ _ _ _ (fun e=>hne e.symm)
 have f:∀ j,(u.setCell ⟨b,i,none⟩ x).frozen? ⟨b',j,none⟩=u.frozen? ⟨b',j,none⟩:=fun j=>World.frozen?_setCell _ _ _ _
 exact⟨⟨iH ((o 0).trans a0),(f 0).trans f0⟩,⟨iH ((o 1).trans a1),(f 1).trans f1⟩,⟨iH ((o 2).trans a2),(f 2).trans f2⟩,⟨iH ((o 3).trans a3),(f 3).trans f3⟩⟩
theorem Row.set4 {w:World} {base:Nat} {e:TypeId} {size:Nat} {A:Option Addr} {n c:Nat} {xs:List Value} (h:Row w base e size A n c xs) {b:Nat} (hb:b < base) (y0 y1 y2 y3:Value):Row ((((w.setCell ⟨b,0,none⟩ y0).setCell ⟨b,1,none⟩ y1).setCell ⟨b,2,none⟩ y2).setCell ⟨b,3,none⟩ y3) base e size A n c xs :=
 (((h.far hb _).far hb _).far hb _).far hb _
theorem aG5 {B:Nat} {w u:World} (h:Below B w u) {b:Nat} (hb:B≤b) (y0 y1 y2 y3:Value):Below B w ((((u.setCell ⟨b,0,none⟩ y0).setCell ⟨b,1,none⟩ y1).setCell ⟨b,2,none⟩ y2).setCell ⟨b,3,none⟩ y3) :=
 (((h.setCell (p:=⟨b,0,none⟩) hb _).setCell (p:=⟨b,1,none⟩) hb _).setCell (p:=⟨b,2,none⟩) hb _).setCell (p:=⟨b,3,none⟩) hb _
theorem qE (s m:Int) (r:ByteArray) (A:Option Addr) (n c:Nat) (fs:List FD) (w:World) (hl:fs.length=n) (hn:n≤1099511627776) (hx:Rd w A n 2 (aI fs)) :
  Calls Tryz.prog 36 #[.agg #[.int .i64 s,.string r,.int .i64 m,.slice A n c]] w (RetR w s r m fs):=by
 have HC:=aH (fun (w1:World) (hb:Below w.heap.size w w1)=>kS A n c fs w1 hn (hx.below hb))
 subst hl
 clear hx hn
 go_enter Tryz.func36,Tryz.ntmps36
 go_wp2_with fail
 refine (HC.out _ (((zB _ _).alloc (zA _) _).alloc (by rw[bJ];omega) _)).mono ?_
 rintro e w1 ⟨A1,c1,rfl,hr1,hb1⟩
 obtain⟨x0,x1,x2,x3⟩:=((aIG (w:=w) (.int .i64 s) (.string r) (.int .i64 m) (.slice A fs.length c) 38).below ((zB _ _).alloc (zA _) _)).below hb1
 have y4:=(aIG (w:=w.alloc (.cells #[.int .i64 s,.string r,.int .i64 m,.slice A fs.length c] 38)) (.int .i64 0) (.string ⟨#[]⟩) (.int .i64 0) (.slice none 0 0) 38).below hb1
 have g4:∀ i,w1.frozen? ⟨w.heap.size+1,i,none⟩=false:=fun i=>by
  have:=aON hb1 i
  rwa [bJ]at this
 have k4:w1.frozen? ⟨w.heap.size,3,none⟩=false:=by
  rw[hb1.frozen (p:=⟨w.heap.size,3,none⟩) (by simp only[bJ];omega)]
  rw[frozen?_alloc_cells]
  exact aBA _ _ _
 rw[bJ]at y4
 obtain⟨y0,y1,y2,y3⟩:=y4
 have g0:=g4 0
 have g1:=g4 1
 have g2:=g4 2
 have g3:=g4 3
 have HG4:=aH g4
 have HY4:=aH (show Four w1 (w.heap.size+1) from⟨⟨iH y0,g0⟩,⟨iH y1,g1⟩,⟨iH y2,g2⟩,⟨iH y3,g3⟩⟩)
 have hB:=aA (b:=(w.alloc (.cells #[.int .i64 s,.string r,.int .i64 m,.slice A fs.length c] 38)).alloc (.cells #[.int .i64 0,.string ⟨#[]⟩,.int .i64 0,.slice none 0 0] 38)) (by simp only[bJ];omega) (((zB _ _).alloc (zA _) _).alloc (by rw[bJ];omega) _) hb1
 have HB:=aH hB
 have HR:=aH hr1
 clear hB hb1 hr1 g4 HC
 go_wp2
 have hfour:=(HY4.out.far (b:=w.heap.size) (by omega) 3 (.slice A1 fs.length c1)).set4 (.int .i64 s) (.string r) (.int .i64 m) (.slice A1 fs.length c1)
 have hrow:=(HR.out.far (b:=w.heap.size) (i:=3) (by simp only[bJ];omega) (.slice A1 fs.length c1)).set4 (b:=w.heap.size+1) (by simp only[bJ];omega) (.int .i64 s) (.string r) (.int .i64 m) (.slice A1 fs.length c1)
 have hbel:=aG5 (HB.out.setCell (p:=⟨w.heap.size,3,none⟩) (zA _) (.slice A1 fs.length c1)) (b:=w.heap.size+1) (by omega) (.int .i64 s) (.string r) (.int .i64 m) (.slice A1 fs.length c1)
 clear x0 x1 x2 x3 y0 y1 y2 y3 g0 g1 g2 g3 k4 HY4 HR HB
 generalize (((((w1.setCell ⟨w.heap.size,3,none⟩ (.slice A1 fs.length c1)).setCell ⟨w.heap.size+1,0,none⟩ (.int .i64 s)).setCell ⟨w.heap.size+1,1,none⟩ (.string r)).setCell ⟨w.heap.size+1,2,none⟩ (.int .i64 m)).setCell ⟨w.heap.size+1,3,none⟩ (.slice A1 fs.length c1))=U at *
 obtain⟨d0,d1,d2,d3⟩:=hfour
 refine bK (v:=.agg #[.int .i64 s,.string r,.int .i64 m,.slice A1 fs.length c1]) (by simp [results,Tryz.results36,go_sem,d0,d1,d2,d3]) rfl ?_
 exact⟨A1,c1,rfl,hrow.mono (by simp only[bJ];omega),hbel⟩
def aPN (w:World) (b:Nat) (x0 x1 x2 x3:Value) (u:World):Prop:=nH u b x0 x1 x2 x3∧Four u b∧Four u (b+1)∧Below w.heap.size w u
theorem aPN.below {w:World} {b:Nat} {x0 x1 x2 x3:Value} {u v:World} (h:aPN w b x0 x1 x2 x3 u) (hb:Below u.heap.size u v):aPN w b x0 x1 x2 x3 v :=
 ⟨h.1.below hb,h.2.1.below hb,h.2.2.1.below hb,aA h.2.2.2.size h.2.2.2 hb⟩
end Go.Proofs.YthjeglnkgdpijaaGreatDoor
